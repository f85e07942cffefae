
/- TableOrder: plain. -/
import Derived.Test.YtoecmoicaklbaaaLk
set_option linter.unusedVariables false
set_option linter.unusedSimpArgs false
namespace Wk
open Go Go.RowKit Go.Sort
/-- A slice literal of one row is the call's own. -/
theorem own_new {W : World} {B sz b : Nat} {c : List Value} {E : TypeId} (hb : b = W.heap.size) (hB : B ≤ b) (hc : c.length = sz) (hm : sz ≤ 1000) : Wk.Own (W.alloc (.cells c.toArray E)) B E sz (.slice (some ⟨b, 0, none⟩) 1 1) [c] := by
  subst hb
  refine ⟨by simpa using hc, by simpa using hc, .inr ⟨W.heap.size, 1, _, rfl, hB, World.alloc_heap_new W _, Nat.le_refl _, by unfold maxLen; omega, by simpa using hc, ?_⟩⟩
  simp [hc]
  rw [← hc, List.take_length]
end Wk
namespace Go.Proofs.Ytoecmoicaklbaaa
open Go Go.RowKit Go.Sort Wc Wk

def putAct (x : Nat × Nat × Nat) : ActD := ⟨1, x.1, x.2.1, x.2.2, 0⟩
theorem putAct_fit {l : List (Nat × Nat × Nat)} (h : RtOk l) : ∀ x ∈ l, (putAct x).fit := fun x hx =>
  ⟨h.vp x hx, fits0, (by decide : 1 ≤ 1 ∧ 1 ≤ 4), fun _ => h.lo x hx, h.hi x hx⟩
/-- Routes that are put one by one. -/
theorem tend_puts : ∀ (n : Nat) {l : List (Nat × Nat × Nat)} (h : RtOk l), l.length = n → tend [] (l.map putAct) = putAll l
  | 0, l, h, hn => by
    have : l = [] := List.eq_nil_of_length_eq_zero hn
    subst this; rfl
  | n + 1, l, h, hn => by
    obtain ⟨x, hx⟩ : ∃ x, l[n]? = some x := ⟨_, List.getElem?_eq_getElem (by omega)⟩
    have e : l = l.take n ++ [x] := by
      have : l.take (n + 1) = l.take n ++ [x] := by rw [List.take_add_one, hx]; rfl
      rw [← this, List.take_of_length_le (by omega)]
    have ih := tend_puts n (h.take n) (by rw [List.length_take]; omega)
    have hl := (putAll_ok n (h.take n) (by rw [List.length_take]; omega)).2.2.2
    have h60 := h.len
    have st : ∀ M, tstep M (putAct x) = if M.length = 60 ∧ hasL M x.1 x.2.1 = 0 then (M, ⟨9, 0, 0⟩) else (putL M x.1 x.2.1 x.2.2, ⟨0, hasL M x.1 x.2.1, 0⟩) := fun M => rfl
    rw [e, List.map_append, tend_app, ih, putAll_snoc]
    show (tstep (putAll (l.take n)) (putAct x)).1 = _
    rw [st, if_neg (fun e => by have := e.1; rw [hl, List.length_take] at this; omega)]
/-- The routes of a list, from the t-th on, around, the last one first. -/
def around (L : List (Nat × Nat × Nat)) (t m : Nat) : List (Nat × Nat × Nat) := ((List.range m).map (fun i => L.getD ((i + t) % L.length) (0, 0, 0))).reverse
theorem around_succ (L : List (Nat × Nat × Nat)) (t m : Nat) : around L t (m + 1) = L.getD ((m + t) % L.length) (0, 0, 0) :: around L t m := by
  unfold around
  rw [List.range_succ, List.map_append, List.reverse_append]; rfl
theorem around_len (L : List (Nat × Nat × Nat)) (t m : Nat) : (around L t m).length = m := by simp [around]
theorem mod_inj {n t i j : Nat} (hi : i < n) (hj : j < n) (h : (i + t) % n = (j + t) % n) : i = j := by
  have h1 := Nat.div_add_mod (i + t) n
  have h2 := Nat.div_add_mod (j + t) n
  rw [h] at h1
  have hd : (i + t) / n = (j + t) / n := by
    rcases Nat.lt_trichotomy ((i + t) / n) ((j + t) / n) with hlt | heq | hgt
    · have : n * ((i + t) / n) + n ≤ n * ((j + t) / n) := by rw [← Nat.mul_succ]; exact Nat.mul_le_mul_left _ hlt
      omega
    · exact heq
    · have : n * ((j + t) / n) + n ≤ n * ((i + t) / n) := by rw [← Nat.mul_succ]; exact Nat.mul_le_mul_left _ hgt
      omega
  rw [hd] at h1
  omega
theorem around_ok {L : List (Nat × Nat × Nat)} (h : RtOk L) (t m : Nat) (hm : m ≤ L.length) : RtOk (around L t m) ∧ ∀ x ∈ around L t m, x ∈ L := by
  have at_ : ∀ i, i < m → ∃ x, L[(i + t) % L.length]? = some x ∧ L.getD ((i + t) % L.length) (0, 0, 0) = x := fun i hi => by
    have hlt : (i + t) % L.length < L.length := Nat.mod_lt _ (by omega)
    exact ⟨_, List.getElem?_eq_getElem hlt, by rw [List.getD_eq_getElem?_getD, List.getElem?_eq_getElem hlt]; rfl⟩
  have mem : ∀ x ∈ around L t m, x ∈ L := fun x hx => by
    simp only [around, List.mem_reverse, List.mem_map, List.mem_range] at hx
    obtain ⟨i, hi, rfl⟩ := hx
    obtain ⟨x, h1, h2⟩ := at_ i hi
    rw [h2]; exact List.mem_of_getElem? h1
  refine ⟨⟨fun x hx => h.vp x (mem x hx), fun x hx => h.lo x (mem x hx), fun x hx => h.hi x (mem x hx), ?_, by rw [around_len]; have := h.len; omega⟩, mem⟩
  unfold around
  rw [List.pairwise_reverse, List.pairwise_map]
  refine List.pairwise_lt_range.imp_of_mem (fun {i j} hi hj hij => ?_)
  rw [List.mem_range] at hi hj
  obtain ⟨x, x1, x2⟩ := at_ i hi
  obtain ⟨y, y1, y2⟩ := at_ j hj
  rw [x2, y2]
  intro e
  have hne : (i + t) % L.length ≠ (j + t) % L.length := fun e => by have := mod_inj (by omega) (by omega) e; omega
  obtain ⟨a1, rfl⟩ := List.getElem?_eq_some_iff.1 x1
  obtain ⟨b1, rfl⟩ := List.getElem?_eq_some_iff.1 y1
  rcases Nat.lt_or_gt_of_ne hne with hlt | hlt
  · exact List.pairwise_iff_getElem.1 h.keys _ _ a1 b1 hlt ⟨e.1.symm, e.2.symm⟩
  · exact List.pairwise_iff_getElem.1 h.keys _ _ b1 a1 hlt e
theorem around_all {L : List (Nat × Nat × Nat)} (t : TabOk L) (s : Nat) : tend [] ((around L s L.length).map putAct) = L := by
  have h := RtOk.of_tab t
  obtain ⟨h1, h2⟩ := around_ok h s L.length (Nat.le_refl _)
  rw [tend_puts _ h1 rfl]
  obtain ⟨p1, p2, p3, p4⟩ := putAll_ok _ h1 rfl
  rw [around_len] at p4
  have hnd : (putAll (around L s L.length)).Nodup := p1.imp (fun {x y} h e => by subst e; unfold lt3 at h; omega)
  have hnd2 : L.Nodup := t.srt.imp (fun {x y} h e => by subst e; unfold lt3 at h; omega)
  refine sorted_ext p1 t.srt (fun x => ⟨fun hx => h2 x ((p3 x).1 hx), fun hx => ?_⟩)
  apply Classical.byContradiction
  intro hno
  have hsub : (x :: putAll (around L s L.length)).length ≤ L.length := (List.nodup_cons.2 ⟨hno, hnd⟩).length_le_of_subset (fun y hy => by
    rcases List.mem_cons.1 hy with rfl | hy
    · exact hx
    · exact h2 y ((p3 y).1 hy))
  rw [List.length_cons, p4] at hsub
  omega
end Go.Proofs.Ytoecmoicaklbaaa
