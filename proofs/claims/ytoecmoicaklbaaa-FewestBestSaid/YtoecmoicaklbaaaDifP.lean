
/- QueueLast, plain: the last act of a prefix wins, pulled or played. -/
import Derived.Test.YtoecmoicaklbaaaQRow
import Derived.Test.YtoecmoicaklbaaaTbA
import Derived.Test.YtoecmoicaklbaaaLk
set_option linter.unusedVariables false
namespace Go.Proofs.Ytoecmoicaklbaaa
open Go Go.RowKit Wc

def eff (x : ActD) : Nat := if x.kind = 1 then x.hop else 0
theorem ok_fit {x : ActD} (h : x.ok) : x.fit := by
  obtain ⟨hv, ht, ha, hk⟩ := h
  refine ⟨hv, by rw [ha]; unfold Fits wd; simp, by omega, fun h1 => ?_, ht⟩
  rcases hk with ⟨_, h⟩ | h
  · exact h
  · omega
theorem eff_step {L : List (Nat × Nat × Nat)} (t : TabOk L) {x : ActD} (hx : x.ok) (hl : L.length < 60) (n k : Nat) :
    hasL (tstep L x).1 n k = (if x.n = n ∧ x.k = k then eff x else hasL L n k) ∧ (tstep L x).1.length ≤ L.length + 1 := by
  obtain ⟨_, _, _, hk⟩ := hx
  rcases hk with ⟨hk, hh⟩ | hk
  · have e : (tstep L x).1 = putL L x.n x.k x.hop := by
      unfold tstep
      rw [if_neg (by omega), if_neg (by omega), if_neg (by omega), if_neg (fun h => by omega)]
    rw [e]
    refine ⟨?_, ?_⟩
    · rw [hasL_put t.srt t.hops (by omega)]
      have ee : eff x = x.hop := by unfold eff; rw [if_pos hk]
      by_cases h : x.n = n ∧ x.k = k
      · rw [if_pos (show n = x.n ∧ k = x.k from ⟨h.1.symm, h.2.symm⟩), if_pos h, ee]
      · rw [if_neg (show ¬ (n = x.n ∧ k = x.k) from fun g => h ⟨g.1.symm, g.2.symm⟩), if_neg h]
    · rw [len_putL t.srt t.hops]
      split <;> omega
  · have e : (tstep L x).1 = cutL L x.n x.k := by
      unfold tstep
      rw [if_neg (by omega), if_pos hk]
    rw [e]
    refine ⟨?_, Nat.le_succ_of_le (List.length_filter_le _ _)⟩
    rw [hasL_cut t.srt t.hops]
    have ee : eff x = 0 := by unfold eff; rw [if_neg (by omega)]
    by_cases h : x.n = n ∧ x.k = k
    · rw [if_pos (show n = x.n ∧ k = x.k from ⟨h.1.symm, h.2.symm⟩), if_pos h, ee]
    · rw [if_neg (show ¬ (n = x.n ∧ k = x.k) from fun g => h ⟨g.1.symm, g.2.symm⟩), if_neg h]
/-- What a prefix has behind acts. -/
def lastE (n k : Nat) : Nat → List ActD → Nat
  | d, [] => d
  | d, x :: q => lastE n k (if x.n = n ∧ x.k = k then eff x else d) q
theorem lastE_app (n k : Nat) : ∀ (a b : List ActD) (d : Nat), lastE n k d (a ++ b) = lastE n k (lastE n k d a) b
  | [], _, _ => rfl
  | x :: a, b, d => lastE_app n k a b _
theorem lastE_far (n k : Nat) : ∀ (q : List ActD) (d : Nat), (∀ x ∈ q, ¬ (x.n = n ∧ x.k = k)) → lastE n k d q = d
  | [], _, _ => rfl
  | x :: q, d, h => by
    show lastE n k (if x.n = n ∧ x.k = k then eff x else d) q = d
    rw [if_neg (h x (by simp))]
    exact lastE_far n k q d (fun y hy => h y (by simp [hy]))
theorem tend_has (n k : Nat) : ∀ (q : List ActD) (L : List (Nat × Nat × Nat)), TabOk L → (∀ x ∈ q, x.ok) → L.length + q.length ≤ 60 →
    hasL (tend L q) n k = lastE n k (hasL L n k) q ∧ TabOk (tend L q) ∧ (tend L q).length ≤ L.length + q.length
  | [], L, t, _, _ => ⟨rfl, t, Nat.le_refl _⟩
  | x :: q, L, t, h, hl => by
    simp only [List.length_cons] at hl
    have hx := h x (by simp)
    have e := eff_step t hx (by omega) n k
    have ih := tend_has n k q (tstep L x).1 (t.step (ok_fit hx)) (fun y hy => h y (by simp [hy])) (by omega)
    refine ⟨?_, ih.2.1, ?_⟩
    · show hasL (tend (tstep L x).1 q) n k = lastE n k (if x.n = n ∧ x.k = k then eff x else hasL L n k) q
      rw [ih.1, e.1]
    · show (tend (tstep L x).1 q).length ≤ L.length + (q.length + 1)
      omega
theorem tend_same {L : List (Nat × Nat × Nat)} (t : TabOk L) {a b : List ActD} (ha : ∀ x ∈ a, x.ok) (hb : ∀ x ∈ b, x.ok) (la : L.length + a.length ≤ 60) (lb : L.length + b.length ≤ 60)
    (h : ∀ n k d, lastE n k d a = lastE n k d b) : tend L a = tend L b := by
  have h1 := (tend_has 0 0 a L t ha la).2.1
  have h2 := (tend_has 0 0 b L t hb lb).2.1
  exact tab_ext h1.srt h1.hops h2.srt h2.hops (fun n k => by rw [(tend_has n k a L t ha la).1, (tend_has n k b L t hb lb).1, h])
/-- A push that is merged is as one behind all others. -/
theorem merge_last {q : List ActD} (hn : (q.map ActD.pre).Nodup) {i : Nat} {x a : ActD} (hx : q[i]? = some x) (hp : x.pre = a.pre) (n k d : Nat) : lastE n k d (q.set i a) = lastE n k d (q ++ [a]) := by
  obtain ⟨hi, hxe⟩ := List.getElem?_eq_some_iff.1 hx
  have e1 : q = q.take i ++ x :: q.drop (i + 1) := by
    rw [← hxe, ← List.drop_eq_getElem_cons hi, List.take_append_drop]
  have e2 : q.set i a = q.take i ++ a :: q.drop (i + 1) := by
    rw [List.set_eq_take_append_cons_drop, if_pos hi]
  have hfar : ∀ y ∈ q.drop (i + 1), y.pre ≠ a.pre := fun y hy he => by
    rw [e1, List.map_append, List.map_cons] at hn
    have h3 := (List.nodup_append.1 hn).2.1
    rw [List.nodup_cons] at h3
    exact h3.1 (List.mem_map.2 ⟨y, hy, by rw [he, hp]⟩)
  rw [e2]
  conv => rhs; rw [e1]
  rw [List.append_assoc, lastE_app, lastE_app]
  show lastE n k (if a.n = n ∧ a.k = k then eff a else lastE n k d (q.take i)) (q.drop (i + 1)) = lastE n k (if x.n = n ∧ x.k = k then eff x else lastE n k d (q.take i)) (q.drop (i + 1) ++ [a])
  rw [lastE_app]
  have hxp : x.n = a.n ∧ x.k = a.k := by unfold ActD.pre at hp; simpa using hp
  by_cases h : a.n = n ∧ a.k = k
  · rw [if_pos h]
    have hf : ∀ y ∈ q.drop (i + 1), ¬ (y.n = n ∧ y.k = k) := fun y hy he => hfar y hy (by unfold ActD.pre; rw [he.1, he.2, h.1, h.2])
    rw [lastE_far n k _ _ hf, lastE_far n k _ _ hf]
    show _ = lastE n k (if a.n = n ∧ a.k = k then eff a else _) []
    rw [if_pos h]; rfl
  · rw [if_neg h, if_neg (fun g => h ⟨hxp.1 ▸ g.1, hxp.2 ▸ g.2⟩)]
    show _ = lastE n k (if a.n = n ∧ a.k = k then eff a else _) []
    rw [if_neg h]; rfl

/-- All acts that jobs pull; all that are let in. -/
def pulls (q : List ActD) (l : List JobD) : List ActD := (qrun q l).flatMap (·.acts)
def accs : List ActD → List JobD → List ActD
  | _, [] => []
  | q, j :: l => (if j.push ∧ (qstep q j).2.code = 0 then [j.act] else []) ++ accs (qstep q j).1 l
theorem step_nodup {q : List ActD} (hn : (q.map ActD.pre).Nodup) (j : JobD) : ((qstep q j).1.map ActD.pre).Nodup := by
  rcases qstep_cases q j with ⟨hp, i, x, hx, hs, hno, e⟩ | ⟨hp, hno, h⟩ | ⟨hp, h0, e⟩ | ⟨hp, h0, e⟩
  · rw [e]
    show ((q.set i j.act).map ActD.pre).Nodup
    have hpre : x.pre = j.act.pre := (same_pre _ _).1 hs
    rw [List.map_set, ← hpre]
    have : (q.map ActD.pre).set i x.pre = q.map ActD.pre := by
      apply List.ext_getElem?
      intro m
      rw [List.getElem?_set]
      by_cases hm : i = m
      · subst hm
        have hi := (List.getElem?_eq_some_iff.1 hx).1
        rw [if_pos rfl, if_pos (by simpa using hi), List.getElem?_map, hx]; rfl
      · rw [if_neg hm]
    rw [this]; exact hn
  · rcases h with ⟨_, e⟩ | ⟨_, e⟩
    · rw [e]; exact hn
    · rw [e]
      show ((q ++ [j.act]).map ActD.pre).Nodup
      rw [List.map_append, List.nodup_append]
      refine ⟨hn, by simp, fun a ha b hb => ?_⟩
      simp at hb
      subst hb
      intro he
      obtain ⟨y, hy, hye⟩ := List.mem_map.1 ha
      obtain ⟨m, hm⟩ := List.getElem?_of_mem hy
      have h1 := hno m y hm
      rw [(same_pre y j.act).2 (by rw [hye, he])] at h1
      cases h1
  · rw [e]; exact hn
  · rw [e]
    show ((q.drop j.num).map ActD.pre).Nodup
    rw [List.map_drop]
    exact hn.sublist (List.drop_sublist _ _)
theorem accs_ok : ∀ {q : List ActD} {l : List JobD}, (∀ j ∈ l, JobD.ok j) → ∀ x ∈ accs q l, x.ok
  | q, [], _, x, hx => by simp [accs] at hx
  | q, j :: l, h, x, hx => by
    have hx : x ∈ (if j.push ∧ (qstep q j).2.code = 0 then [j.act] else []) ++ accs (qstep q j).1 l := hx
    rcases List.mem_append.1 hx with hx | hx
    · split at hx
      · rename_i hc
        simp at hx
        subst hx
        rcases h j (by simp) with ⟨_, ho, _⟩ | ⟨hp, _⟩
        · exact ho
        · rw [hp] at hc; cases hc.1
      · cases hx
    · exact accs_ok (fun i hi => h i (by simp [hi])) x hx
theorem queue_last : ∀ (l : List JobD) (q : List ActD) (L : List (Nat × Nat × Nat)), TabOk L → (q.map ActD.pre).Nodup → (∀ x ∈ q, x.ok) → (∀ j ∈ l, JobD.ok j) → L.length + q.length + l.length ≤ 60 →
    tend L (pulls q l ++ qend q l) = tend (tend L q) (accs q l)
  | [], q, L, _, _, _, _, _ => rfl
  | j :: l, q, L, t, hn, hq, hl, hb => by
    simp only [List.length_cons] at hb
    have hq' := qstep_ok hq (hl j (by simp))
    have hn' := step_nodup hn j
    have hl' : ∀ i ∈ l, JobD.ok i := fun i hi => hl i (by simp [hi])
    show tend L (((qstep q j).2.acts ++ pulls (qstep q j).1 l) ++ qend (qstep q j).1 l) = tend (tend L q) ((if j.push ∧ (qstep q j).2.code = 0 then [j.act] else []) ++ accs (qstep q j).1 l)
    rcases qstep_cases q j with ⟨hp, i, x, hx, hs, hno, e⟩ | ⟨hp, hno, h⟩ | ⟨hp, h0, e⟩ | ⟨hp, h0, e⟩
    · rw [e] at hq' hn' ⊢
      dsimp only at hq' hn' ⊢
      have ih := queue_last l (q.set i j.act) L t hn' hq' hl' (by rw [List.length_set]; omega)
      have ha : j.act.ok := by
        rcases hl j (by simp) with ⟨_, ho, _⟩ | ⟨hp2, _⟩
        · exact ho
        · rw [hp] at hp2; cases hp2
      rw [List.nil_append, ih, if_pos ⟨hp, rfl⟩, tend_app (tend L q) [j.act], ← tend_app L q [j.act]]
      congr 1
      refine tend_same t hq' (fun y hy => ?_) (by rw [List.length_set]; omega) (by simp; omega) (fun n k d => merge_last hn hx ((same_pre _ _).1 hs) n k d)
      rcases List.mem_append.1 hy with hy | hy
      · exact hq y hy
      · simp at hy; subst hy; exact ha
    · rcases h with ⟨h8, e⟩ | ⟨h8, e⟩
      · rw [e] at hq' hn' ⊢
        dsimp only at hq' hn' ⊢
        have ih := queue_last l q L t hn hq hl' (by omega)
        rw [List.nil_append, ih, if_neg (fun h => by cases h.2)]
        rfl
      · rw [e] at hq' hn' ⊢
        dsimp only at hq' hn' ⊢
        have ih := queue_last l (q ++ [j.act]) L t hn' hq' hl' (by simp; omega)
        rw [List.nil_append, ih, if_pos ⟨hp, rfl⟩, tend_app (tend L q) [j.act], ← tend_app L q [j.act]]
    · rw [e] at hq' hn' ⊢
      dsimp only at hq' hn' ⊢
      have ih := queue_last l q L t hn hq hl' (by omega)
      rw [List.nil_append, ih, if_neg (fun h => by rw [hp] at h; cases h.1)]
      rfl
    · rw [e] at hq' hn' ⊢
      dsimp only at hq' hn' ⊢
      have hqt : ∀ x ∈ q.take j.num, x.ok := fun x hx => hq x (List.mem_of_mem_take hx)
      have htl : (q.take j.num).length + (q.drop j.num).length = q.length := by rw [List.length_take, List.length_drop]; omega
      obtain ⟨_, t1, t2⟩ := tend_has 0 0 (q.take j.num) L t hqt (by omega)
      have ih := queue_last l (q.drop j.num) (tend L (q.take j.num)) t1 hn' hq' hl' (by omega)
      rw [if_neg (fun h => by rw [hp] at h; cases h.1), List.nil_append, List.append_assoc, tend_app, ih, ← tend_app L (q.take j.num) (q.drop j.num), List.take_append_drop]
/-- .. and all is pulled at the end. -/
theorem queue_law {l : List JobD} (hl : ∀ j ∈ l, JobD.ok j) (hb : l.length ≤ 60) : tend [] (pulls [] (l ++ [⟨false, actZ, 8⟩])) = tend [] (accs [] l) := by
  have h := queue_last l [] [] TabOk.nil (by simp) (by simp) hl (by simpa using hb)
  have e : pulls [] (l ++ [⟨false, actZ, 8⟩]) = pulls [] l ++ qend [] l := by
    unfold pulls
    rw [qrun_app, List.flatMap_append]
    congr 1
    have h8 := qend_len (q := []) l (by decide)
    show (qstep (qend [] l) ⟨false, actZ, 8⟩).2.acts ++ [] = _
    rw [List.append_nil]
    rcases qstep_cases (qend [] l) ⟨false, actZ, 8⟩ with ⟨h, _⟩ | ⟨h, _⟩ | ⟨_, h0, e⟩ | ⟨_, h0, e⟩
    · cases h
    · cases h
    · rw [e, List.length_eq_zero_iff.1 h0]
    · rw [e]; exact List.take_of_length_le h8
  rw [e, h]
  rfl
end Go.Proofs.Ytoecmoicaklbaaa

/- TableOrder: plain. -/
set_option linter.unusedVariables false
set_option linter.unusedSimpArgs false
namespace Wk
open Go Go.RowKit Go.Sort
/-- A slice literal of one row is the call's own. -/
theorem own_new {W : World} {B sz b : Nat} {c : List Value} {E : TypeId} (hb : b = W.heap.size) (hB : B ≤ b) (hc : c.length = sz) (hm : sz ≤ 1000) : Wk.Own (W.alloc (.cells c.toArray E)) B E sz (.slice (some ⟨b, 0, none⟩) 1 1) [c] := by
  subst hb
  refine ⟨by simpa using hc, by simpa using hc, .inr ⟨W.heap.size, 1, _, rfl, hB, World.alloc_heap_new W _, Nat.le_refl _, by unfold maxLen; omega, by simpa using hc, ?_⟩⟩
  simp [hc]
  rw [← hc, List.take_length]
end Wk
namespace Go.Proofs.Ytoecmoicaklbaaa
open Go Go.RowKit Go.Sort Wc Wk

def putAct (x : Nat × Nat × Nat) : ActD := ⟨1, x.1, x.2.1, x.2.2, 0⟩
theorem putAct_fit {l : List (Nat × Nat × Nat)} (h : RtOk l) : ∀ x ∈ l, (putAct x).fit := fun x hx =>
  ⟨h.vp x hx, fits0, (by decide : 1 ≤ 1 ∧ 1 ≤ 4), fun _ => h.lo x hx, h.hi x hx⟩
/-- Routes that are put one by one. -/
theorem tend_puts : ∀ (n : Nat) {l : List (Nat × Nat × Nat)} (h : RtOk l), l.length = n → tend [] (l.map putAct) = putAll l
  | 0, l, h, hn => by
    have : l = [] := List.eq_nil_of_length_eq_zero hn
    subst this; rfl
  | n + 1, l, h, hn => by
    obtain ⟨x, hx⟩ : ∃ x, l[n]? = some x := ⟨_, List.getElem?_eq_getElem (by omega)⟩
    have e : l = l.take n ++ [x] := by
      have : l.take (n + 1) = l.take n ++ [x] := by rw [List.take_add_one, hx]; rfl
      rw [← this, List.take_of_length_le (by omega)]
    have ih := tend_puts n (h.take n) (by rw [List.length_take]; omega)
    have hl := (putAll_ok n (h.take n) (by rw [List.length_take]; omega)).2.2.2
    have h60 := h.len
    have st : ∀ M, tstep M (putAct x) = if M.length = 60 ∧ hasL M x.1 x.2.1 = 0 then (M, ⟨9, 0, 0⟩) else (putL M x.1 x.2.1 x.2.2, ⟨0, hasL M x.1 x.2.1, 0⟩) := fun M => rfl
    rw [e, List.map_append, tend_app, ih, putAll_snoc]
    show (tstep (putAll (l.take n)) (putAct x)).1 = _
    rw [st, if_neg (fun e => by have := e.1; rw [hl, List.length_take] at this; omega)]
/-- The routes of a list, from the t-th on, around, the last one first. -/
def around (L : List (Nat × Nat × Nat)) (t m : Nat) : List (Nat × Nat × Nat) := ((List.range m).map (fun i => L.getD ((i + t) % L.length) (0, 0, 0))).reverse
theorem around_succ (L : List (Nat × Nat × Nat)) (t m : Nat) : around L t (m + 1) = L.getD ((m + t) % L.length) (0, 0, 0) :: around L t m := by
  unfold around
  rw [List.range_succ, List.map_append, List.reverse_append]; rfl
theorem around_len (L : List (Nat × Nat × Nat)) (t m : Nat) : (around L t m).length = m := by simp [around]
theorem mod_inj {n t i j : Nat} (hi : i < n) (hj : j < n) (h : (i + t) % n = (j + t) % n) : i = j := by
  have h1 := Nat.div_add_mod (i + t) n
  have h2 := Nat.div_add_mod (j + t) n
  rw [h] at h1
  have hd : (i + t) / n = (j + t) / n := by
    rcases Nat.lt_trichotomy ((i + t) / n) ((j + t) / n) with hlt | heq | hgt
    · have : n * ((i + t) / n) + n ≤ n * ((j + t) / n) := by rw [← Nat.mul_succ]; exact Nat.mul_le_mul_left _ hlt
      omega
    · exact heq
    · have : n * ((j + t) / n) + n ≤ n * ((i + t) / n) := by rw [← Nat.mul_succ]; exact Nat.mul_le_mul_left _ hgt
      omega
  rw [hd] at h1
  omega
theorem around_ok {L : List (Nat × Nat × Nat)} (h : RtOk L) (t m : Nat) (hm : m ≤ L.length) : RtOk (around L t m) ∧ ∀ x ∈ around L t m, x ∈ L := by
  have at_ : ∀ i, i < m → ∃ x, L[(i + t) % L.length]? = some x ∧ L.getD ((i + t) % L.length) (0, 0, 0) = x := fun i hi => by
    have hlt : (i + t) % L.length < L.length := Nat.mod_lt _ (by omega)
    exact ⟨_, List.getElem?_eq_getElem hlt, by rw [List.getD_eq_getElem?_getD, List.getElem?_eq_getElem hlt]; rfl⟩
  have mem : ∀ x ∈ around L t m, x ∈ L := fun x hx => by
    simp only [around, List.mem_reverse, List.mem_map, List.mem_range] at hx
    obtain ⟨i, hi, rfl⟩ := hx
    obtain ⟨x, h1, h2⟩ := at_ i hi
    rw [h2]; exact List.mem_of_getElem? h1
  refine ⟨⟨fun x hx => h.vp x (mem x hx), fun x hx => h.lo x (mem x hx), fun x hx => h.hi x (mem x hx), ?_, by rw [around_len]; have := h.len; omega⟩, mem⟩
  unfold around
  rw [List.pairwise_reverse, List.pairwise_map]
  refine List.pairwise_lt_range.imp_of_mem (fun {i j} hi hj hij => ?_)
  rw [List.mem_range] at hi hj
  obtain ⟨x, x1, x2⟩ := at_ i hi
  obtain ⟨y, y1, y2⟩ := at_ j hj
  rw [x2, y2]
  intro e
  have hne : (i + t) % L.length ≠ (j + t) % L.length := fun e => by have := mod_inj (by omega) (by omega) e; omega
  obtain ⟨a1, rfl⟩ := List.getElem?_eq_some_iff.1 x1
  obtain ⟨b1, rfl⟩ := List.getElem?_eq_some_iff.1 y1
  rcases Nat.lt_or_gt_of_ne hne with hlt | hlt
  · exact List.pairwise_iff_getElem.1 h.keys _ _ a1 b1 hlt ⟨e.1.symm, e.2.symm⟩
  · exact List.pairwise_iff_getElem.1 h.keys _ _ b1 a1 hlt e
theorem around_all {L : List (Nat × Nat × Nat)} (t : TabOk L) (s : Nat) : tend [] ((around L s L.length).map putAct) = L := by
  have h := RtOk.of_tab t
  obtain ⟨h1, h2⟩ := around_ok h s L.length (Nat.le_refl _)
  rw [tend_puts _ h1 rfl]
  obtain ⟨p1, p2, p3, p4⟩ := putAll_ok _ h1 rfl
  rw [around_len] at p4
  have hnd : (putAll (around L s L.length)).Nodup := p1.imp (fun {x y} h e => by subst e; unfold lt3 at h; omega)
  have hnd2 : L.Nodup := t.srt.imp (fun {x y} h e => by subst e; unfold lt3 at h; omega)
  refine sorted_ext p1 t.srt (fun x => ⟨fun hx => h2 x ((p3 x).1 hx), fun hx => ?_⟩)
  apply Classical.byContradiction
  intro hno
  have hsub : (x :: putAll (around L s L.length)).length ≤ L.length := (List.nodup_cons.2 ⟨hno, hnd⟩).length_le_of_subset (fun y hy => by
    rcases List.mem_cons.1 hy with rfl | hy
    · exact hx
    · exact h2 y ((p3 y).1 hy))
  rw [List.length_cons, p4] at hsub
  omega
end Go.Proofs.Ytoecmoicaklbaaa

/- Plain laws on what two tables part by: the acts that make the one of the other. -/
set_option linter.unusedVariables false
set_option linter.unusedSimpArgs false
namespace Go.Proofs.Ytoecmoicaklbaaa
open Go Go.RowKit Wc

theorem nodup_le {α : Type} [DecidableEq α] : ∀ {l m : List α}, l.Nodup → (∀ x ∈ l, x ∈ m) → l.length ≤ m.length
  | [], m, _, _ => Nat.zero_le _
  | x :: l, m, hn, h => by
    rw [List.nodup_cons] at hn
    have hx := h x (by simp)
    have h1 := nodup_le (m := m.erase x) hn.2 (fun y hy => (List.mem_erase_of_ne (by rintro rfl; exact hn.1 hy)).2 (h y (by simp [hy])))
    rw [List.length_erase_of_mem hx] at h1
    have h2 := List.length_pos_of_mem hx
    simp only [List.length_cons]; omega
theorem nodup_map {α β : Type} {f : α → β} : ∀ {l : List α}, l.Pairwise (fun x y => f x ≠ f y) → (l.map f).Nodup
  | [], _ => by simp
  | x :: l, h => by
    rw [List.pairwise_cons] at h
    rw [List.map_cons, List.nodup_cons]
    refine ⟨fun hm => ?_, nodup_map h.2⟩
    obtain ⟨y, hy, he⟩ := List.mem_map.1 hm
    exact h.1 y hy he.symm
def keyOf (x : Nat × Nat × Nat) : Nat × Nat := (x.1, x.2.1)
def keysL (L : List (Nat × Nat × Nat)) : List (Nat × Nat) := L.map keyOf
theorem keys_nodup {L : List (Nat × Nat × Nat)} (hs : Srt L) : (keysL L).Nodup := by
  refine nodup_map (hs.imp (fun {x y} h e => ?_))
  unfold keyOf at e
  simp only [Prod.mk.injEq] at e
  unfold lt3 at h; omega
theorem key_has {L : List (Nat × Nat × Nat)} (hh : Hops L) {n k : Nat} : (n, k) ∈ keysL L ↔ hasL L n k ≠ 0 := by
  unfold keysL
  rw [List.mem_map]
  constructor
  · rintro ⟨x, hx, he⟩ h0
    unfold keyOf at he
    simp only [Prod.mk.injEq] at he
    exact (has_none hh).1 h0 x hx he
  · intro h
    exact ⟨_, mem_hasL h, rfl⟩

def AllOk (L : List (Nat × Nat × Nat)) (q : List ActD) : Prop := ∀ a ∈ trun L q, a.code = 0
theorem AllOk.app {L : List (Nat × Nat × Nat)} {a b : List ActD} (h1 : AllOk L a) (h2 : AllOk (tend L a) b) : AllOk L (a ++ b) := by
  intro x hx
  rw [trun_app] at hx
  rcases List.mem_append.1 hx with hx | hx
  · exact h1 x hx
  · exact h2 x hx
theorem AllOk.at {L : List (Nat × Nat × Nat)} {q : List ActD} (h : AllOk L q) {i : Nat} {x : ActD} (hx : q[i]? = some x) : (tstep (tend L (q.take i)) x).2.code = 0 :=
  h _ (List.mem_of_getElem? (trun_at hx).1)
theorem AllOk.left {L : List (Nat × Nat × Nat)} {a b : List ActD} (h : AllOk L (a ++ b)) : AllOk L a := fun x hx => h x (by rw [trun_app]; exact List.mem_append_left _ hx)
theorem AllOk.right {L : List (Nat × Nat × Nat)} {a b : List ActD} (h : AllOk L (a ++ b)) : AllOk (tend L a) b := fun x hx => h x (by rw [trun_app]; exact List.mem_append_right _ hx)
theorem put_one {T : List (Nat × Nat × Nat)} (t : TabOk T) {x : ActD} (hx : x.fit) (hk : x.kind = 1) (hl : T.length < 60 ∨ hasL T x.n x.k ≠ 0) :
    (tstep T x).2.code = 0 ∧ ∀ n k, hasL (tstep T x).1 n k = if x.n = n ∧ x.k = k then eff x else hasL T n k := by
  have e : tstep T x = (putL T x.n x.k x.hop, ⟨0, hasL T x.n x.k, 0⟩) := by
    unfold tstep
    rw [if_neg (by omega), if_neg (by omega), if_neg (by omega), if_neg (fun h => by omega)]
  rw [e]
  refine ⟨rfl, fun n k => ?_⟩
  rw [hasL_put t.srt t.hops (by have := hx.hop hk; omega)]
  have ee : eff x = x.hop := by unfold eff; rw [if_pos hk]
  by_cases h : x.n = n ∧ x.k = k
  · rw [if_pos (show n = x.n ∧ k = x.k from ⟨h.1.symm, h.2.symm⟩), if_pos h, ee]
  · rw [if_neg (show ¬ (n = x.n ∧ k = x.k) from fun g => h ⟨g.1.symm, g.2.symm⟩), if_neg h]
theorem cut_one {T : List (Nat × Nat × Nat)} (t : TabOk T) {x : ActD} (hk : x.kind = 2) (hl : hasL T x.n x.k ≠ 0) :
    (tstep T x).2.code = 0 ∧ ∀ n k, hasL (tstep T x).1 n k = if x.n = n ∧ x.k = k then eff x else hasL T n k := by
  have e : tstep T x = (cutL T x.n x.k, ⟨0, hasL T x.n x.k, 0⟩) := by
    unfold tstep
    rw [if_neg (by omega), if_pos hk]
    unfold hadA
    rw [if_neg hl]
  rw [e]
  refine ⟨rfl, fun n k => ?_⟩
  rw [hasL_cut t.srt t.hops]
  have ee : eff x = 0 := by unfold eff; rw [if_neg (by omega)]
  by_cases h : x.n = n ∧ x.k = k
  · rw [if_pos (show n = x.n ∧ k = x.k from ⟨h.1.symm, h.2.symm⟩), if_pos h, ee]
  · rw [if_neg (show ¬ (n = x.n ∧ k = x.k) from fun g => h ⟨g.1.symm, g.2.symm⟩), if_neg h]
/-- Puts of prefixes of a list of at most 60. -/
theorem puts_in {K : List (Nat × Nat)} (hK : K.length ≤ 60) : ∀ (q : List ActD) {T : List (Nat × Nat × Nat)}, TabOk T → (∀ y ∈ T, keyOf y ∈ K) → (∀ x ∈ q, x.fit ∧ x.kind = 1 ∧ x.pre ∈ K) →
    AllOk T q ∧ ∀ n k, hasL (tend T q) n k = lastE n k (hasL T n k) q
  | [], T, t, _, _ => ⟨(fun a h => (List.not_mem_nil h).elim), fun n k => rfl⟩
  | x :: q, T, t, hT, hq => by
    obtain ⟨hf, hk, hp⟩ := hq x (by simp)
    have hl : T.length < 60 ∨ hasL T x.n x.k ≠ 0 := by
      by_cases h0 : hasL T x.n x.k = 0
      · refine .inl ?_
        have hnd : (x.pre :: keysL T).Nodup := by
          rw [List.nodup_cons]
          exact ⟨fun hm => (key_has t.hops).1 hm h0, keys_nodup t.srt⟩
        have := nodup_le (m := K) hnd (fun y hy => by
          rcases List.mem_cons.1 hy with rfl | hy
          · exact hp
          · obtain ⟨z, hz, rfl⟩ := List.mem_map.1 hy
            exact hT z hz)
        unfold keysL at this
        simp at this; omega
      · exact .inr h0
    obtain ⟨c0, hh⟩ := put_one t hf hk hl
    have t' := t.step hf
    obtain ⟨ha, hr⟩ := puts_in hK q t' (fun y hy => by
      have h1 : hasL (tstep T x).1 y.1 y.2.1 ≠ 0 := (key_has t'.hops).1 (List.mem_map.2 ⟨y, hy, rfl⟩)
      rw [hh] at h1
      split at h1
      · rename_i e
        have : keyOf y = x.pre := by unfold keyOf ActD.pre; rw [e.1, e.2]
        rw [this]; exact hp
      · obtain ⟨z, hz, he⟩ := List.mem_map.1 ((key_has t.hops).2 h1)
        have := hT z hz
        rw [he] at this
        exact this) (fun y hy => hq y (by simp [hy]))
    refine ⟨fun a hm => ?_, fun n k => ?_⟩
    · have hm : a ∈ (tstep T x).2 :: trun (tstep T x).1 q := hm
      rcases List.mem_cons.1 hm with rfl | hm
      · exact c0
      · exact ha a hm
    · show hasL (tend (tstep T x).1 q) n k = lastE n k (if x.n = n ∧ x.k = k then eff x else hasL T n k) q
      rw [hr, hh]
/-- Cuts of prefixes that are there. -/
theorem cuts_in : ∀ (q : List ActD) {T : List (Nat × Nat × Nat)}, TabOk T → (q.map ActD.pre).Nodup → (∀ x ∈ q, x.fit ∧ x.kind = 2 ∧ hasL T x.n x.k ≠ 0) →
    AllOk T q ∧ ∀ n k, hasL (tend T q) n k = lastE n k (hasL T n k) q
  | [], T, t, _, _ => ⟨(fun a h => (List.not_mem_nil h).elim), fun n k => rfl⟩
  | x :: q, T, t, hn, hq => by
    obtain ⟨hf, hk, hp⟩ := hq x (by simp)
    rw [List.map_cons, List.nodup_cons] at hn
    obtain ⟨c0, hh⟩ := cut_one t hk hp
    have t' := t.step hf
    obtain ⟨ha, hr⟩ := cuts_in q t' hn.2 (fun y hy => by
      obtain ⟨yf, yk, yp⟩ := hq y (by simp [hy])
      refine ⟨yf, yk, ?_⟩
      rw [hh, if_neg (fun e => hn.1 (List.mem_map.2 ⟨y, hy, by unfold ActD.pre; rw [e.1, e.2]⟩))]
      exact yp)
    refine ⟨fun a hm => ?_, fun n k => ?_⟩
    · have hm : a ∈ (tstep T x).2 :: trun (tstep T x).1 q := hm
      rcases List.mem_cons.1 hm with rfl | hm
      · exact c0
      · exact ha a hm
    · show hasL (tend (tstep T x).1 q) n k = lastE n k (if x.n = n ∧ x.k = k then eff x else hasL T n k) q
      rw [hr, hh]
theorem lastE_mem (n k : Nat) : ∀ (q : List ActD) (d : Nat) (x : ActD), (q.map ActD.pre).Nodup → x ∈ q → x.n = n ∧ x.k = k → lastE n k d q = eff x
  | y :: q, d, x, hn, hx, he => by
    rw [List.map_cons, List.nodup_cons] at hn
    show lastE n k (if y.n = n ∧ y.k = k then eff y else d) q = eff x
    rcases List.mem_cons.1 hx with rfl | hx
    · rw [if_pos he]
      refine lastE_far n k q _ (fun z hz hez => hn.1 (List.mem_map.2 ⟨z, hz, ?_⟩))
      unfold ActD.pre; rw [hez.1, hez.2, he.1, he.2]
    · exact lastE_mem n k q _ x hn.2 hx he

def cutAct (x : Nat × Nat × Nat) : ActD := ⟨2, x.1, x.2.1, 0, 0⟩
def cutsOf (L M : List (Nat × Nat × Nat)) : List ActD := (L.filter (fun x => decide (hasL M x.1 x.2.1 = 0))).map cutAct
def putsOf (L M : List (Nat × Nat × Nat)) : List ActD := (M.filter (fun y => decide (hasL L y.1 y.2.1 ≠ y.2.2))).map putAct
def diffL (L M : List (Nat × Nat × Nat)) : List ActD := cutsOf L M ++ putsOf L M
theorem mem_cutsOf {L M : List (Nat × Nat × Nat)} {x : ActD} : x ∈ cutsOf L M ↔ ∃ y ∈ L, hasL M y.1 y.2.1 = 0 ∧ x = cutAct y := by
  unfold cutsOf
  rw [List.mem_map]
  constructor
  · rintro ⟨y, hy, rfl⟩
    rw [List.mem_filter, decide_eq_true_iff] at hy
    exact ⟨y, hy.1, hy.2, rfl⟩
  · rintro ⟨y, hy, h0, rfl⟩
    exact ⟨y, by rw [List.mem_filter, decide_eq_true_iff]; exact ⟨hy, h0⟩, rfl⟩
theorem mem_putsOf {L M : List (Nat × Nat × Nat)} {x : ActD} : x ∈ putsOf L M ↔ ∃ y ∈ M, hasL L y.1 y.2.1 ≠ y.2.2 ∧ x = putAct y := by
  unfold putsOf
  rw [List.mem_map]
  constructor
  · rintro ⟨y, hy, rfl⟩
    rw [List.mem_filter, decide_eq_true_iff] at hy
    exact ⟨y, hy.1, hy.2, rfl⟩
  · rintro ⟨y, hy, h0, rfl⟩
    exact ⟨y, by rw [List.mem_filter, decide_eq_true_iff]; exact ⟨hy, h0⟩, rfl⟩
theorem cutAct_fit {L : List (Nat × Nat × Nat)} (t : TabOk L) {y : Nat × Nat × Nat} (hy : y ∈ L) : (cutAct y).fit := by
  refine ⟨t.vp y hy, ?_, (by decide : 1 ≤ 2 ∧ 2 ≤ 4), (fun h => by cases h), (by decide : 0 ≤ 999)⟩
  show Fits false 0
  unfold Fits wd; simp
theorem cuts_nodup {L : List (Nat × Nat × Nat)} (hs : Srt L) (M : List (Nat × Nat × Nat)) : ((cutsOf L M).map ActD.pre).Nodup := by
  unfold cutsOf
  rw [List.map_map]
  exact (keys_nodup hs).sublist (List.filter_sublist.map _)
theorem puts_nodup {M : List (Nat × Nat × Nat)} (hs : Srt M) (L : List (Nat × Nat × Nat)) : ((putsOf L M).map ActD.pre).Nodup := by
  unfold putsOf
  rw [List.map_map]
  exact (keys_nodup hs).sublist (List.filter_sublist.map _)
theorem diff_nodup {L M : List (Nat × Nat × Nat)} (t : TabOk L) (s : TabOk M) : ((diffL L M).map ActD.pre).Nodup := by
  unfold diffL
  rw [List.map_append, List.nodup_append]
  refine ⟨cuts_nodup t.srt M, puts_nodup s.srt L, ?_⟩
  rintro a ha b hb rfl
  obtain ⟨x, hx, rfl⟩ := List.mem_map.1 ha
  obtain ⟨y, hy, he⟩ := List.mem_map.1 hb
  obtain ⟨u, hu, h0, rfl⟩ := mem_cutsOf.1 hx
  obtain ⟨v, hv, _, rfl⟩ := mem_putsOf.1 hy
  have e : v.1 = u.1 ∧ v.2.1 = u.2.1 := by
    have he : (v.1, v.2.1) = (u.1, u.2.1) := he
    simpa using he
  exact (has_none s.hops).1 h0 v hv e
theorem diff_fit {L M : List (Nat × Nat × Nat)} (t : TabOk L) (s : TabOk M) : ∀ x ∈ diffL L M, x.fit := by
  intro x hx
  rcases List.mem_append.1 hx with hx | hx
  · obtain ⟨u, hu, _, rfl⟩ := mem_cutsOf.1 hx
    exact cutAct_fit t hu
  · obtain ⟨v, hv, _, rfl⟩ := mem_putsOf.1 hx
    exact putAct_fit (RtOk.of_tab s) v hv
theorem diff_len (L M : List (Nat × Nat × Nat)) : (diffL L M).length ≤ L.length + M.length := by
  unfold diffL cutsOf putsOf
  rw [List.length_append, List.length_map, List.length_map]
  have := List.length_filter_le (fun x => decide (hasL M x.1 x.2.1 = 0)) L
  have := List.length_filter_le (fun y : Nat × Nat × Nat => decide (hasL L y.1 y.2.1 ≠ y.2.2)) M
  omega
/-- The prefixes of the acts are those at which the tables part. -/
theorem diff_keys {L M : List (Nat × Nat × Nat)} (t : TabOk L) (s : TabOk M) (n k : Nat) : (n, k) ∈ (diffL L M).map ActD.pre ↔ hasL L n k ≠ hasL M n k := by
  rw [List.mem_map]
  constructor
  · rintro ⟨x, hx, he⟩
    rcases List.mem_append.1 hx with hx | hx
    · obtain ⟨u, hu, h0, rfl⟩ := mem_cutsOf.1 hx
      have he : (u.1, u.2.1) = (n, k) := he
      simp only [Prod.mk.injEq] at he
      obtain ⟨rfl, rfl⟩ := he
      rw [h0]
      exact (key_has t.hops).1 (List.mem_map.2 ⟨u, hu, rfl⟩)
    · obtain ⟨v, hv, h0, rfl⟩ := mem_putsOf.1 hx
      have he : (v.1, v.2.1) = (n, k) := he
      simp only [Prod.mk.injEq] at he
      obtain ⟨rfl, rfl⟩ := he
      rw [hasL_mem s.srt (show (v.1, v.2.1, v.2.2) ∈ M from hv)]
      exact h0
  · intro h
    by_cases h0 : hasL M n k = 0
    · have hl : hasL L n k ≠ 0 := by rw [h0] at h; exact h
      exact ⟨_, List.mem_append_left _ (mem_cutsOf.2 ⟨_, mem_hasL hl, h0, rfl⟩), rfl⟩
    · exact ⟨_, List.mem_append_right _ (mem_putsOf.2 ⟨_, mem_hasL h0, h, rfl⟩), rfl⟩
/-- Cuts and puts of them, in part. -/
theorem dif_part {L M : List (Nat × Nat × Nat)} (t : TabOk L) (s : TabOk M) {cs ps : List ActD} {K : List (Nat × Nat)} (hK : K.length ≤ 60) (hM : ∀ y ∈ M, keyOf y ∈ K)
    (hc : cs.Sublist (cutsOf L M)) (hp : ps.Sublist (putsOf L M)) (hall : ∀ x ∈ cutsOf L M, x ∈ cs ∨ x.pre ∈ K) :
    AllOk L (cs ++ ps) ∧ (∀ n k, hasL (tend L (cs ++ ps)) n k = lastE n k (hasL L n k) (cs ++ ps)) ∧ TabOk (tend L (cs ++ ps)) := by
  have hcf : ∀ x ∈ cs, x.fit ∧ x.kind = 2 ∧ hasL L x.n x.k ≠ 0 := fun x hx => by
    obtain ⟨u, hu, _, rfl⟩ := mem_cutsOf.1 (hc.subset hx)
    exact ⟨cutAct_fit t hu, rfl, (key_has t.hops).1 (List.mem_map.2 ⟨u, hu, rfl⟩)⟩
  have hcn : (cs.map ActD.pre).Nodup := (cuts_nodup t.srt M).sublist (hc.map _)
  obtain ⟨a1, b1⟩ := cuts_in cs t hcn hcf
  have t1 := tend_ok t (l := cs) (fun x hx => (hcf x hx).1)
  have hpf : ∀ x ∈ ps, x.fit ∧ x.kind = 1 ∧ x.pre ∈ K := fun x hx => by
    obtain ⟨v, hv, _, rfl⟩ := mem_putsOf.1 (hp.subset hx)
    exact ⟨putAct_fit (RtOk.of_tab s) v hv, rfl, hM v hv⟩
  obtain ⟨a2, b2⟩ := puts_in hK ps t1 (fun y hy => by
    have h1 : hasL (tend L cs) y.1 y.2.1 ≠ 0 := (key_has t1.hops).1 (List.mem_map.2 ⟨y, hy, rfl⟩)
    rw [b1] at h1
    by_cases hL : hasL L y.1 y.2.1 = 0
    · exfalso
      rw [lastE_far] at h1
      · exact h1 hL
      · rintro x hx ⟨e1, e2⟩
        rw [← e1, ← e2] at hL
        exact (hcf x hx).2.2 hL
    · by_cases hM0 : hasL M y.1 y.2.1 = 0
      · rcases hall _ (mem_cutsOf.2 ⟨_, mem_hasL hL, hM0, rfl⟩) with h | h
        · exfalso
          rw [lastE_mem y.1 y.2.1 cs _ _ hcn h ⟨rfl, rfl⟩] at h1
          exact h1 rfl
        · exact h
      · exact hM (y.1, y.2.1, hasL M y.1 y.2.1) (mem_hasL hM0)) hpf
  refine ⟨a1.app a2, fun n k => ?_, ?_⟩
  · rw [tend_app, b2, b1, lastE_app]
  · rw [tend_app]
    exact tend_ok t1 (fun x hx => (hpf x hx).1)
/-- All of them: the other table. -/
theorem dif_all {L M : List (Nat × Nat × Nat)} (t : TabOk L) (s : TabOk M) : AllOk L (diffL L M) ∧ tend L (diffL L M) = M := by
  obtain ⟨a, b, t'⟩ := dif_part t s (cs := cutsOf L M) (ps := putsOf L M) (K := keysL M) (by unfold keysL; rw [List.length_map]; exact s.len) (fun y hy => List.mem_map.2 ⟨y, hy, rfl⟩) (List.Sublist.refl _) (List.Sublist.refl _) (fun x hx => .inl hx)
  refine ⟨a, tab_ext t'.srt t'.hops s.srt s.hops (fun n k => ?_)⟩
  show hasL (tend L (cutsOf L M ++ putsOf L M)) n k = _
  rw [b]
  by_cases h : hasL L n k = hasL M n k
  · rw [lastE_far, h]
    rintro x hx ⟨e1, e2⟩
    exact (diff_keys t s n k).1 (List.mem_map.2 ⟨x, hx, by unfold ActD.pre; rw [e1, e2]⟩) h
  · by_cases h0 : hasL M n k = 0
    · have hl : hasL L n k ≠ 0 := by rw [h0] at h; exact h
      rw [lastE_mem n k (cutsOf L M ++ putsOf L M) _ (cutAct (n, k, hasL L n k)) (diff_nodup t s) (List.mem_append_left _ (mem_cutsOf.2 ⟨_, mem_hasL hl, h0, rfl⟩)) ⟨rfl, rfl⟩, h0]
      rfl
    · rw [lastE_mem n k (cutsOf L M ++ putsOf L M) _ (putAct (n, k, hasL M n k)) (diff_nodup t s) (List.mem_append_right _ (mem_putsOf.2 ⟨_, mem_hasL h0, h, rfl⟩)) ⟨rfl, rfl⟩]
      rfl
/-- All but one: another table. -/
theorem dif_less {L M : List (Nat × Nat × Nat)} (t : TabOk L) (s : TabOk M) (hM : M.length ≤ 59) {i : Nat} (hi : i < (diffL L M).length) :
    AllOk L ((diffL L M).take i ++ (diffL L M).drop (i + 1)) ∧ tend L ((diffL L M).take i ++ (diffL L M).drop (i + 1)) ≠ M ∧ TabOk (tend L ((diffL L M).take i ++ (diffL L M).drop (i + 1))) := by
  obtain ⟨x, hx⟩ : ∃ x, (diffL L M)[i]? = some x := ⟨_, List.getElem?_eq_getElem hi⟩
  have e : diffL L M = (diffL L M).take i ++ x :: (diffL L M).drop (i + 1) := by
    obtain ⟨h1, h2⟩ := List.getElem?_eq_some_iff.1 hx
    rw [← h2, ← List.drop_eq_getElem_cons h1, List.take_append_drop]
  have hsub : ((diffL L M).take i ++ (diffL L M).drop (i + 1)).Sublist (diffL L M) := by
    conv => rhs; rw [e]
    exact (List.Sublist.refl _).append (List.sublist_cons_self _ _)
  have hnd := diff_nodup t s
  have hno : ∀ y ∈ (diffL L M).take i ++ (diffL L M).drop (i + 1), y.pre ≠ x.pre := by
    rw [e, List.map_append, List.map_cons, List.nodup_append] at hnd
    obtain ⟨_, h2, h3⟩ := hnd
    rw [List.nodup_cons] at h2
    intro y hy he
    rcases List.mem_append.1 hy with hy | hy
    · exact h3 _ (List.mem_map.2 ⟨y, hy, rfl⟩) _ List.mem_cons_self he
    · exact h2.1 (List.mem_map.2 ⟨y, hy, he⟩)
  have hxm : x ∈ diffL L M := List.mem_of_getElem? hx
  have hmem : ∀ y ∈ diffL L M, y = x ∨ y ∈ (diffL L M).take i ++ (diffL L M).drop (i + 1) := fun y hy => by
    rw [e] at hy
    rcases List.mem_append.1 hy with hy | hy
    · exact .inr (List.mem_append_left _ hy)
    · rcases List.mem_cons.1 hy with rfl | hy
      · exact .inl rfl
      · exact .inr (List.mem_append_right _ hy)
  generalize (diffL L M).take i ++ (diffL L M).drop (i + 1) = q at *
  obtain ⟨cs, ps, rfl, hc, hp⟩ := List.sublist_append_iff.1 hsub
  obtain ⟨a, b, t'⟩ := dif_part t s (cs := cs) (ps := ps) (K := x.pre :: keysL M) (by unfold keysL; simp; omega) (fun y hy => List.mem_cons_of_mem _ (List.mem_map.2 ⟨y, hy, rfl⟩)) hc hp (fun y hy => by
    rcases hmem y (List.mem_append_left _ hy) with rfl | h
    · exact .inr List.mem_cons_self
    · rcases List.mem_append.1 h with h | h
      · exact .inl h
      · exfalso
        obtain ⟨u, _, _, rfl⟩ := mem_cutsOf.1 hy
        obtain ⟨v, _, _, he⟩ := mem_putsOf.1 (hp.subset h)
        cases he)
  refine ⟨a, fun he => ?_, t'⟩
  have h1 := b x.n x.k
  rw [he, lastE_far _ _ _ _ (fun y hy hee => hno y hy (by unfold ActD.pre; rw [hee.1, hee.2]))] at h1
  exact (diff_keys t s x.n x.k).1 (List.mem_map.2 ⟨x, hxm, rfl⟩) h1.symm
/-- Lengths. -/
theorem diff_tri {L M N : List (Nat × Nat × Nat)} (t : TabOk L) (s : TabOk M) (r : TabOk N) : (diffL L N).length ≤ (diffL L M).length + (diffL M N).length := by
  have := nodup_le (m := (diffL L M).map ActD.pre ++ (diffL M N).map ActD.pre) (diff_nodup t r) (fun p hp => by
    obtain ⟨n, k⟩ := p
    rw [diff_keys t r] at hp
    rw [List.mem_append, diff_keys t s, diff_keys s r]
    by_cases h : hasL L n k = hasL M n k
    · exact .inr (fun e => hp (h.trans e))
    · exact .inl h)
  simpa using this
theorem diff_back {L M : List (Nat × Nat × Nat)} (t : TabOk L) (s : TabOk M) : (diffL M L).length = (diffL L M).length := by
  have h1 := nodup_le (m := (diffL L M).map ActD.pre) (diff_nodup s t) (fun p hp => by
    obtain ⟨n, k⟩ := p
    rw [diff_keys s t] at hp
    rw [diff_keys t s]
    exact fun e => hp e.symm)
  have h2 := nodup_le (m := (diffL M L).map ActD.pre) (diff_nodup t s) (fun p hp => by
    obtain ⟨n, k⟩ := p
    rw [diff_keys t s] at hp
    rw [diff_keys s t]
    exact fun e => hp e.symm)
  simp at h1 h2
  omega
theorem diff_self {L : List (Nat × Nat × Nat)} (t : TabOk L) : diffL L L = [] := by
  have : (diffL L L).length ≤ 0 := by
    have := nodup_le (m := []) (diff_nodup t t) (fun p hp => by
      obtain ⟨n, k⟩ := p
      rw [diff_keys t t] at hp
      exact absurd rfl hp)
    simpa using this
  exact List.eq_nil_of_length_eq_zero (by omega)
/-- Puts alone, few of them. -/
theorem puts_small {T : List (Nat × Nat × Nat)} (t : TabOk T) {q : List ActD} (hq : ∀ x ∈ q, x.fit ∧ x.kind = 1) (hl : T.length + q.length ≤ 60) : AllOk T q :=
  (puts_in (K := keysL T ++ q.map ActD.pre) (by unfold keysL; simp; omega) q t (fun y hy => List.mem_append_left _ (List.mem_map.2 ⟨y, hy, rfl⟩)) (fun x hx => ⟨(hq x hx).1, (hq x hx).2, List.mem_append_right _ (List.mem_map.2 ⟨x, hx, rfl⟩)⟩)).1

/-- Two lists in order, merged: how far one is. -/
structure Mrg (L M : List (Nat × Nat × Nat)) (i j : Nat) : Prop where
  lo : ∀ u ∈ L.take i, ∀ v ∈ M.drop j, lt3 u v
  hi : ∀ v ∈ M.take j, ∀ u ∈ L.drop i, lt3 v u
theorem Mrg.zero (L M : List (Nat × Nat × Nat)) : Mrg L M 0 0 := ⟨fun u hu => by simp at hu, fun u hu => by simp at hu⟩
theorem Mrg.swap {L M : List (Nat × Nat × Nat)} {i j : Nat} (h : Mrg L M i j) : Mrg M L j i := ⟨h.hi, h.lo⟩
theorem take_one {α : Type} {l : List α} {i : Nat} {x : α} (h : l[i]? = some x) : l.take (i + 1) = l.take i ++ [x] := by rw [List.take_add_one, h]; rfl
theorem drop_one {α : Type} {l : List α} {i : Nat} {x : α} (h : l[i]? = some x) : l.drop i = x :: l.drop (i + 1) := by
  obtain ⟨h1, h2⟩ := List.getElem?_eq_some_iff.1 h
  rw [← h2, ← List.drop_eq_getElem_cons h1]
theorem lt3_trans {x y z : Nat × Nat × Nat} (h : lt3 x y) (g : lt3 y z) : lt3 x z := by unfold lt3 at *; omega
theorem Mrg.left {L M : List (Nat × Nat × Nat)} {i j : Nat} (h : Mrg L M i j) (t : TabOk L) (s : TabOk M) {x : Nat × Nat × Nat} (hx : L[i]? = some x) (hy : ∀ y, M[j]? = some y → lt3 x y) :
    Mrg L M (i + 1) j ∧ hasL M x.1 x.2.1 = 0 := by
  have hA : ∀ v ∈ M.drop j, lt3 x v := by
    intro v hv
    cases hm : M[j]? with
    | none =>
      rw [List.getElem?_eq_none_iff] at hm
      rw [List.drop_eq_nil_of_le hm] at hv
      cases hv
    | some y =>
      have hs := s.srt
      unfold Srt at hs
      have e : M = M.take j ++ y :: M.drop (j + 1) := by rw [← drop_one hm, List.take_append_drop]
      rw [drop_one hm] at hv
      rcases List.mem_cons.1 hv with rfl | hv
      · exact hy _ hm
      · rw [e, List.pairwise_append, List.pairwise_cons] at hs
        exact lt3_trans (hy _ hm) (hs.2.1.1 v hv)
  have hxd : x ∈ L.drop i := by rw [drop_one hx]; exact List.mem_cons_self
  refine ⟨⟨fun u hu v hv => ?_, fun v hv u hu => h.hi v hv u (by rw [drop_one hx]; exact List.mem_cons_of_mem _ hu)⟩, ?_⟩
  · rw [take_one hx] at hu
    rcases List.mem_append.1 hu with hu | hu
    · exact h.lo u hu v hv
    · simp at hu; subst hu; exact hA v hv
  · rw [has_none s.hops]
    intro v hv e
    rw [← List.take_append_drop j M] at hv
    rcases List.mem_append.1 hv with hv | hv
    · have := h.hi v hv x hxd
      unfold lt3 at this; omega
    · have := hA v hv
      unfold lt3 at this; omega
theorem Mrg.both {L M : List (Nat × Nat × Nat)} {i j : Nat} (h : Mrg L M i j) (t : TabOk L) (s : TabOk M) {x y : Nat × Nat × Nat} (hx : L[i]? = some x) (hy : M[j]? = some y) (he : x.1 = y.1 ∧ x.2.1 = y.2.1) :
    Mrg L M (i + 1) (j + 1) ∧ hasL M x.1 x.2.1 = y.2.2 ∧ hasL L y.1 y.2.1 = x.2.2 ∧ y.2.2 ≠ 0 := by
  have after : ∀ {N : List (Nat × Nat × Nat)} {k : Nat} {z : Nat × Nat × Nat}, Srt N → N[k]? = some z → ∀ v ∈ N.drop (k + 1), lt3 z v := by
    intro N k z hs hz v hv
    unfold Srt at hs
    have e : N = N.take k ++ z :: N.drop (k + 1) := by rw [← drop_one hz, List.take_append_drop]
    rw [e, List.pairwise_append, List.pairwise_cons] at hs
    exact hs.2.1.1 v hv
  have hym := List.mem_of_getElem? hy
  have hxm := List.mem_of_getElem? hx
  refine ⟨⟨fun u hu v hv => ?_, fun v hv u hu => ?_⟩, ?_, ?_, s.hops y hym⟩
  · have hv' : v ∈ M.drop j := by rw [drop_one hy]; exact List.mem_cons_of_mem _ hv
    rw [take_one hx] at hu
    rcases List.mem_append.1 hu with hu | hu
    · exact h.lo u hu v hv'
    · simp at hu; subst hu
      have := after s.srt hy v hv
      unfold lt3 at this ⊢; omega
  · have hu' : u ∈ L.drop i := by rw [drop_one hx]; exact List.mem_cons_of_mem _ hu
    rw [take_one hy] at hv
    rcases List.mem_append.1 hv with hv | hv
    · exact h.hi v hv u hu'
    · simp at hv; subst hv
      have := after t.srt hx u hu
      unfold lt3 at this ⊢; omega
  · rw [he.1, he.2]; exact hasL_mem s.srt (show (y.1, y.2.1, y.2.2) ∈ M from hym)
  · rw [← he.1, ← he.2]; exact hasL_mem t.srt (show (x.1, x.2.1, x.2.2) ∈ L from hxm)
theorem cutsOf_snoc {L : List (Nat × Nat × Nat)} (M : List (Nat × Nat × Nat)) {i : Nat} {x : Nat × Nat × Nat} (hx : L[i]? = some x) : cutsOf (L.take (i + 1)) M = cutsOf (L.take i) M ++ (if hasL M x.1 x.2.1 = 0 then [cutAct x] else []) := by
  unfold cutsOf
  rw [take_one hx, List.filter_append, List.map_append]
  congr 1
  by_cases h : hasL M x.1 x.2.1 = 0
  · rw [if_pos h, List.filter_cons_of_pos (by simpa using h)]; rfl
  · rw [if_neg h, List.filter_cons_of_neg (by simpa using h)]; rfl
theorem putsOf_snoc (L : List (Nat × Nat × Nat)) {M : List (Nat × Nat × Nat)} {j : Nat} {y : Nat × Nat × Nat} (hy : M[j]? = some y) : putsOf L (M.take (j + 1)) = putsOf L (M.take j) ++ (if hasL L y.1 y.2.1 ≠ y.2.2 then [putAct y] else []) := by
  unfold putsOf
  rw [take_one hy, List.filter_append, List.map_append]
  congr 1
  by_cases h : hasL L y.1 y.2.1 ≠ y.2.2
  · rw [if_pos h, List.filter_cons_of_pos (by simpa using h)]; rfl
  · rw [if_neg h, List.filter_cons_of_neg (by simpa using h)]; rfl
end Go.Proofs.Ytoecmoicaklbaaa
