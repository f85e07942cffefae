
/- QueueLast, plain: the last act of a prefix wins, pulled or played. -/
import Derived.Test.YtllemhknmleklaaQRow
import Derived.Test.YtllemhknmleklaaTbA
set_option linter.unusedVariables false
namespace Go.Proofs.Ytllemhknmleklaa
open Go Go.RowKit Wc

def eff (x : ActD) : Nat := if x.kind = 1 then x.hop else 0
theorem ok_fit {x : ActD} (h : x.ok) : x.fit := by
  obtain ⟨hv, ht, ha, hk⟩ := h
  refine ⟨hv, by rw [ha]; unfold Fits wd; simp, by omega, fun h1 => ?_, ht⟩
  rcases hk with ⟨_, h⟩ | h
  · exact h
  · omega
theorem eff_step {L : List (Nat × Nat × Nat)} (t : TabOk L) {x : ActD} (hx : x.ok) (hl : L.length < 60) (n k : Nat) :
    hasL (tstep L x).1 n k = (if x.n = n ∧ x.k = k then eff x else hasL L n k) ∧ (tstep L x).1.length ≤ L.length + 1 := by
  obtain ⟨_, _, _, hk⟩ := hx
  rcases hk with ⟨hk, hh⟩ | hk
  · have e : (tstep L x).1 = putL L x.n x.k x.hop := by
      unfold tstep
      rw [if_neg (by omega), if_neg (by omega), if_neg (by omega), if_neg (fun h => by omega)]
    rw [e]
    refine ⟨?_, ?_⟩
    · rw [hasL_put t.srt t.hops (by omega)]
      have ee : eff x = x.hop := by unfold eff; rw [if_pos hk]
      by_cases h : x.n = n ∧ x.k = k
      · rw [if_pos (show n = x.n ∧ k = x.k from ⟨h.1.symm, h.2.symm⟩), if_pos h, ee]
      · rw [if_neg (show ¬ (n = x.n ∧ k = x.k) from fun g => h ⟨g.1.symm, g.2.symm⟩), if_neg h]
    · rw [len_putL t.srt t.hops]
      split <;> omega
  · have e : (tstep L x).1 = cutL L x.n x.k := by
      unfold tstep
      rw [if_neg (by omega), if_pos hk]
    rw [e]
    refine ⟨?_, Nat.le_succ_of_le (List.length_filter_le _ _)⟩
    rw [hasL_cut t.srt t.hops]
    have ee : eff x = 0 := by unfold eff; rw [if_neg (by omega)]
    by_cases h : x.n = n ∧ x.k = k
    · rw [if_pos (show n = x.n ∧ k = x.k from ⟨h.1.symm, h.2.symm⟩), if_pos h, ee]
    · rw [if_neg (show ¬ (n = x.n ∧ k = x.k) from fun g => h ⟨g.1.symm, g.2.symm⟩), if_neg h]
/-- What a prefix has behind acts. -/
def lastE (n k : Nat) : Nat → List ActD → Nat
  | d, [] => d
  | d, x :: q => lastE n k (if x.n = n ∧ x.k = k then eff x else d) q
theorem lastE_app (n k : Nat) : ∀ (a b : List ActD) (d : Nat), lastE n k d (a ++ b) = lastE n k (lastE n k d a) b
  | [], _, _ => rfl
  | x :: a, b, d => lastE_app n k a b _
theorem lastE_far (n k : Nat) : ∀ (q : List ActD) (d : Nat), (∀ x ∈ q, ¬ (x.n = n ∧ x.k = k)) → lastE n k d q = d
  | [], _, _ => rfl
  | x :: q, d, h => by
    show lastE n k (if x.n = n ∧ x.k = k then eff x else d) q = d
    rw [if_neg (h x (by simp))]
    exact lastE_far n k q d (fun y hy => h y (by simp [hy]))
theorem tend_has (n k : Nat) : ∀ (q : List ActD) (L : List (Nat × Nat × Nat)), TabOk L → (∀ x ∈ q, x.ok) → L.length + q.length ≤ 60 →
    hasL (tend L q) n k = lastE n k (hasL L n k) q ∧ TabOk (tend L q) ∧ (tend L q).length ≤ L.length + q.length
  | [], L, t, _, _ => ⟨rfl, t, Nat.le_refl _⟩
  | x :: q, L, t, h, hl => by
    simp only [List.length_cons] at hl
    have hx := h x (by simp)
    have e := eff_step t hx (by omega) n k
    have ih := tend_has n k q (tstep L x).1 (t.step (ok_fit hx)) (fun y hy => h y (by simp [hy])) (by omega)
    refine ⟨?_, ih.2.1, ?_⟩
    · show hasL (tend (tstep L x).1 q) n k = lastE n k (if x.n = n ∧ x.k = k then eff x else hasL L n k) q
      rw [ih.1, e.1]
    · show (tend (tstep L x).1 q).length ≤ L.length + (q.length + 1)
      omega
theorem tend_same {L : List (Nat × Nat × Nat)} (t : TabOk L) {a b : List ActD} (ha : ∀ x ∈ a, x.ok) (hb : ∀ x ∈ b, x.ok) (la : L.length + a.length ≤ 60) (lb : L.length + b.length ≤ 60)
    (h : ∀ n k d, lastE n k d a = lastE n k d b) : tend L a = tend L b := by
  have h1 := (tend_has 0 0 a L t ha la).2.1
  have h2 := (tend_has 0 0 b L t hb lb).2.1
  exact tab_ext h1.srt h1.hops h2.srt h2.hops (fun n k => by rw [(tend_has n k a L t ha la).1, (tend_has n k b L t hb lb).1, h])
/-- A push that is merged is as one behind all others. -/
theorem merge_last {q : List ActD} (hn : (q.map ActD.pre).Nodup) {i : Nat} {x a : ActD} (hx : q[i]? = some x) (hp : x.pre = a.pre) (n k d : Nat) : lastE n k d (q.set i a) = lastE n k d (q ++ [a]) := by
  obtain ⟨hi, hxe⟩ := List.getElem?_eq_some_iff.1 hx
  have e1 : q = q.take i ++ x :: q.drop (i + 1) := by
    rw [← hxe, ← List.drop_eq_getElem_cons hi, List.take_append_drop]
  have e2 : q.set i a = q.take i ++ a :: q.drop (i + 1) := by
    rw [List.set_eq_take_append_cons_drop, if_pos hi]
  have hfar : ∀ y ∈ q.drop (i + 1), y.pre ≠ a.pre := fun y hy he => by
    rw [e1, List.map_append, List.map_cons] at hn
    have h3 := (List.nodup_append.1 hn).2.1
    rw [List.nodup_cons] at h3
    exact h3.1 (List.mem_map.2 ⟨y, hy, by rw [he, hp]⟩)
  rw [e2]
  conv => rhs; rw [e1]
  rw [List.append_assoc, lastE_app, lastE_app]
  show lastE n k (if a.n = n ∧ a.k = k then eff a else lastE n k d (q.take i)) (q.drop (i + 1)) = lastE n k (if x.n = n ∧ x.k = k then eff x else lastE n k d (q.take i)) (q.drop (i + 1) ++ [a])
  rw [lastE_app]
  have hxp : x.n = a.n ∧ x.k = a.k := by unfold ActD.pre at hp; simpa using hp
  by_cases h : a.n = n ∧ a.k = k
  · rw [if_pos h]
    have hf : ∀ y ∈ q.drop (i + 1), ¬ (y.n = n ∧ y.k = k) := fun y hy he => hfar y hy (by unfold ActD.pre; rw [he.1, he.2, h.1, h.2])
    rw [lastE_far n k _ _ hf, lastE_far n k _ _ hf]
    show _ = lastE n k (if a.n = n ∧ a.k = k then eff a else _) []
    rw [if_pos h]; rfl
  · rw [if_neg h, if_neg (fun g => h ⟨hxp.1 ▸ g.1, hxp.2 ▸ g.2⟩)]
    show _ = lastE n k (if a.n = n ∧ a.k = k then eff a else _) []
    rw [if_neg h]; rfl

/-- All acts that jobs pull; all that are let in. -/
def pulls (q : List ActD) (l : List JobD) : List ActD := (qrun q l).flatMap (·.acts)
def accs : List ActD → List JobD → List ActD
  | _, [] => []
  | q, j :: l => (if j.push ∧ (qstep q j).2.code = 0 then [j.act] else []) ++ accs (qstep q j).1 l
theorem step_nodup {q : List ActD} (hn : (q.map ActD.pre).Nodup) (j : JobD) : ((qstep q j).1.map ActD.pre).Nodup := by
  rcases qstep_cases q j with ⟨hp, i, x, hx, hs, hno, e⟩ | ⟨hp, hno, h⟩ | ⟨hp, h0, e⟩ | ⟨hp, h0, e⟩
  · rw [e]
    show ((q.set i j.act).map ActD.pre).Nodup
    have hpre : x.pre = j.act.pre := (same_pre _ _).1 hs
    rw [List.map_set, ← hpre]
    have : (q.map ActD.pre).set i x.pre = q.map ActD.pre := by
      apply List.ext_getElem?
      intro m
      rw [List.getElem?_set]
      by_cases hm : i = m
      · subst hm
        have hi := (List.getElem?_eq_some_iff.1 hx).1
        rw [if_pos rfl, if_pos (by simpa using hi), List.getElem?_map, hx]; rfl
      · rw [if_neg hm]
    rw [this]; exact hn
  · rcases h with ⟨_, e⟩ | ⟨_, e⟩
    · rw [e]; exact hn
    · rw [e]
      show ((q ++ [j.act]).map ActD.pre).Nodup
      rw [List.map_append, List.nodup_append]
      refine ⟨hn, by simp, fun a ha b hb => ?_⟩
      simp at hb
      subst hb
      intro he
      obtain ⟨y, hy, hye⟩ := List.mem_map.1 ha
      obtain ⟨m, hm⟩ := List.getElem?_of_mem hy
      have h1 := hno m y hm
      rw [(same_pre y j.act).2 (by rw [hye, he])] at h1
      cases h1
  · rw [e]; exact hn
  · rw [e]
    show ((q.drop j.num).map ActD.pre).Nodup
    rw [List.map_drop]
    exact hn.sublist (List.drop_sublist _ _)
theorem accs_ok : ∀ {q : List ActD} {l : List JobD}, (∀ j ∈ l, JobD.ok j) → ∀ x ∈ accs q l, x.ok
  | q, [], _, x, hx => by simp [accs] at hx
  | q, j :: l, h, x, hx => by
    have hx : x ∈ (if j.push ∧ (qstep q j).2.code = 0 then [j.act] else []) ++ accs (qstep q j).1 l := hx
    rcases List.mem_append.1 hx with hx | hx
    · split at hx
      · rename_i hc
        simp at hx
        subst hx
        rcases h j (by simp) with ⟨_, ho, _⟩ | ⟨hp, _⟩
        · exact ho
        · rw [hp] at hc; cases hc.1
      · cases hx
    · exact accs_ok (fun i hi => h i (by simp [hi])) x hx
theorem queue_last : ∀ (l : List JobD) (q : List ActD) (L : List (Nat × Nat × Nat)), TabOk L → (q.map ActD.pre).Nodup → (∀ x ∈ q, x.ok) → (∀ j ∈ l, JobD.ok j) → L.length + q.length + l.length ≤ 60 →
    tend L (pulls q l ++ qend q l) = tend (tend L q) (accs q l)
  | [], q, L, _, _, _, _, _ => rfl
  | j :: l, q, L, t, hn, hq, hl, hb => by
    simp only [List.length_cons] at hb
    have hq' := qstep_ok hq (hl j (by simp))
    have hn' := step_nodup hn j
    have hl' : ∀ i ∈ l, JobD.ok i := fun i hi => hl i (by simp [hi])
    show tend L (((qstep q j).2.acts ++ pulls (qstep q j).1 l) ++ qend (qstep q j).1 l) = tend (tend L q) ((if j.push ∧ (qstep q j).2.code = 0 then [j.act] else []) ++ accs (qstep q j).1 l)
    rcases qstep_cases q j with ⟨hp, i, x, hx, hs, hno, e⟩ | ⟨hp, hno, h⟩ | ⟨hp, h0, e⟩ | ⟨hp, h0, e⟩
    · rw [e] at hq' hn' ⊢
      dsimp only at hq' hn' ⊢
      have ih := queue_last l (q.set i j.act) L t hn' hq' hl' (by rw [List.length_set]; omega)
      have ha : j.act.ok := by
        rcases hl j (by simp) with ⟨_, ho, _⟩ | ⟨hp2, _⟩
        · exact ho
        · rw [hp] at hp2; cases hp2
      rw [List.nil_append, ih, if_pos ⟨hp, rfl⟩, tend_app (tend L q) [j.act], ← tend_app L q [j.act]]
      congr 1
      refine tend_same t hq' (fun y hy => ?_) (by rw [List.length_set]; omega) (by simp; omega) (fun n k d => merge_last hn hx ((same_pre _ _).1 hs) n k d)
      rcases List.mem_append.1 hy with hy | hy
      · exact hq y hy
      · simp at hy; subst hy; exact ha
    · rcases h with ⟨h8, e⟩ | ⟨h8, e⟩
      · rw [e] at hq' hn' ⊢
        dsimp only at hq' hn' ⊢
        have ih := queue_last l q L t hn hq hl' (by omega)
        rw [List.nil_append, ih, if_neg (fun h => by cases h.2)]
        rfl
      · rw [e] at hq' hn' ⊢
        dsimp only at hq' hn' ⊢
        have ih := queue_last l (q ++ [j.act]) L t hn' hq' hl' (by simp; omega)
        rw [List.nil_append, ih, if_pos ⟨hp, rfl⟩, tend_app (tend L q) [j.act], ← tend_app L q [j.act]]
    · rw [e] at hq' hn' ⊢
      dsimp only at hq' hn' ⊢
      have ih := queue_last l q L t hn hq hl' (by omega)
      rw [List.nil_append, ih, if_neg (fun h => by rw [hp] at h; cases h.1)]
      rfl
    · rw [e] at hq' hn' ⊢
      dsimp only at hq' hn' ⊢
      have hqt : ∀ x ∈ q.take j.num, x.ok := fun x hx => hq x (List.mem_of_mem_take hx)
      have htl : (q.take j.num).length + (q.drop j.num).length = q.length := by rw [List.length_take, List.length_drop]; omega
      obtain ⟨_, t1, t2⟩ := tend_has 0 0 (q.take j.num) L t hqt (by omega)
      have ih := queue_last l (q.drop j.num) (tend L (q.take j.num)) t1 hn' hq' hl' (by omega)
      rw [if_neg (fun h => by rw [hp] at h; cases h.1), List.nil_append, List.append_assoc, tend_app, ih, ← tend_app L (q.take j.num) (q.drop j.num), List.take_append_drop]
/-- .. and all is pulled at the end. -/
theorem queue_law {l : List JobD} (hl : ∀ j ∈ l, JobD.ok j) (hb : l.length ≤ 60) : tend [] (pulls [] (l ++ [⟨false, actZ, 8⟩])) = tend [] (accs [] l) := by
  have h := queue_last l [] [] TabOk.nil (by simp) (by simp) hl (by simpa using hb)
  have e : pulls [] (l ++ [⟨false, actZ, 8⟩]) = pulls [] l ++ qend [] l := by
    unfold pulls
    rw [qrun_app, List.flatMap_append]
    congr 1
    have h8 := qend_len (q := []) l (by decide)
    show (qstep (qend [] l) ⟨false, actZ, 8⟩).2.acts ++ [] = _
    rw [List.append_nil]
    rcases qstep_cases (qend [] l) ⟨false, actZ, 8⟩ with ⟨h, _⟩ | ⟨h, _⟩ | ⟨_, h0, e⟩ | ⟨_, h0, e⟩
    · cases h
    · cases h
    · rw [e, List.length_eq_zero_iff.1 h0]
    · rw [e]; exact List.take_of_length_le h8
  rw [e, h]
  rfl
end Go.Proofs.Ytllemhknmleklaa
