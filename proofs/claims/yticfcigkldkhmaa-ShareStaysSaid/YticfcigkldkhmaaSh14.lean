
/- Shares: Turn. -/
import Derived.Test.YticfcigkldkhmaaSh13
set_option linter.unusedVariables false
set_option linter.unusedSimpArgs false
namespace Go.Proofs.Yticfcigkldkhmaa
open Go Go.RowKit Go.Sort Wc Wk

theorem set_mid {A D : List Nat} {o v i : Nat} (h : A.length = i) : (A ++ o :: D).set i v = A ++ v :: D := by
  subst h
  rw [List.set_append_right _ _ (Nat.le_refl _), Nat.sub_self, List.set_cons_zero]
theorem set_same {l : List Nat} {i v : Nat} (hv : l.getD i 0 = v) : l.set i v = l := by
  by_cases h : i < l.length
  · rw [getD_eq h] at hv
    rw [← hv, List.set_getElem_self]
  · exact List.set_eq_of_length_le (by omega)
theorem o1_step {hs ps xs : List Nat} {i : Nat} (h : i < xs.length) : t1o hs ps (xs.take (i + 1)) ++ List.replicate (xs.length - (i + 1)) 0 = (t1o hs ps (xs.take i) ++ List.replicate (xs.length - i) 0).set i (t1s hs (t1e hs ps (xs.take i)) (xs.getD i 0)).1 := by
  rw [take_snoc xs h, t1o_app, show xs.length - i = (xs.length - (i + 1)) + 1 by omega, List.replicate_succ, set_mid (by rw [t1o_len, List.length_take]; omega), List.append_assoc]
  rfl
theorem e1_step {hs ps xs : List Nat} {i : Nat} (h : i < xs.length) : t1e hs ps (xs.take (i + 1)) = (t1s hs (t1e hs ps (xs.take i)) (xs.getD i 0)).2 := by
  rw [take_snoc xs h, t1e_app]; rfl
theorem o1_at {hs ps xs : List Nat} {i : Nat} (h : i < xs.length) : (t1o hs ps (xs.take i) ++ List.replicate (xs.length - i) 0).getD i 0 = 0 := by
  rw [List.getD_eq_getElem?_getD, List.getElem?_append_right (by rw [t1o_len, List.length_take]; omega), List.getElem?_replicate]
  split <;> rfl
theorem o1_len {hs ps xs : List Nat} {i : Nat} (h : i ≤ xs.length) : (t1o hs ps (xs.take i) ++ List.replicate (xs.length - i) 0).length = xs.length := by
  rw [List.length_append, t1o_len, List.length_take, List.length_replicate]; omega
theorem drop_at {O : List Nat} {i : Nat} (h : i < O.length) : O.drop i = O.getD i 0 :: O.drop (i + 1) := by
  rw [List.drop_eq_getElem_cons h, getD_eq h]
theorem o2_step {hs L O : List Nat} {i : Nat} (h : i < O.length) : t2o hs L (O.take (i + 1)) ++ O.drop (i + 1) = (t2o hs L (O.take i) ++ O.drop i).set i (t2s hs (t2e hs L (O.take i)) (O.getD i 0)).1 := by
  rw [take_snoc O h, t2o_app, drop_at h, set_mid (by rw [t2o_len, List.length_take]; omega), List.append_assoc]
  rfl
theorem e2_step {hs L O : List Nat} {i : Nat} (h : i < O.length) : t2e hs L (O.take (i + 1)) = (t2s hs (t2e hs L (O.take i)) (O.getD i 0)).2 := by
  rw [take_snoc O h, t2e_app]; rfl
theorem o2_at {hs L O : List Nat} {i : Nat} (h : i < O.length) : (t2o hs L (O.take i) ++ O.drop i).getD i 0 = O.getD i 0 := by
  have e : (t2o hs L (O.take i)).length = i := by rw [t2o_len, List.length_take]; omega
  rw [List.getD_eq_getElem?_getD, List.getElem?_append_right (by omega), e, Nat.sub_self, drop_at h]
  rfl
theorem o2_len {hs L O : List Nat} {i : Nat} (h : i ≤ O.length) : (t2o hs L (O.take i) ++ O.drop i).length = O.length := by
  rw [List.length_append, t2o_len, List.length_take, List.length_drop]; omega
theorem count_drop {O : List Nat} {i : Nat} (h : i < O.length) : (O.drop i).count 0 = (if O.getD i 0 = 0 then 1 else 0) + (O.drop (i + 1)).count 0 := by
  rw [drop_at h, List.count_cons]
  by_cases e : O.getD i 0 = 0
  · rw [e]; simp; omega
  · have eb : (O.getD i 0 == 0) = false := by rw [beq_eq_false_iff_ne]; exact e
    rw [eb, if_neg e]; simp
theorem t1e_sum_le {hs : List Nat} : ∀ (xs left : List Nat), (t1e hs left xs).sum ≤ left.sum
  | [], _ => Nat.le_refl _
  | x :: xs, left => by
    have h1 := t1e_sum_le xs (t1s hs left x).2 (hs := hs)
    have h2 : (t1s hs left x).2.sum ≤ left.sum := by
      unfold t1s
      split
      · by_cases hl : slot hs x < left.length
        · have := sum_set left (slot hs x) (left.getD (slot hs x) 0 - 1) hl
          dsimp only
          omega
        · rw [List.set_eq_of_length_le (by omega)]; exact Nat.le_refl _
      · exact Nat.le_refl _
    exact Nat.le_trans h1 h2
theorem t2e_len (hs : List Nat) : ∀ (l left : List Nat), (t2e hs left l).length = left.length
  | [], _ => rfl
  | x :: l, left => by show (t2e hs _ l).length = _; rw [t2e_len, t2s_len]

theorem own_ge {w : World} {B : Nat} {e : TypeId} {g m cap : Nat} {xs : List Nat} (h : Wk.Own w B e 1 (.slice (some ⟨g, 0, none⟩) m cap) (xs.map nC)) (hp : 0 < xs.length) : B ≤ g := by
  obtain ⟨g', cap', hv, hB, _⟩ := Own.at h (by rw [List.length_map]; exact hp)
  simp only [Value.slice.injEq, Option.some.injEq, Addr.mk.injEq] at hv
  obtain ⟨⟨rfl, _, _⟩, _, _⟩ := hv
  exact hB
/-- What Turn asks of the buckets that it is given. -/
structure BuckOk (xs : List Nat) : Prop where
  one : 1 ≤ xs.length
  len : xs.length ≤ 64
  top : ∀ x ∈ xs, x ≤ 999


set_option maxHeartbeats 2000000 in
set_option maxRecDepth 100000 in
theorem turn_any (ab : Option Addr) (capb nb : Nat) (xs : List Nat) (a : Option Addr) (cap n : Nat) (l : List (Nat × Nat)) (w : World) (hnb : nb = xs.length) (hsb : Sl w 1 (.slice ab nb capb) (xs.map nC)) (hbk : BuckOk xs) (hn : n = l.length) (hs : Sl w 2 (.slice a n cap) (l.map shCells)) (hok : ShOk l) :
    Calls Try.prog 41 #[.slice ab nb capb, .slice a n cap] w fun e w' => ∃ g, e = .returned (.tuple #[.slice (some ⟨g, 0, none⟩) nb nb, .int .i64 0]) ∧ Below w.heap.size w w' ∧ Wk.Own w' w.heap.size 3 1 (.slice (some ⟨g, 0, none⟩) nb nb) ((turnL (l.map (·.1)) (partsL (l.map (·.2)) nb) xs).map nC) := by
  have HS := Lib.hid hs
  have HSB := Lib.hid hsb
  have HN := Lib.hid hn
  have HNB := Lib.hid hnb
  have HOK := Lib.hid hok
  have HBK := Lib.hid hbk
  have h1 := hs.lens.2.1
  have h2 := hs.lens.2.2
  have h3 := hsb.lens.2.1
  have h4 := hsb.lens.2.2
  have nb1 : 1 ≤ nb := by rw [hnb]; exact hbk.one
  have nb2 : nb ≤ 64 := by rw [hnb]; exact hbk.len
  have CK := Lib.hid (scheck_any a cap n l w hn hs hok)
  have FA := Lib.hid (fun W (hb : Below w.heap.size w W) => fault_any ab capb nb xs W hnb (hsb.below hb) hbk.top nb1 nb2)
  have PT := Lib.hid (fun W (hb : Below w.heap.size w W) => parts_any a cap n l nb W hn (hs.below hb) hok nb2)
  have hpo := parts_ok (l.map (·.2)) nb (by have := sum_wt hok.wt; have := hok.one; omega)
  have HPL := Lib.hid (show (partsL (l.map (·.2)) nb).length = n by rw [hpo.len, List.length_map, hn])
  have HPS := Lib.hid hpo.sum
  obtain ⟨ro, MK, MO⟩ := make_nat nb (by omega)
  clear hs hsb hn hnb hok hbk hpo
  generalize partsL (l.map (·.2)) nb = ps at *
  go_enter Try.func41, Try.ntmps41
  go_wp2_with (first | ((with_reducible refine CK.out.mono ?_); rintro e w2 ⟨rfl, hb2⟩; have HB2 := Lib.hid hb2; clear hb2) | ((with_reducible refine (FA.out _ HB2.out).mono ?_); rintro e w' ⟨rfl, rfl⟩) | ((with_reducible refine (PT.out _ HB2.out).mono ?_); rintro e w3 ⟨gl, capl, rfl, hb3, ho3⟩))
  have hpl1 := HPL.out
  have hgl : gl < w3.heap.size := (own_nat ho3 (i := 0) (by have := HOK.out.one; have := HN.out; omega)).2.2
  have hwgl : w.heap.size ≤ gl := Nat.le_trans HB2.out.size (own_ge ho3 (by have := HOK.out.one; have := HN.out; omega))
  have hwz : w.heap.size ≤ w3.heap.size := Nat.le_trans HB2.out.size hb3.size
  have HGL := Lib.hid ((own_weaken ho3 HB2.out.size).alloc ro)
  have HGO := Lib.hid (MO.out w3 w.heap.size hwz)
  have HB3 := Lib.hid ((HB2.out.trans (hb3.mono HB2.out.size)).alloc hwz ro)
  have k3 := (own_lens ho3).2.1
  have k4 := (own_lens ho3).2.2
  obtain ⟨go, hgo⟩ : ∃ g, g = w3.heap.size := ⟨_, rfl⟩
  rw [← hgo] at HGO hgl ⊢
  have hgo2 : go < (w3.alloc ro).heap.size := by rw [World.size_alloc, hgo]; exact Nat.lt_succ_self _
  have hne : gl ≠ go := Nat.ne_of_lt hgl
  have hne2 : go ≠ gl := fun e => hne e.symm
  have hwg : w.heap.size ≤ go := by rw [hgo]; exact hwz
  clear ho3 hb3 MO MK CK FA PT HB2 hgo hwz hpl1
  obtain ⟨hs, hhs⟩ : ∃ hs, hs = l.map (·.1) := ⟨_, rfl⟩
  have hll : hs.length = n := by rw [hhs, List.length_map]; exact HN.out.symm
  have HHS := Lib.hid hhs
  have HLS := Lib.hid hll
  clear hhs hll
  go_loopw [35] (fun i wr => ∃ m : Nat, m ≤ nb ∧ i = .int .i64 m ∧ go < wr.heap.size ∧ Hid (Below w.heap.size w wr) ∧ Hid (Wk.Own wr w.heap.size 3 1 (.slice (some ⟨gl, 0, none⟩) n capl) ((t1e hs ps (xs.take m)).map nC)) ∧ Hid (Wk.Own wr w.heap.size 3 1 (.slice (some ⟨go, 0, none⟩) nb nb) ((t1o hs ps (xs.take m) ++ List.replicate (xs.length - m) 0).map nC))) (fun i _ => nb - (intOf i).toNat)
  case atStart => exact ⟨0, Nat.zero_le _, by go_num, hgo2, HB3.out, HGL.out, by show Wk.Own _ _ _ _ _ _; simpa [t1o, ← HNB.out] using HGO.out⟩
  case round =>
    clear HB3 HGL HGO hgo2
    obtain ⟨m, hm, rfl, hgr, HB, HG, HO⟩ := hrel
    by_cases hlt : m < nb
    · have hmx : m < xs.length := by rw [← HNB.out]; exact hlt
      obtain ⟨bb, ob, rfl, hbb, c0⟩ := Sl.nat HSB.out HB.out hmx
      obtain ⟨x, hx⟩ : ∃ x, x = xs.getD m 0 := ⟨_, rfl⟩
      rw [← hx] at c0
      obtain ⟨Lm, hLm⟩ : ∃ L, L = t1e hs ps (xs.take m) := ⟨_, rfl⟩
      have hLl : Lm.length = n := by rw [hLm, t1e_len]; exact HPL.out
      have hsum : Lm.sum ≤ nb := by rw [hLm, ← HPS.out]; exact t1e_sum_le _ _
      rw [← hLm] at HG
      have IX := Lib.hid (fun W (hb : Below wr.heap.size wr W) (lt : wr.heap.size < W.heap.size) hc => idx_turn a cap n wr.heap.size x l W HN.out (HS.out.below (HB.out.trans (hb.mono HB.out.size))) lt hc)
      rw [← HHS.out] at IX
      have hE := e1_step (hs := hs) (ps := ps) hmx
      have hO := o1_step (hs := hs) (ps := ps) hmx
      rw [← hLm, ← hx] at hE hO
      have hOl := o1_len (hs := hs) (ps := ps) (Nat.le_of_lt hmx)
      have hOa := o1_at (hs := hs) (ps := ps) hmx
      generalize t1o hs ps (xs.take m) ++ List.replicate (xs.length - m) 0 = Om at *
      have hglr : gl < wr.heap.size := Nat.lt_trans (Nat.lt_of_le_of_ne (Nat.le_of_lt hgl) hne) hgr
      have hgne : wr.heap.size ≠ gl := fun e => Nat.lt_irrefl _ (e ▸ hglr)
      have hbb2 : bb < wr.heap.size := Nat.lt_of_lt_of_le hbb HB.out.size
      by_cases hsl : slot hs x < hs.length
      · obtain ⟨k, hk⟩ : ∃ k, k = slot hs x := ⟨_, rfl⟩
        have ei : ixI hs x = (k : Int) := by unfold ixI; rw [if_pos hsl, hk]
        rw [ei] at IX
        rw [← hk] at hsl
        have hkn : k < n := by rw [← HLS.out]; exact hsl
        obtain ⟨v, hv⟩ : ∃ v, v = Lm.getD k 0 := ⟨_, rfl⟩
        have hvb : v ≤ 64 := by rw [hv]; exact Nat.le_trans (getD_le_sum Lm k) (Nat.le_trans hsum nb2)
        have hT : t1s hs Lm x = if 0 < v then (x, Lm.set k (v - 1)) else (0, Lm) := by
          unfold t1s
          rw [← hk, ← hv]
          by_cases h0 : 0 < v
          · rw [if_pos ⟨hsl, h0⟩, if_pos h0]
          · rw [if_neg (fun h => h0 h.2), if_neg h0]
        rw [hT] at hE hO
        have HEq := Lib.hid hE
        have HOq := Lib.hid hO
        have HXX := Lib.hid hx
        have HLL := Lib.hid hLl
        have HOl := Lib.hid hOl
        have HOa := Lib.hid hOa
        have HV := Lib.hid hv
        have HLM := Lib.hid hLm
        have c0k : ¬ (k : Int) < 0 := by omega
        clear hE hO hx hLl hsum hOl hOa hT hv hLm ei hk hsl hmx
        by_cases h0 : 0 < v
        · have ev : wrap64 ((v : Int) - 1) = ((v - 1 : Nat) : Int) := by rw [wrap64_in (by omega) (by omega)]; omega
          go_wp2_with ((with_reducible refine (IX.out _ (by (repeat' (first | (with_reducible exact Below.refl _ _) | (with_reducible assumption) | (with_reducible refine Below.alloc ?_ ?_ _) | (with_reducible refine Below.drew ?_) | (with_reducible refine Below.stepG ?_ (by assumption) ?_) | (with_reducible refine Below.setCell ?_ ?_ _) | omega | (dsimp only; omega) | (simp; done) | (simp; omega)))) (by simp) (by simp)).mono ?_); rintro e w5 ⟨rfl, hb5⟩; refine stop_at ?_; intro G hG)
          have hz5 := hb5.size
          rw [World.size_alloc] at hz5
          have bx : w5.cell? ⟨wr.heap.size, 0, none⟩ = some (.int .i64 x) := (hb5.cell (p := ⟨wr.heap.size, 0, none⟩) (by rw [World.size_alloc]; exact Nat.lt_succ_self _)).trans (by simp)
          have HG5 := Lib.hid ((HG.out.alloc (.cells #[.int .i64 x] 3)).below hb5)
          have HO5 := Lib.hid ((HO.out.alloc (.cells #[.int .i64 x] 3)).below hb5)
          have HB5 := Lib.hid ((HB.out.alloc HB.out.size (.cells #[.int .i64 x] 3)).trans (hb5.mono (Nat.le_trans HB.out.size (by rw [World.size_alloc]; exact Nat.le_succ _))))
          have hgo5 : go < w5.heap.size := Nat.lt_of_lt_of_le (Nat.lt_succ_of_lt hgr) hz5
          have hbx5 : wr.heap.size < w5.heap.size := Nat.lt_of_lt_of_le (Nat.lt_succ_self _) hz5
          clear hb5 hz5 HG HO HB IX
          obtain ⟨cl, fl, ll⟩ := own_nat HG5.out (i := k) (by rw [HLL.out]; exact hkn)
          rw [← HV.out] at cl
          obtain ⟨co, fo, lo⟩ := own_nat HO5.out (i := m) (by rw [HOl.out, ← HNB.out]; exact hlt)
          rw [← hG.out]
          clear hG G
          go_wp2_with fail
          go_roundw
          case rel =>
            have hEE := HEq.out
            have hOO := HOq.out
            rw [if_pos h0] at hEE hOO
            refine ⟨m + 1, hlt, by go_num, by first | exact hgo5 | (simp; exact hgo5), ?_, ?_, ?_⟩
            · exact (HB5.out.setCell hwgl _).setCell hwg _
            · show Wk.Own _ _ _ _ _ _
              rw [hEE]
              have hos := own_set HG5.out (i := k) (by rw [HLL.out]; exact hkn) (v - 1)
              rw [show ((v - 1 : Nat) : Int) = (v : Int) - 1 by omega] at hos
              exact own_grown hos (grown_set _ go m _) (by simp [Value.ownBlock]; exact hne)
            · show Wk.Own _ _ _ _ _ _
              rw [hOO]
              exact own_set (own_grown HO5.out (grown_set w5 gl k _) (by simp [Value.ownBlock]; exact hne2)) (by rw [HOl.out, ← HNB.out]; exact hlt) x
          case measure => simp [intOf]; omega
        · have v0 : v = 0 := Nat.eq_zero_of_not_pos h0
          subst v0
          go_wp2_with ((with_reducible refine (IX.out _ (by (repeat' (first | (with_reducible exact Below.refl _ _) | (with_reducible assumption) | (with_reducible refine Below.alloc ?_ ?_ _) | (with_reducible refine Below.drew ?_) | (with_reducible refine Below.stepG ?_ (by assumption) ?_) | (with_reducible refine Below.setCell ?_ ?_ _) | omega | (dsimp only; omega) | (simp; done) | (simp; omega)))) (by simp) (by simp)).mono ?_); rintro e w5 ⟨rfl, hb5⟩; refine stop_at ?_; intro G hG)
          have hz5 := hb5.size
          rw [World.size_alloc] at hz5
          have bx : w5.cell? ⟨wr.heap.size, 0, none⟩ = some (.int .i64 x) := (hb5.cell (p := ⟨wr.heap.size, 0, none⟩) (by rw [World.size_alloc]; exact Nat.lt_succ_self _)).trans (by simp)
          have HG5 := Lib.hid ((HG.out.alloc (.cells #[.int .i64 x] 3)).below hb5)
          have HO5 := Lib.hid ((HO.out.alloc (.cells #[.int .i64 x] 3)).below hb5)
          have HB5 := Lib.hid ((HB.out.alloc HB.out.size (.cells #[.int .i64 x] 3)).trans (hb5.mono (Nat.le_trans HB.out.size (by rw [World.size_alloc]; exact Nat.le_succ _))))
          have hgo5 : go < w5.heap.size := Nat.lt_of_lt_of_le (Nat.lt_succ_of_lt hgr) hz5
          have hbx5 : wr.heap.size < w5.heap.size := Nat.lt_of_lt_of_le (Nat.lt_succ_self _) hz5
          clear hb5 hz5 HG HO HB IX
          obtain ⟨cl, fl, ll⟩ := own_nat HG5.out (i := k) (by rw [HLL.out]; exact hkn)
          rw [← HV.out] at cl
          rw [← hG.out]
          clear hG G
          go_wp2_with fail
          go_roundw
          case rel =>
            have hEE := HEq.out
            have hOO := HOq.out
            rw [if_neg (Nat.lt_irrefl 0)] at hEE hOO
            refine ⟨m + 1, hlt, by go_num, hgo5, HB5.out, ?_, ?_⟩
            · show Wk.Own _ _ _ _ _ _
              rw [hEE]; exact HG5.out
            · show Wk.Own _ _ _ _ _ _
              rw [hOO, set_same HOa.out]; exact HO5.out
          case measure => simp [intOf]; omega
      · have ei : ixI hs x = -1 := by unfold ixI; rw [if_neg hsl]
        rw [ei] at IX
        have hT : t1s hs Lm x = (0, Lm) := by
          unfold t1s
          rw [if_neg (fun h => hsl h.1)]
        rw [hT] at hE hO
        have HEq := Lib.hid hE
        have HOq := Lib.hid hO
        have HXX := Lib.hid hx
        have HOl := Lib.hid hOl
        have HOa := Lib.hid hOa
        have HLM := Lib.hid hLm
        clear hE hO hx hLl hsum hOl hOa hT hLm ei hsl hmx
        go_wp2_with ((with_reducible refine (IX.out _ (by (repeat' (first | (with_reducible exact Below.refl _ _) | (with_reducible assumption) | (with_reducible refine Below.alloc ?_ ?_ _) | (with_reducible refine Below.drew ?_) | (with_reducible refine Below.stepG ?_ (by assumption) ?_) | (with_reducible refine Below.setCell ?_ ?_ _) | omega | (dsimp only; omega) | (simp; done) | (simp; omega)))) (by simp) (by simp)).mono ?_); rintro e w5 ⟨rfl, hb5⟩; refine stop_at ?_; intro G hG)
        have hz5 := hb5.size
        rw [World.size_alloc] at hz5
        have bx : w5.cell? ⟨wr.heap.size, 0, none⟩ = some (.int .i64 x) := (hb5.cell (p := ⟨wr.heap.size, 0, none⟩) (by rw [World.size_alloc]; exact Nat.lt_succ_self _)).trans (by simp)
        have HG5 := Lib.hid ((HG.out.alloc (.cells #[.int .i64 x] 3)).below hb5)
        have HO5 := Lib.hid ((HO.out.alloc (.cells #[.int .i64 x] 3)).below hb5)
        have HB5 := Lib.hid ((HB.out.alloc HB.out.size (.cells #[.int .i64 x] 3)).trans (hb5.mono (Nat.le_trans HB.out.size (by rw [World.size_alloc]; exact Nat.le_succ _))))
        have hgo5 : go < w5.heap.size := Nat.lt_of_lt_of_le (Nat.lt_succ_of_lt hgr) hz5
        have hbx5 : wr.heap.size < w5.heap.size := Nat.lt_of_lt_of_le (Nat.lt_succ_self _) hz5
        clear hb5 hz5 HG HO HB IX
        rw [← hG.out]
        clear hG G
        go_wp2_with fail
        go_roundw
        case rel =>
          have hEE := HEq.out
          have hOO := HOq.out
          refine ⟨m + 1, hlt, by go_num, hgo5, HB5.out, ?_, ?_⟩
          · show Wk.Own _ _ _ _ _ _
            rw [hEE]; exact HG5.out
          · show Wk.Own _ _ _ _ _ _
            rw [hOO, set_same HOa.out]; exact HO5.out
        case measure => simp [intOf]; omega
    · obtain rfl : m = nb := by omega
      have hO0 : t1o hs ps (xs.take m) ++ List.replicate (xs.length - m) 0 = t1o hs ps xs := by
        rw [← HNB.out, Nat.sub_self, List.take_of_length_le (by rw [← HNB.out]; exact Nat.le_refl _)]; simp
      have hE0 : t1e hs ps (xs.take m) = t1e hs ps xs := by rw [List.take_of_length_le (by rw [← HNB.out]; exact Nat.le_refl _)]
      rw [hO0] at HO
      rw [hE0] at HG
      obtain ⟨O, hOd⟩ : ∃ O, O = t1o hs ps xs := ⟨_, rfl⟩
      obtain ⟨L, hLd⟩ : ∃ L, L = t1e hs ps xs := ⟨_, rfl⟩
      have hol : O.length = m := by rw [hOd, t1o_len]; exact HNB.out.symm
      have hLl : L.length = n := by rw [hLd, t1e_len]; exact HPL.out
      have hz0 : 0 ∉ hs := fun h => by
        rw [HHS.out] at h
        obtain ⟨y, hy, he⟩ := List.mem_map.1 h
        have := HOK.out.hop y hy
        omega
      have hcs : O.count 0 = L.sum := by
        have := t1_sum hz0 xs ps (by rw [HPL.out, HLS.out])
        rw [← hOd, ← hLd, HPS.out, ← HNB.out] at this
        omega
      have hLs : L.sum ≤ 64 := by
        rw [hLd]
        exact Nat.le_trans (t1e_sum_le _ _) (by rw [HPS.out]; exact nb2)
      rw [← hOd] at HO
      rw [← hLd] at HG
      have HOD := Lib.hid hOd
      have HLD := Lib.hid hLd
      have HOL := Lib.hid hol
      have HLL := Lib.hid hLl
      have HCS := Lib.hid hcs
      have HLSM := Lib.hid hLs
      clear hO0 hE0 hOd hLd hol hLl hcs hLs hz0
      go_wp2_with fail
      go_loopw [65, 13] (fun i nx wr => ∃ (j q : Nat), j ≤ m ∧ i = .int .i64 j ∧ nx = .int .i64 q ∧ q < n ∧ go < wr.heap.size ∧ Hid (∀ y, y < q → (t2e hs L (O.take j)).getD y 0 = 0) ∧ Hid ((O.drop j).count 0 = (t2e hs L (O.take j)).sum) ∧ Hid ((t2e hs L (O.take j)).sum ≤ 64) ∧ Hid (Below w.heap.size w wr) ∧ Hid (Wk.Own wr w.heap.size 3 1 (.slice (some ⟨gl, 0, none⟩) n capl) ((t2e hs L (O.take j)).map nC)) ∧ Hid (Wk.Own wr w.heap.size 3 1 (.slice (some ⟨go, 0, none⟩) m m) ((t2o hs L (O.take j) ++ O.drop j).map nC))) (fun i _ _ => m - (intOf i).toNat)
      case atStart =>
        refine ⟨0, 0, Nat.zero_le _, by go_num, by go_num, ?_, hgr, fun y hy => absurd hy (Nat.not_lt_zero _), ?_, ?_, HB.out, ?_, ?_⟩
        · have := HOK.out.one; have := HN.out; omega
        · show _ = _; simpa [t2e] using HCS.out
        · show _ ≤ _; simpa [t2e] using HLSM.out
        · show Wk.Own _ _ _ _ _ _; simpa [t2e] using HG.out
        · show Wk.Own _ _ _ _ _ _; simpa [t2o] using HO.out
      case round =>
        clear HB HG HO hgr
        obtain ⟨j, q, hj, rfl, rfl, hqn, hgr, HQ, HC, HM, HB, HG, HO⟩ := hrel
        by_cases hlt2 : j < m
        · have hjO : j < O.length := by rw [HOL.out]; exact hlt2
          have hE := e2_step (hs := hs) (L := L) hjO
          have hO := o2_step (hs := hs) (L := L) hjO
          have hOa := o2_at (hs := hs) (L := L) hjO
          have hOl := o2_len (hs := hs) (L := L) (Nat.le_of_lt hjO)
          have hcd := count_drop hjO
          have hGl : (t2e hs L (O.take j)).length = n := by rw [t2e_len]; exact HLL.out
          obtain ⟨o, ho⟩ : ∃ o, o = O.getD j 0 := ⟨_, rfl⟩
          rw [← ho] at hE hO hOa hcd
          rw [HOL.out] at hOl
          have HJE := Lib.hid hE
          have HJO := Lib.hid hO
          have HJD := Lib.hid hcd
          clear hE hO hcd ho hjO
          obtain ⟨Lj, hLj⟩ : ∃ z, z = t2e hs L (O.take j) := ⟨_, rfl⟩
          obtain ⟨Oj, hOj⟩ : ∃ z, z = t2o hs L (O.take j) ++ O.drop j := ⟨_, rfl⟩
          rw [← hLj] at HQ HC HM HG HJE HJO hGl
          rw [← hOj] at HO HJO hOa hOl
          obtain ⟨co, fo, lo⟩ := own_nat HO.out (i := j) (by rw [hOl]; exact hlt2)
          rw [hOa] at co
          have HGL := Lib.hid hGl
          have HOLj := Lib.hid hOl
          have HOA := Lib.hid hOa
          clear hGl hOl hOa hLj hOj
          by_cases h0 : 0 < o
          · have hT : t2s hs Lj o = (o, Lj) := by unfold t2s; rw [if_pos h0]
            rw [hT] at HJE HJO
            clear hT
            go_wp2_with fail
            go_roundw
            case rel =>
              have h1 := HJD.out
              rw [if_neg (Nat.pos_iff_ne_zero.1 h0), Nat.zero_add] at h1
              have e1 := HJE.out
              have e2 := HJO.out
              dsimp only at e1 e2
              rw [set_same HOA.out] at e2
              refine ⟨j + 1, q, hlt2, by go_num, rfl, hqn, hgr, ?_, ?_, ?_, HB.out, ?_, ?_⟩
              · rw [e1]; exact HQ.out
              · show _ = _; rw [e1, ← h1]; exact HC.out
              · show _ ≤ _; rw [e1]; exact HM.out
              · show Wk.Own _ _ _ _ _ _; rw [e1]; exact HG.out
              · show Wk.Own _ _ _ _ _ _; rw [e2]; exact HO.out
            case measure => simp [intOf]; omega
          · have o0 : o = 0 := Nat.eq_zero_of_not_pos h0
            subst o0
            have hcd := HJD.out
            rw [if_pos rfl] at hcd
            have hpos : 0 < Lj.sum := by rw [← HC.out, hcd]; exact Nat.lt_of_lt_of_le Nat.zero_lt_one (Nat.le_add_right 1 _)
            obtain ⟨f1, f2, f3⟩ := frst_lt hpos
            have hT : t2s hs Lj 0 = (hs.getD (frst Lj) 0, Lj.set (frst Lj) (Lj.getD (frst Lj) 0 - 1)) := by unfold t2s; rw [if_neg (Nat.lt_irrefl 0)]
            rw [hT] at HJE HJO
            have hqf : q ≤ frst Lj := Nat.le_of_not_lt fun h => by
              have := HQ.out _ h
              rw [this] at f2; exact Nat.lt_irrefl _ f2
            generalize frst Lj = f at *
            rw [HGL.out] at f1
            obtain ⟨v, hv⟩ : ∃ v, v = Lj.getD f 0 := ⟨_, rfl⟩
            have hvb : v ≤ 64 := by rw [hv]; exact Nat.le_trans (getD_le_sum Lj f) HM.out
            rw [← hv] at f2 HJE HJO
            have hss := sum_set Lj f (v - 1) (by rw [HGL.out]; exact f1)
            rw [← hv] at hss
            have hsn : (O.drop (j + 1)).count 0 = (Lj.set f (v - 1)).sum := by
              have := HC.out
              rw [hcd] at this
              omega
            have hsm : (Lj.set f (v - 1)).sum ≤ 64 := by have := HM.out; omega
            have HSN := Lib.hid hsn
            have HSMM := Lib.hid hsm
            have HF3 := Lib.hid f3
            have HV := Lib.hid hv
            have vn0 : ¬ v = 0 := Nat.pos_iff_ne_zero.1 f2
            have ev : wrap64 ((v : Int) - 1) = ((v - 1 : Nat) : Int) := by rw [wrap64_in (by omega) (by omega)]; omega
            obtain ⟨y, hy⟩ : ∃ y, l[f]? = some y := ⟨_, List.getElem?_eq_getElem (by rw [← HN.out]; exact f1)⟩
            obtain ⟨ba, oa, rfl, hba, d0, _⟩ := Sl.share HS.out HB.out hy
            have hya : hs.getD f 0 = y.1 := by rw [HHS.out, List.getD_eq_getElem?_getD, List.getElem?_map, hy]; rfl
            rw [hya] at HJO
            have hbr : ba < wr.heap.size := Nat.lt_of_lt_of_le hba HB.out.size
            have hbg : ba ≠ gl := Nat.ne_of_lt (Nat.lt_of_lt_of_le hba hwgl)
            obtain ⟨cf, ff, lf⟩ := own_nat HG.out (i := f) (by rw [HGL.out]; exact f1)
            rw [← HV.out] at cf
            clear hss hsn hsm f3 hv hy hya hcd hpos hT hvb
            go_wp2_with fail
            go_loopw [13] (fun nx w8 => ∃ q2 : Nat, q2 ≤ f ∧ nx = .int .i64 q2 ∧ w8 = wr) (fun nx _ => f - (intOf nx).toNat)
            case atStart => exact ⟨q, hqf, rfl, rfl⟩
            case round =>
              obtain ⟨q2, hq2, rfl, rfl⟩ := hrel
              by_cases hq3 : q2 < f
              · obtain ⟨cq, fq, lq⟩ := own_nat HG.out (i := q2) (by rw [HGL.out]; exact Nat.lt_trans hq3 f1)
                rw [HF3.out q2 hq3] at cq
                have hq4 : q2 < n := Nat.lt_trans hq3 f1
                clear cf ff
                go_wp2_with fail
                go_roundw
                case rel => exact ⟨q2 + 1, hq3, by go_num, by first | rfl | trivial⟩
                case measure => simp [intOf]; omega
              · obtain rfl : q2 = f := Nat.le_antisymm hq2 (Nat.le_of_not_lt hq3)
                go_wp2_with fail
                go_roundw
                case rel =>
                  have e1 := HJE.out
                  have e2 := HJO.out
                  try dsimp only at e1
                  try dsimp only at e2
                  have hos := own_set HG.out (i := q2) (by rw [HGL.out]; exact f1) (v - 1)
                  refine ⟨j + 1, q2, hlt2, by go_num, rfl, f1, by simpa using hgr, ?_, ?_, ?_, ?_, ?_, ?_⟩
                  · rw [e1]
                    intro z hz
                    rw [getD_set, if_neg (fun h => Nat.ne_of_lt hz h.1)]
                    exact HF3.out z hz
                  · show _ = _; rw [e1]; exact HSN.out
                  · show _ ≤ _; rw [e1]; exact HSMM.out
                  · exact (HB.out.setCell hwgl _).setCell hwg _
                  · show Wk.Own _ _ _ _ _ _
                    rw [e1]
                    first
                      | exact own_grown hos (grown_set _ go j _) (by simp [Value.ownBlock]; exact hne)
                      | (rw [show ((v - 1 : Nat) : Int) = (v : Int) - 1 by omega] at hos; exact own_grown hos (grown_set _ go j _) (by simp [Value.ownBlock]; exact hne))
                  · show Wk.Own _ _ _ _ _ _
                    rw [e2]
                    exact own_set (own_grown HO.out (grown_set _ gl q2 _) (by simp [Value.ownBlock]; exact hne2)) (by rw [HOLj.out]; exact hlt2) y.1
                case measure => simp [intOf]; omega
        · obtain rfl : j = m := by omega
          go_wp2_with fail
          go_returns
          have e1 : t2o hs L (O.take j) ++ O.drop j = t2o hs L O := by
            rw [List.take_of_length_le (by rw [HOL.out]; exact Nat.le_refl _), List.drop_of_length_le (by rw [HOL.out]; exact Nat.le_refl _), List.append_nil]
          have ho := HO.out
          rw [e1] at ho
          refine ⟨go, rfl, HB.out, ?_⟩
          unfold turnL
          rw [← HHS.out, ← HOD.out, ← HLD.out]
          exact ho
end Go.Proofs.Yticfcigkldkhmaa
