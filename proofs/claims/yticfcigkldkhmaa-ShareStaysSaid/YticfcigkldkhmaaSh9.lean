
/- Shares: Deal. -/
import Derived.Test.YticfcigkldkhmaaSh8
set_option linter.unusedVariables false
set_option linter.unusedSimpArgs false
namespace Go.Proofs.Yticfcigkldkhmaa
open Go Go.RowKit Go.Sort Wc Wk

def dealL : List Nat → List Nat → List Nat
  | h :: hs, p :: ps => List.replicate p h ++ dealL hs ps
  | _, _ => []
theorem deal_len : ∀ (hs ps : List Nat), hs.length = ps.length → (dealL hs ps).length = ps.sum
  | [], [], _ => rfl
  | h :: hs, p :: ps, e => by
    show (List.replicate p h ++ dealL hs ps).length = _
    rw [List.length_append, List.length_replicate, deal_len hs ps (by simpa using e), List.sum_cons]
  | [], _ :: _, e => by simp at e
  | _ :: _, [], e => by simp at e
theorem deal_mem : ∀ (hs ps : List Nat) (x : Nat), x ∈ dealL hs ps → x ∈ hs
  | h :: hs, p :: ps, x, hx => by
    have hx : x ∈ List.replicate p h ++ dealL hs ps := hx
    rcases List.mem_append.1 hx with hx | hx
    · rw [List.eq_of_mem_replicate hx]; simp
    · exact List.mem_cons_of_mem _ (deal_mem hs ps x hx)
  | [], _, x, hx => by simp [dealL] at hx
  | _ :: _, [], x, hx => by simp [dealL] at hx
theorem deal_count : ∀ (hs ps : List Nat), hs.Nodup → hs.length = ps.length → ∀ k, k < hs.length → (dealL hs ps).count (hs.getD k 0) = ps.getD k 0
  | [], _, _, _, k, hk => absurd hk (Nat.not_lt_zero _)
  | _ :: _, [], _, e, _, _ => by simp at e
  | h :: hs, p :: ps, hn, e, k, hk => by
    rw [List.nodup_cons] at hn
    show (List.replicate p h ++ dealL hs ps).count _ = _
    rw [List.count_append]
    cases k with
    | zero =>
      have h0 : (dealL hs ps).count h = 0 := List.count_eq_zero.2 (fun hm => hn.1 (deal_mem hs ps h hm))
      show List.count h _ + List.count h _ = p
      rw [h0, List.count_replicate_self]; rfl
    | succ k =>
      have hk' : k < hs.length := by simpa using hk
      have ih := deal_count hs ps hn.2 (by simpa using e) k hk'
      show List.count (hs.getD k 0) _ + List.count (hs.getD k 0) _ = ps.getD k 0
      rw [ih]
      have : (List.replicate p h).count (hs.getD k 0) = 0 := List.count_eq_zero.2 (fun hm => by
        have := List.eq_of_mem_replicate hm
        rw [getD_eq hk'] at this
        exact hn.1 (this ▸ List.getElem_mem hk'))
      omega
theorem deal_snoc : ∀ (hs ps : List Nat) (i : Nat), hs.length = ps.length → i < hs.length → dealL (hs.take (i + 1)) (ps.take (i + 1)) = dealL (hs.take i) (ps.take i) ++ List.replicate (ps.getD i 0) (hs.getD i 0)
  | [], _, i, _, h => absurd h (Nat.not_lt_zero _)
  | _ :: _, [], _, e, _ => by simp at e
  | h :: hs, p :: ps, 0, e, _ => by simp [dealL]
  | h :: hs, p :: ps, i + 1, e, hi => by
    have ih := deal_snoc hs ps i (by simpa using e) (by simpa using hi)
    show List.replicate p h ++ dealL (hs.take (i + 1)) (ps.take (i + 1)) = (List.replicate p h ++ dealL (hs.take i) (ps.take i)) ++ List.replicate (ps.getD i 0) (hs.getD i 0)
    rw [ih, List.append_assoc]

theorem own_weaken {w : World} {B B' : Nat} {e : TypeId} {sz : Nat} {v : Value} {xs : List (List Value)} (h : Wk.Own w B e sz v xs) (hB : B' ≤ B) : Wk.Own w B' e sz v xs := by
  obtain ⟨h1, h2, h3⟩ := h
  refine ⟨h1, h2, ?_⟩
  rcases h3 with h3 | ⟨g, cap, cur, hv, hb, r⟩
  · exact .inl h3
  · exact .inr ⟨g, cap, cur, hv, Nat.le_trans hB hb, r⟩
theorem Sl.nat {w w' : World} {a : Option Addr} {n cap : Nat} {xs : List Nat} (hs : Sl w 1 (.slice a n cap) (xs.map nC)) (hb : Below w.heap.size w w') {i : Nat} (hi : i < xs.length) :
    ∃ b off, a = some ⟨b, off, none⟩ ∧ b < w.heap.size ∧ w'.cell? ⟨b, off + i, none⟩ = some (.int .i64 (xs.getD i 0 : Nat)) := by
  obtain ⟨b, off, ha, hlt, hc⟩ := Sl.at hs (i := i) (c := nC (xs.getD i 0)) (by rw [List.getElem?_map, List.getElem?_eq_getElem hi, getD_eq hi]; rfl)
  have := (hb.cell (p := ⟨b, off + i * 1 + 0, none⟩) hlt).trans (hc 0 _ rfl)
  rw [Nat.mul_one, Nat.add_zero] at this
  exact ⟨b, off, ha, hlt, this⟩


set_option maxHeartbeats 2000000 in
theorem deal_any (a : Option Addr) (cap n : Nat) (l : List (Nat × Nat)) (many : Nat) (w : World) (hn : n = l.length) (hs : Sl w 2 (.slice a n cap) (l.map shCells)) (hok : ShOk l) (hm1 : 1 ≤ many) (hmany : many ≤ 64) :
    Calls Try.prog 57 #[.slice a n cap, .int .i64 many] w fun e w' => ∃ v, e = .returned (.tuple #[v, .int .i64 0]) ∧ Below w.heap.size w w' ∧ Wk.Own w' w.heap.size 3 1 v ((dealL (l.map (·.1)) (partsL (l.map (·.2)) many)).map nC) := by
  have HS := Lib.hid hs
  have HN := Lib.hid hn
  have HOK := Lib.hid hok
  have h1 := hs.lens.2.1
  have h2 := hs.lens.2.2
  have n1 : 1 ≤ n := by have := hok.one; omega
  have n2 : n ≤ 16 := by have := hok.len; omega
  have CK := Lib.hid (fun W (hb : Below w.heap.size w W) => scheck_any a cap n l W hn (hs.below hb) hok)
  have PT := Lib.hid (fun W (hb : Below w.heap.size w W) => parts_any a cap n l many W hn (hs.below hb) hok hmany)
  have hpo := parts_ok (l.map (·.2)) many (by have := sum_wt hok.wt; omega)
  have HPL := Lib.hid (show (partsL (l.map (·.2)) many).length = n by rw [hpo.len, List.length_map, hn])
  have HPS := Lib.hid hpo.sum
  clear hs hn hok hpo
  generalize partsL (l.map (·.2)) many = ps at *
  go_enter Try.func57, Try.ntmps57
  go_wp2_with (first | ((with_reducible refine (CK.out _ (by (repeat' (first | (with_reducible exact Below.refl _ _) | (with_reducible assumption) | (with_reducible refine Below.alloc ?_ ?_ _) | (with_reducible refine Below.drew ?_) | (with_reducible refine Below.stepG ?_ (by assumption) ?_) | (with_reducible refine Below.setCell ?_ ?_ _) | omega | (dsimp only; omega) | (simp; done) | (simp; omega))))).mono ?_); rintro e w2 ⟨rfl, hb2⟩; (repeat (with_reducible (replace hb2 := Below.undrew hb2))); obtain ⟨hc2, hf2⟩ := bcell hb2; have hz2 := hb2.size; (repeat (first | rw [World.size_alloc] at hz2 | rw [World.size_drew] at hz2 | rw [World.size_setCell] at hz2)); (try have : w.heap.size < w2.heap.size := by omega); (try have : w.heap.size < w2.heap.size + 1 := by omega); (try have : w.heap.size < w2.heap.size + 1 + 1 := by omega); (try have : w.heap.size < w2.heap.size + 1 + 1 + 1 := by omega); (try have : w3.heap.size < w2.heap.size := by omega); (try have : w3.heap.size < w2.heap.size + 1 := by omega); (try have : w3.heap.size < w2.heap.size + 1 + 1 := by omega); (try have : w3.heap.size < w2.heap.size + 1 + 1 + 1 := by omega)) | ((with_reducible refine (PT.out _ (by (repeat' (first | (with_reducible exact Below.refl _ _) | (with_reducible assumption) | (with_reducible refine Below.alloc ?_ ?_ _) | (with_reducible refine Below.drew ?_) | (with_reducible refine Below.stepG ?_ (by assumption) ?_) | (with_reducible refine Below.setCell ?_ ?_ _) | omega | (dsimp only; omega) | (simp; done) | (simp; omega))))).mono ?_); rintro e w3 ⟨g3, cap3, rfl, hb3, ho3⟩; (repeat (with_reducible (replace hb3 := Below.undrew hb3))); obtain ⟨hc3, hf3⟩ := bcell hb3; have hz3 := hb3.size; (repeat (first | rw [World.size_alloc] at hz3 | rw [World.size_drew] at hz3 | rw [World.size_setCell] at hz3)); (try have : w.heap.size < w3.heap.size := by omega); (try have : w.heap.size < w3.heap.size + 1 := by omega); (try have : w.heap.size < w3.heap.size + 1 + 1 := by omega); (try have : w.heap.size < w3.heap.size + 1 + 1 + 1 := by omega)))
  have HP3 := Lib.hid ho3.sl
  have hb03 := Lib.hid (hb2.trans (hb3.mono hb2.size))
  have k1 := (own_lens ho3).2.1
  have k2 := (own_lens ho3).2.2
  clear ho3 hc2 hf2 hc3 hf3 hb2 hb3 CK PT
  go_loopw [25, 7] (fun i v wr => ∃ m : Nat, m ≤ n ∧ i = .int .i64 m ∧ Hid (Below w3.heap.size w3 wr) ∧ Hid (Wk.Own wr w3.heap.size 3 1 v ((dealL ((l.map (·.1)).take m) (ps.take m)).map nC))) (fun i _ _ => n - (intOf i).toNat)
  case atStart => exact ⟨0, Nat.zero_le _, by go_num, Below.refl _ _, by show Wk.Own _ _ _ _ _ _; simp [dealL]; exact Wk.Own.nil _ _ _ _⟩
  case round =>
    obtain ⟨m, hm, rfl, HB, HO⟩ := hrel
    by_cases hlt : m < n
    · obtain ⟨sh, hx⟩ : ∃ x, l[m]? = some x := ⟨_, List.getElem?_eq_getElem (by have := HN.out; omega)⟩
      have hb0r := Lib.hid (hb03.out.trans (HB.out.mono hb03.out.size))
      obtain ⟨bl, off, rfl, hbl, d0, d1⟩ := Sl.share HS.out hb0r.out hx
      obtain ⟨g, off3, hge, hg3, c3⟩ := Sl.nat HP3.out HB.out (i := m) (by have := HPL.out; omega)
      cases hge
      rw [Nat.zero_add] at c3
      obtain ⟨p, hp⟩ : ∃ p, p = ps.getD m 0 := ⟨_, rfl⟩
      rw [← hp] at c3
      have hpb : p ≤ 64 := by
        have := getD_le_sum ps m
        have := HPS.out
        omega
      have hdl := deal_len ((l.map (·.1)).take m) (ps.take m) (by rw [List.length_take, List.length_take, List.length_map]; have := HPL.out; have := HN.out; omega)
      have hds := sum_take_le ps m
      rw [HPS.out] at hds
      have HDL := Lib.hid (show (dealL ((l.map (·.1)).take m) (ps.take m)).length ≤ 64 by omega)
      have HSN := Lib.hid (show dealL ((l.map (·.1)).take (m + 1)) (ps.take (m + 1)) = dealL ((l.map (·.1)).take m) (ps.take m) ++ List.replicate p sh.1 by
        rw [deal_snoc _ _ _ (by rw [List.length_map]; have := HPL.out; have := HN.out; omega) (by rw [List.length_map]; have := HN.out; omega), ← hp]
        congr 2
        rw [List.getD_eq_getElem?_getD, List.getElem?_map, hx]; rfl)
      have hzr := HB.out.size
      have hz0 := hb03.out.size
      have lt1 : bl < wr.heap.size := by omega
      obtain ⟨av, capv, rfl⟩ := HO.out.shape
      have ho := HO.out
      rw [List.length_map] at ho ⊢
      have HO := Lib.hid ho
      clear ho
      have RP := Lib.hid (repeat_any (some ⟨wr.heap.size, 0, none⟩) 1 p sh.1 (wr.alloc (.cells #[.int .i64 sh.1] 3)) (by omega) (sl_new (c := nC sh.1) rfl rfl))
      clear hx hp hdl hds hb0r
      go_wp2_with (first | ((with_reducible refine (RP.out).mono ?_); rintro e w5 ⟨g5, rfl, hb5, ho5⟩; (repeat (with_reducible (replace hb5 := Below.undrew hb5))); obtain ⟨hc5, hf5⟩ := bcell hb5; have hz5 := hb5.size; (repeat (first | rw [World.size_alloc] at hz5 | rw [World.size_drew] at hz5 | rw [World.size_setCell] at hz5)); (try have : w.heap.size < w5.heap.size := by omega); (try have : w.heap.size < w5.heap.size + 1 := by omega); (try have : w.heap.size < w5.heap.size + 1 + 1 := by omega); (try have : w.heap.size < w5.heap.size + 1 + 1 + 1 := by omega); (try have : w3.heap.size < w5.heap.size := by omega); (try have : w3.heap.size < w5.heap.size + 1 := by omega); (try have : w3.heap.size < w5.heap.size + 1 + 1 := by omega); (try have : w3.heap.size < w5.heap.size + 1 + 1 + 1 := by omega)) | (at_builtin; refine stop_at ?_; intro G hG))
      have HO5 := Lib.hid ho5
      clear ho5
      rw [← hG.out]; clear hG G
      refine wpList_append_any rfl _ _ 44 3 1 8 _ rfl eiNat w3.heap.size _ ((dealL ((l.map (·.1)).take m) (ps.take m)).map nC) rfl (by ((repeat (first | (with_reducible refine Wk.Own.alloc ?_ _) | (with_reducible refine Wk.Own.dr ?_))); refine Wk.Own.below ?_ hb5; (repeat (first | (with_reducible refine Wk.Own.alloc ?_ _) | (with_reducible refine Wk.Own.dr ?_))); exact HO.out)) _ ((List.replicate p sh.1).map nC) rfl (by have := HO5.out.sl; exact this) (by intro c hc; obtain ⟨r, _, rfl⟩ := List.mem_map.1 hc; exact nC_one r) (by have h1 := HDL.out; have h2 : (List.replicate p sh.1).length = p := List.length_replicate; first | omega | (simp; omega)) (by decide) (by first | omega | (simp; done) | (simp; omega)) ?_
      intro v6 w6 hown6 hb6
      rw [← List.map_append] at hown6
      obtain ⟨xs6, hxs6⟩ : ∃ x : List Nat, x = (dealL ((l.map (·.1)).take m) (ps.take m)) ++ (List.replicate p sh.1) := ⟨_, rfl⟩
      rw [← hxs6] at hown6
      have hl6 : xs6.length = (dealL ((l.map (·.1)).take m) (ps.take m)).length + (List.replicate p sh.1).length := by rw [hxs6, List.length_append]
      have HX6 := Lib.hid hxs6
      clear hxs6
      have HL6 := Lib.hid hl6
      clear hl6
      obtain ⟨a6, cap6, rfl⟩ := hown6.shape
      rw [List.length_map] at hown6 ⊢
      have HO6 := Lib.hid hown6
      clear hown6
      obtain ⟨hc6, hf6⟩ := bcellB hb6; have hz6 := hb6.size; (repeat (first | rw [World.size_alloc] at hz6 | rw [World.size_drew] at hz6 | rw [World.size_setCell] at hz6)); (try have : w.heap.size < w6.heap.size := by omega); (try have : w.heap.size < w6.heap.size + 1 := by omega); (try have : w.heap.size < w6.heap.size + 1 + 1 := by omega); (try have : w.heap.size < w6.heap.size + 1 + 1 + 1 := by omega); (try have : w3.heap.size < w6.heap.size := by omega); (try have : w3.heap.size < w6.heap.size + 1 := by omega); (try have : w3.heap.size < w6.heap.size + 1 + 1 := by omega); (try have : w3.heap.size < w6.heap.size + 1 + 1 + 1 := by omega)
      go_wp2_with fail
      go_roundw
      case rel => exact ⟨m + 1, by omega, by go_num, Lib.hid (HB.out.trans (Below.trans (by (repeat' (first | (with_reducible exact Below.refl _ _) | (with_reducible assumption) | (with_reducible refine Below.alloc ?_ ?_ _) | (with_reducible refine Below.drew ?_) | (with_reducible refine Below.stepG ?_ (by assumption) ?_) | (with_reducible refine Below.setCell ?_ ?_ _) | omega | (dsimp only; omega) | (simp; done) | (simp; omega)))) hb6)), by show Wk.Own _ _ _ _ _ _; rw [HSN.out, ← HX6.out]; exact HO6.out⟩
      case measure => simp [intOf]; omega
    · obtain rfl : m = n := by omega
      go_wp2_with fail
      go_returns
      have e1 : (l.map (·.1)).take m = l.map (·.1) := List.take_of_length_le (by rw [List.length_map]; have := HN.out; omega)
      have e2 : ps.take m = ps := List.take_of_length_le (by have := HPL.out; omega)
      have ho := HO.out
      rw [e1, e2] at ho
      exact ⟨_, rfl, hb03.out.trans (HB.out.mono hb03.out.size), own_weaken ho hb03.out.size⟩
end Go.Proofs.Yticfcigkldkhmaa
