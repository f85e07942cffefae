
/- Contracts of package via: port. -/
import Derived.Test.YtllemhknmleklaaVia1
import Derived.Test.YtllemhknmleklaaShelf
import Derived.Test.YtllemhknmleklaaKit
set_option linter.unusedVariables false
namespace Go.Proofs.Ytllemhknmleklaa
open Go.RowKit Go.Sort Wc Wk

def natCells (x : Nat) : List Value := [.int .i64 x]
theorem natCells_one (x : Nat) : ∀ u ∈ natCells x, u.oneCell' = true := by
  intro u hu
  simp [natCells] at hu
  subst hu; rfl
theorem eiInt : EI Try.prog 42 3 1 8 (.int .i64 0) := ⟨by kernel_rfl, by kernel_rfl, rfl, by decide⟩

theorem contains_nat (a : Option Addr) (cap x : Nat) (seen : List Nat) (w : World) (h : Sl w 1 (.slice a seen.length cap) (seen.map natCells)) :
    Calls Try.prog 107 #[.slice a seen.length cap, .int .i64 x] w fun e w' => e = .returned (.bool (decide (x ∈ seen))) ∧ w = w' := by
  obtain ⟨_, a', cap', he, h1, h2, hcc⟩ := h
  simp only [Value.slice.injEq] at he
  obtain ⟨rfl, _, rfl⟩ := he
  by_cases h0 : seen = []
  · subst h0
    exact (Try.slices_Contains_int_empty a cap x w).mono fun e w' ⟨he, hw⟩ => ⟨by rw [he]; simp, hw.symm⟩
  · obtain ⟨b, off, rfl, hlt, hcell⟩ := hcc (by intro h; rw [List.map_eq_nil_iff] at h; exact h0 h)
    refine (Try.slices_Contains_int b off seen.length cap (seen.map (fun (x : Nat) => (x : Int))) x w (by simp) ?_ ?_).mono fun e w' ⟨he, hw⟩ => ⟨?_, hw.symm⟩
    · unfold maxLen at h2; simp at h1; omega
    · intro j hj
      simp only [List.length_map] at hj
      have := hcell j (natCells seen[j]) (by rw [List.getElem?_map, List.getElem?_eq_getElem hj]; rfl) 0 _ rfl
      rw [Nat.mul_one, Nat.add_zero] at this
      rw [this]
      simp [List.getD_eq_getElem?_getD, List.getElem?_eq_getElem hj]
    · rw [he]
      congr 2
      rw [List.take_of_length_le (by simp)]
      rw [Bool.eq_iff_iff, List.contains_iff_mem, decide_eq_true_eq, List.mem_map]
      exact ⟨fun ⟨y, hy, e⟩ => by have : y = x := by omega
                                  rwa [this] at hy, fun hx => ⟨x, hx, rfl⟩⟩

/-- The port of a hop: hop by hop, what was seen behind. -/
def portW (l : List ViaD) : Nat → List Nat → Nat → Nat × Nat × Nat
  | 0, _, _ => (0, 0, 9)
  | f + 1, seen, hop =>
    match viaAt l hop with
    | none => (0, 0, 7)
    | some v => if hop ∈ seen then (0, 0, 10) else if 8 < seen.length then (0, 0, 9) else if 0 < v.port then (v.port, seen.length, 0) else portW l f (seen ++ [hop]) v.next
def port3 (r : Nat × Nat × Nat) : Value := .tuple #[.int .i64 r.1, .int .i64 r.2.1, .int .i64 r.2.2]

theorem viaVal_def (v : ViaD) : viaVal v = .agg #[.int .i64 v.hop, .int .i64 v.port, .int .i64 v.next] := rfl
theorem portW_none {l : List ViaD} {f hop : Nat} {seen : List Nat} (h : viaAt l hop = none) : portW l (f + 1) seen hop = (0, 0, 7) := by
  unfold portW; rw [h]
theorem portW_some {l : List ViaD} {f hop : Nat} {seen : List Nat} {v : ViaD} (h : viaAt l hop = some v) :
    portW l (f + 1) seen hop = if hop ∈ seen then (0, 0, 10) else if 8 < seen.length then (0, 0, 9) else if 0 < v.port then (v.port, seen.length, 0) else portW l f (seen ++ [hop]) v.next := by
  conv => lhs; unfold portW
  rw [h]
theorem viaAt_mem {l : List ViaD} {h : Int} {v : ViaD} (hv : viaAt l h = some v) : v ∈ l ∧ (v.hop : Int) = h := by
  unfold viaAt at hv
  exact ⟨List.mem_of_find?_eq_some hv, by simpa using List.find?_some hv⟩


set_option maxRecDepth 100000 in
set_option maxHeartbeats 2000000 in
theorem port_any (b n hop : Nat) (l : List ViaD) (w : World) (hm : Mp w Try.prog 3 b n (viaF l)) (hok : ∀ v ∈ l, v.ok) (hh : hop ≤ 1000) :
    Calls Try.prog 61 #[.map (some b), .int .i64 hop] w fun e w' => e = .returned (port3 (portW l 10 [] hop)) ∧ Below w.heap.size w w' := by
  generalize hR : portW l 10 [] hop = R
  have HR := Lib.hid hR
  have HM := Lib.hid hm
  have HOK := Lib.hid hok
  clear hR hm hok
  go_enter Try.func61, Try.ntmps61
  go_wp2_with fail
  go_loopw [1, 7, 8] (fun h s i wr => ∃ (hop : Nat) (seen : List Nat), Hid (portW l (10 - seen.length) seen hop = R) ∧ seen.length ≤ 9 ∧ hop ≤ 1000 ∧ h = .int .i64 hop ∧ Hid (Own wr w.heap.size 3 1 s (seen.map natCells)) ∧ i = .int .i64 seen.length ∧ Below w.heap.size w wr) (fun _ _ i _ => 9 - (intOf i).toNat)
  case atStart => exact ⟨hop, [], HR, by simp, hh, rfl, Own.nil _ _ _ _, rfl, Below.refl _ _⟩
  case round =>
    obtain ⟨hop, seen, HR2, hsl, hh2, rfl, HO, rfl, hbr⟩ := hrel
    have hbm := HM.out.lt
    have hzr := hbr.size
    obtain ⟨a, cap, hv, hcap, hcap2⟩ := HO.out.sl.shape
    rw [List.length_map] at hv hcap
    subst hv
    obtain ⟨f, hf⟩ : ∃ f, 10 - seen.length = f + 1 := ⟨9 - seen.length, by omega⟩
    have HF := Lib.hid hf
    have hw := HR2.out
    rw [hf] at hw
    have C := Lib.hid (fun w2 (h2 : Below wr.heap.size wr w2) => contains_nat a cap hop seen w2 (HO.out.sl.below h2))
    rcases hva : viaAt l hop with _ | v
    · have HL := Lib.hid (show viaF l (.int .i64 hop) = none by show (viaAt l hop).map viaVal = none; rw [hva]; rfl)
      rw [portW_none hva] at hw
      subst hw
      clear hva hf HR2 C
      go_wp2_with (first | (at_lookup; refine wpList_mp_look _ rfl _ _ 151 rfl _ _ keyedInt Try.underlying151 (zeroVia _) _ _ _ rfl (HM.out.kept hbr hbm) _ _ rfl (keyInt (by omega)) ?_; rw [HL.out]))
      refine bodyPost_ret (v := .tuple #[.int .i64 0, .int .i64 0, .int .i64 7]) (by simp [results, Try.results61, go_sem, *]) rfl ⟨rfl, by (repeat' (first | (with_reducible exact Below.refl _ _) | (with_reducible assumption) | (with_reducible refine Below.alloc ?_ ?_ _) | (with_reducible refine Below.drew ?_) | (with_reducible refine Below.stepG ?_ (by assumption) ?_) | (with_reducible refine Below.setCell ?_ ?_ _) | omega | (dsimp only; omega) | (simp; done) | (simp; omega)))⟩
    · have HL := Lib.hid (show viaF l (.int .i64 hop) = some (viaVal v) by show (viaAt l hop).map viaVal = _; rw [hva]; rfl)
      rw [portW_some hva] at hw
      obtain ⟨k1, k2, k3⟩ := HOK.out v (viaAt_mem hva).1
      clear hva
      have HW := Lib.hid hw
      clear hw
      by_cases hin : hop ∈ seen
      · obtain rfl : (0, 0, 10) = R := by have := HW.out; rwa [if_pos hin] at this
        rw [decide_eq_true hin] at C
        clear hin HW
        go_wp2_with (first | (at_lookup; refine wpList_mp_look _ rfl _ _ 151 rfl _ _ keyedInt Try.underlying151 (zeroVia _) _ _ _ rfl (HM.out.kept hbr hbm) _ _ rfl (keyInt (by omega)) ?_; rw [HL.out, viaVal_def, Option.getD_some]) | ((with_reducible refine (C.out _ (by (repeat' (first | (with_reducible exact Below.refl _ _) | (with_reducible assumption) | (with_reducible refine Below.alloc ?_ ?_ _) | (with_reducible refine Below.drew ?_) | (with_reducible refine Below.stepG ?_ (by assumption) ?_) | (with_reducible refine Below.setCell ?_ ?_ _) | omega | (dsimp only; omega) | (simp; done) | (simp; omega))))).mono ?_); rintro e w' ⟨rfl, rfl⟩))
        refine bodyPost_ret (v := .tuple #[.int .i64 0, .int .i64 0, .int .i64 10]) (by simp [results, Try.results61, go_sem, *]) rfl ⟨rfl, by (repeat' (first | (with_reducible exact Below.refl _ _) | (with_reducible assumption) | (with_reducible refine Below.alloc ?_ ?_ _) | (with_reducible refine Below.drew ?_) | (with_reducible refine Below.stepG ?_ (by assumption) ?_) | (with_reducible refine Below.setCell ?_ ?_ _) | omega | (dsimp only; omega) | (simp; done) | (simp; omega)))⟩
      · rw [decide_eq_false hin] at C
        have HW := Lib.hid ((if_neg hin).symm.trans HW.out)
        by_cases hdp : 8 < seen.length
        · obtain rfl : (0, 0, 9) = R := by have := HW.out; rwa [if_pos hdp] at this
          clear hin HW
          go_wp2_with (first | (at_lookup; refine wpList_mp_look _ rfl _ _ 151 rfl _ _ keyedInt Try.underlying151 (zeroVia _) _ _ _ rfl (HM.out.kept hbr hbm) _ _ rfl (keyInt (by omega)) ?_; rw [HL.out, viaVal_def, Option.getD_some]) | ((with_reducible refine (C.out _ (by (repeat' (first | (with_reducible exact Below.refl _ _) | (with_reducible assumption) | (with_reducible refine Below.alloc ?_ ?_ _) | (with_reducible refine Below.drew ?_) | (with_reducible refine Below.stepG ?_ (by assumption) ?_) | (with_reducible refine Below.setCell ?_ ?_ _) | omega | (dsimp only; omega) | (simp; done) | (simp; omega))))).mono ?_); rintro e w' ⟨rfl, rfl⟩))
          refine bodyPost_ret (v := .tuple #[.int .i64 0, .int .i64 0, .int .i64 9]) (by simp [results, Try.results61, go_sem, *]) rfl ⟨rfl, by (repeat' (first | (with_reducible exact Below.refl _ _) | (with_reducible assumption) | (with_reducible refine Below.alloc ?_ ?_ _) | (with_reducible refine Below.drew ?_) | (with_reducible refine Below.stepG ?_ (by assumption) ?_) | (with_reducible refine Below.setCell ?_ ?_ _) | omega | (dsimp only; omega) | (simp; done) | (simp; omega)))⟩
        · have HW := Lib.hid ((if_neg hdp).symm.trans HW.out)
          have hdp2 : decide ((8 : Int) < seen.length) = false := by (first | omega | (simp; done) | (simp; omega))
          by_cases hpt : 0 < v.port
          · obtain rfl : (v.port, seen.length, 0) = R := by have := HW.out; rwa [if_pos hpt] at this
            clear hin HW
            go_wp2_with (first | (at_lookup; refine wpList_mp_look _ rfl _ _ 151 rfl _ _ keyedInt Try.underlying151 (zeroVia _) _ _ _ rfl (HM.out.kept hbr hbm) _ _ rfl (keyInt (by omega)) ?_; rw [HL.out, viaVal_def, Option.getD_some]) | ((with_reducible refine (C.out _ (by (repeat' (first | (with_reducible exact Below.refl _ _) | (with_reducible assumption) | (with_reducible refine Below.alloc ?_ ?_ _) | (with_reducible refine Below.drew ?_) | (with_reducible refine Below.stepG ?_ (by assumption) ?_) | (with_reducible refine Below.setCell ?_ ?_ _) | omega | (dsimp only; omega) | (simp; done) | (simp; omega))))).mono ?_); rintro e w' ⟨rfl, rfl⟩))
            refine bodyPost_ret (v := .tuple #[.int .i64 v.port, .int .i64 seen.length, .int .i64 0]) (by simp [results, Try.results61, go_sem, *]) rfl ⟨rfl, by (repeat' (first | (with_reducible exact Below.refl _ _) | (with_reducible assumption) | (with_reducible refine Below.alloc ?_ ?_ _) | (with_reducible refine Below.drew ?_) | (with_reducible refine Below.stepG ?_ (by assumption) ?_) | (with_reducible refine Below.setCell ?_ ?_ _) | omega | (dsimp only; omega) | (simp; done) | (simp; omega)))⟩
          · have HW := Lib.hid ((if_neg hpt).symm.trans HW.out)
            have hpt2 : decide ((0 : Int) < v.port) = false := by (first | omega | (simp; done) | (simp; omega))
            clear hin
            go_wp2_with (first | (at_lookup; refine wpList_mp_look _ rfl _ _ 151 rfl _ _ keyedInt Try.underlying151 (zeroVia _) _ _ _ rfl (HM.out.kept hbr hbm) _ _ rfl (keyInt (by omega)) ?_; rw [HL.out, viaVal_def, Option.getD_some]) | ((with_reducible refine (C.out _ (by (repeat' (first | (with_reducible exact Below.refl _ _) | (with_reducible assumption) | (with_reducible refine Below.alloc ?_ ?_ _) | (with_reducible refine Below.drew ?_) | (with_reducible refine Below.stepG ?_ (by assumption) ?_) | (with_reducible refine Below.setCell ?_ ?_ _) | omega | (dsimp only; omega) | (simp; done) | (simp; omega))))).mono ?_); rintro e w' ⟨rfl, rfl⟩) | (at_builtin; refine stop_at ?_; intro G hG))
            rw [← hG.out]; clear hG G
            refine wpList_append_oth rfl _ _ 42 3 1 8 _ rfl eiInt w.heap.size _ ((seen).map natCells) rfl (by ((repeat (first | (with_reducible refine Wk.Own.alloc ?_ _) | (with_reducible refine Wk.Own.dr ?_))); exact HO.out)) _ (([hop]).map natCells) rfl (sl_new (by simp) rfl) (by intro c hc; obtain ⟨r, _, rfl⟩ := List.mem_map.1 hc; exact natCells_one r) (by skip; first | omega | (simp; omega)) (by decide) (by first | omega | (simp; done) | (simp; omega)) ?_
            intro v4 w4 hown4 hb4 hoth4
            rw [← List.map_append] at hown4
            obtain ⟨xs4, hxs4⟩ : ∃ x : List Nat, x = (seen) ++ ([hop]) := ⟨_, rfl⟩
            rw [← hxs4] at hown4
            have hl4 : xs4.length = (seen).length + ([hop]).length := by rw [hxs4, List.length_append]
            have HX4 := Lib.hid hxs4
            clear hxs4
            have HL4 := Lib.hid hl4
            clear hl4
            obtain ⟨a4, cap4, rfl⟩ := hown4.shape
            rw [List.length_map] at hown4 ⊢
            have HO4 := Lib.hid hown4
            clear hown4
            obtain ⟨hc4, hf4⟩ := bcellB hb4; have hz4 := hb4.size; (repeat (first | rw [World.size_alloc] at hz4 | rw [World.size_drew] at hz4 | rw [World.size_setCell] at hz4)); (try have : w.heap.size < w4.heap.size := by omega); (try have : w.heap.size < w4.heap.size + 1 := by omega); (try have : w.heap.size < w4.heap.size + 1 + 1 := by omega); (try have : w.heap.size < w4.heap.size + 1 + 1 + 1 := by omega); (try have : wr.heap.size < w4.heap.size := by omega); (try have : wr.heap.size < w4.heap.size + 1 := by omega); (try have : wr.heap.size < w4.heap.size + 1 + 1 := by omega); (try have : wr.heap.size < w4.heap.size + 1 + 1 + 1 := by omega)
            have hnx := hoth4 wr.heap.size 2 (by simp; omega) (fun k hk => by have := (HO.out.lt k hk).2; omega)
            simp at hnx
            have H4 := Lib.hid (show xs4.length = seen.length + 1 by have := HL4.out; simpa using this)
            have F4 : Hid (portW l (10 - xs4.length) xs4 v.next = R) := by
              have e : 10 - xs4.length = f := by have := H4.out; have := HF.out; omega
              rw [e, HX4.out]; exact HW.out
            have hx4 : xs4.length ≤ 9 := by have := H4.out; omega
            clear hoth4
            have hcx : ((seen.length : Int) + 1) = (xs4.length : Int) := by have := H4.out; omega
            go_wp2
            go_roundw
            case rel => exact ⟨v.next, xs4, F4, hx4, by omega, rfl, HO4, rfl, by (repeat' (first | (with_reducible exact Below.refl _ _) | (with_reducible assumption) | (with_reducible refine Below.alloc ?_ ?_ _) | (with_reducible refine Below.drew ?_) | (with_reducible refine Below.stepG ?_ (by assumption) ?_) | (with_reducible refine Below.setCell ?_ ?_ _) | omega | (dsimp only; omega) | (simp; done) | (simp; omega)))⟩
            case measure => simp [intOf]; omega
end Go.Proofs.Ytllemhknmleklaa
