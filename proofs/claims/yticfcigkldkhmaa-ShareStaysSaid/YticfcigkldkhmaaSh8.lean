
/- Shares: Repeat of one number. -/
import Derived.Test.YticfcigkldkhmaaSh7
import Derived.Test.YticfcigkldkhmaaShelf
import Derived.Laws.CopyOwn
set_option linter.unusedVariables false
set_option linter.unusedSimpArgs false
namespace Go.Proofs.Yticfcigkldkhmaa
open Go Go.RowKit Go.Sort Wc Wk

def rowV (xs : List Nat) : List Value := xs.map (fun x => Value.int .i64 (x : Nat))
theorem flat_map_nC : ∀ xs : List Nat, (xs.map nC).flatten = rowV xs
  | [] => rfl
  | x :: xs => by
    rw [List.map_cons, List.flatten_cons, flat_map_nC xs]; rfl
theorem rowV_len (xs : List Nat) : (rowV xs).length = xs.length := List.length_map _
theorem own_of_heap {w : World} {B g n : Nat} {xs : List Nat} {T : TypeId} (hg : w.heap[g]? = some (.cells (rowV xs).toArray T (0, 0))) (hB : B ≤ g) (hn : n = xs.length) (hm : n ≤ 1000) : Wk.Own w B T 1 (.slice (some ⟨g, 0, none⟩) n n) (xs.map nC) := by
  refine ⟨fun c hc => ?_, ?_, ?_⟩
  · obtain ⟨x, _, rfl⟩ := List.mem_map.1 hc
    rfl
  · rw [flat_map_nC, rowV_len, List.length_map]; omega
  · refine .inr ⟨g, n, _, by rw [List.length_map, hn], hB, hg, by rw [List.length_map, hn]; exact Nat.le_refl _, by unfold maxLen; omega, by simp [rowV_len]; omega, ?_⟩
    rw [flat_map_nC]
    refine List.take_of_length_le ?_
    simp [rowV_len]
theorem heap_of_own {w : World} {B g n cap : Nat} {xs : List Nat} {T : TypeId} (h : Wk.Own w B T 1 (.slice (some ⟨g, 0, none⟩) n cap) (xs.map nC)) (hc : cap = xs.length) : w.heap[g]? = some (.cells (rowV xs).toArray T (0, 0)) := by
  obtain ⟨hl, hx, h2⟩ := h
  rcases h2 with ⟨h0, _⟩ | ⟨g', cap', cur, hv, hb, hg, hn, hm, hs, ht⟩
  · cases h0
  · simp only [Value.slice.injEq, Option.some.injEq, Addr.mk.injEq] at hv
    obtain ⟨⟨rfl, _, _⟩, rfl, rfl⟩ := hv
    rw [flat_map_nC, List.length_map, List.take_of_length_le (by simp; omega)] at ht
    rw [hg, ← ht]
def repL (n c h : Nat) : List Nat := List.replicate c h ++ List.replicate (n - c) 0
theorem repL_len {n c h : Nat} (hc : c ≤ n) : (repL n c h).length = n := by simp [repL]; omega
theorem splice_rep (n c d h : Nat) (hd : c + d ≤ n) : splice (rowV (repL n c h)) c (rowV (List.replicate d h)) = rowV (repL n (c + d) h) := by
  unfold splice rowV repL
  rw [← List.map_take, List.length_map, List.length_replicate, ← List.map_drop, ← List.map_append, ← List.map_append, List.take_append_of_le_length (by simp), List.take_of_length_le (by simp), List.drop_append, List.drop_of_length_le (by simp), List.length_replicate, List.nil_append, List.drop_replicate, ← List.append_assoc, List.replicate_append_replicate]
  congr 3
  omega
theorem make_rep (n h : Nat) (hn : n ≤ 1000) : ∃ o : Obj, (∀ W : World, (Instr.makeSlice 44 (.int .i64 n) (.int .i64 n)).run Try.prog W = .ok (.slice (some ⟨W.heap.size, 0, none⟩) n n) (W.alloc o)) ∧
    Hid (o = .cells (rowV (repL n 0 h)).toArray 3) := by
  refine ⟨_, fun W => run_make_row' 44 3 (.int .i64 0) 8 (by kernel_rfl) (by kernel_rfl) rfl .i64 .i64 n (by omega) (by omega) W, ?_⟩
  show _ = _
  congr 1
  apply Array.ext'
  rw [toList_madeCells_one]
  simp [rowV, repL]
theorem repL_full (n h : Nat) : repL n n h = List.replicate n h := by simp [repL]

theorem copy_rep (w : World) (g n c d h bl off sLen sCap dLen dCap : Nat) (hg : w.heap[g]? = some (.cells (rowV (repL n c h)).toArray 3 (0, 0))) (hd : c + d ≤ n) (hsrc : ∀ j, j < d → w.cell? ⟨bl, off + j, none⟩ = some (.int .i64 h)) (hmin : d = Nat.min sLen dLen) :
    ∃ W, (Builtin.copy_ #[44, 44] 3 #[.slice (some ⟨g, c, none⟩) dLen dCap, .slice (some ⟨bl, off, none⟩) sLen sCap]).run Try.prog w = .ok (.int .i64 (d : Nat)) W ∧ Hid (W.heap[g]? = some (.cells (rowV (repL n (c + d) h)).toArray 3 (0, 0))) ∧
      Hid (∀ (B : Nat) (w0 : World), Below B w0 w → B ≤ g → Below B w0 W) := by
  have hr := run_copy_row (P := Try.prog) w 44 44 3 3 g c dLen dCap ⟨bl, off, none⟩ sLen sCap (rowV (repL n c h)).toArray 3 (rowV (List.replicate d h)) (by kernel_rfl) (by kernel_rfl) hg (by rw [rowV_len, List.length_replicate]; exact hmin) (by
    intro j v hv
    rw [addr_add_none]
    unfold rowV at hv
    rw [List.map_replicate, List.getElem?_replicate] at hv
    split at hv
    · rename_i hj
      rw [hsrc j hj]; exact hv
    · cases hv) (by simp [rowV_len, repL_len (show c ≤ n by omega)]; omega) (by
    intro v hv
    obtain ⟨x, _, rfl⟩ := List.mem_map.1 hv
    rfl)
  rw [rowV_len, List.length_replicate] at hr
  refine ⟨_, hr, ?_, ?_⟩
  · have e := splice_rep n c d h hd
    unfold splice at e
    rw [rowV_len, List.length_replicate] at e
    show _ = _
    rw [← e, ← List.append_assoc]
    exact setRow_heap w g (rowV (repL n c h)).toArray _ 3 (0, 0) hg
  · exact fun B w0 hb hB => below_setRow hb hB _


set_option maxRecDepth 100000 in
set_option maxHeartbeats 1000000 in
theorem repeat_any (a : Option Addr) (cap n h : Nat) (w : World) (hn : n ≤ 100) (hs : Sl w 1 (.slice a 1 cap) [nC h]) :
    Calls Try.prog 77 #[.slice a 1 cap, .int .i64 n] w fun e w' => ∃ g, e = .returned (.slice (some ⟨g, 0, none⟩) n n) ∧ Below w.heap.size w w' ∧ Wk.Own w' w.heap.size 3 1 (.slice (some ⟨g, 0, none⟩) n n) ((List.replicate n h).map nC) := by
  have hcap := hs.lens
  obtain ⟨bl, off, rfl, hbl, hc⟩ := Sl.at hs (i := 0) (c := nC h) rfl
  have hc0 := hc 0 (.int .i64 h) rfl
  obtain ⟨ro, MK, MO⟩ := make_rep n h (by omega)
  have h1 : 1 ≤ cap := hcap.2.1
  have h2 : cap ≤ 9223372036854775807 := hcap.2.2
  have mu : ∀ w : World, Calls Try.prog 99 #[.int .u64 1, .int .u64 n] w fun e w' => e = .returned (.tuple #[.int .u64 0, .int .u64 n]) ∧ w = w' := fun w => (Try.bits_Mul 1 n (by omega) (by omega) w).mono fun e w' ⟨he, hw⟩ => ⟨by
    rw [he, Nat.one_mul, Nat.div_eq_of_lt (by omega), Nat.mod_eq_of_lt (by omega)]; rfl, hw.symm⟩
  have MU := Lib.hid mu
  clear mu
  have e1 : IntKind.u64.wrap (n : Int) = (n : Int) := by rw [IntKind.wrap_u64]; omega
  clear hs hc hcap
  go_enter Try.func77, Try.ntmps77
  obtain ⟨W1, CP, CH, CB⟩ := copy_rep (w.alloc ro) w.heap.size n 0 (Nat.min 1 n) h bl off 1 cap n n (by rw [MO.out]; exact heap_alloc_new w _) (by show 0 + min 1 n ≤ n; omega) (by
    intro j hj
    have : j = 0 := by have : j < min 1 n := hj; omega
    subst this
    rw [World.cell?_alloc_past _ _ _ (by omega)]
    exact hc0) rfl
  rw [Nat.zero_add] at CH
  have hc1 : Nat.min 1 n ≤ n ∧ (0 < n → 0 < Nat.min 1 n) := by
    show min 1 n ≤ n ∧ (0 < n → 0 < min 1 n)
    omega
  have HB := Lib.hid (CB.out w.heap.size w (Below.alloc (Below.refl _ _) (Nat.le_refl _) _) (Nat.le_refl _))
  have HC1 := Lib.hid hc1
  clear MO CB hc1
  generalize Nat.min 1 n = c1 at *
  go_wp2_with (first | ((with_reducible refine (MU.out _).mono ?_); rintro e w' ⟨rfl, rfl⟩))
  go_loopw [8] (fun i wr => ∃ c : Nat, c ≤ n ∧ (0 < n → 0 < c) ∧ i = .int .i64 c ∧ Hid (Below w.heap.size w wr) ∧ Hid (wr.heap[w.heap.size]? = some (.cells (rowV (repL n c h)).toArray 3 (0, 0)))) (fun i _ => n - (intOf i).toNat)
  case atStart => exact ⟨c1, HC1.out.1, HC1.out.2, rfl, HB.out, CH.out⟩
  case round =>
    obtain ⟨c, hcn, hc0, rfl, HB, CH⟩ := hrel
    by_cases hlt : c < n
    · have hcp : 0 < c := hc0 (by omega)
      have hown := own_of_heap (B := w.heap.size) CH.out (Nat.le_refl _) (repL_len hcn).symm (by omega)
      have hsz : w.heap.size < wr.drew.heap.size := (own_nat hown (i := 0) (by rw [repL_len hcn]; omega)).2.2
      obtain ⟨W2, CP2, CH2, CB2⟩ := copy_rep wr.drew w.heap.size n c (Nat.min c (n - c)) h w.heap.size 0 c n (n - c) (n - c) CH.out (by
        have : Nat.min c (n - c) ≤ n - c := Nat.min_le_right _ _
        omega) (by
        intro j hj
        have hjc : j < c := Nat.lt_of_lt_of_le hj (Nat.min_le_left _ _)
        have := (own_nat hown (i := j) (by rw [repL_len hcn]; omega)).1
        rw [Nat.zero_add]
        have e : (repL n c h).getD j 0 = h := by
          unfold repL
          rw [List.getD_eq_getElem?_getD, List.getElem?_append_left (by rw [List.length_replicate]; exact hjc), List.getElem?_replicate, if_pos hjc]; rfl
        rw [e] at this
        exact this) rfl
      have hmn : Nat.min c (n - c) ≤ n - c ∧ 0 < Nat.min c (n - c) := by
        show min c (n - c) ≤ n - c ∧ 0 < min c (n - c)
        omega
      have HB2 := Lib.hid (CB2.out w.heap.size w (Below.drew HB.out) (Nat.le_refl _))
      clear CB2 hown hc0
      generalize Nat.min c (n - c) = d at *
      have ew : IntKind.i64.wrap ((c : Int) + (d : Int)) = ((c + d : Nat) : Int) := by rw [IntKind.wrap_i64]; omega
      go_wp2_with fail
      go_big_region
      all_goals go_wp2_with fail
      go_roundw
      case rel => exact ⟨c + d, by omega, fun _ => by omega, by congr 1, HB2.out, CH2.out⟩
      case measure => simp [intOf]; omega
    · obtain rfl : c = n := by omega
      go_wp2_with fail
      go_returns
      have hch := CH.out
      rw [repL_full] at hch
      exact ⟨w.heap.size, rfl, HB.out, own_of_heap hch (Nat.le_refl _) (by rw [List.length_replicate]) (by omega)⟩
end Go.Proofs.Yticfcigkldkhmaa
