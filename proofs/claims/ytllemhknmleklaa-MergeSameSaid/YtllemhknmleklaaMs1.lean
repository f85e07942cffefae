
/- Contract: anyHas. -/
import Derived.Test.YtllemhknmleklaaMg3
set_option linter.unusedVariables false
set_option linter.unusedSimpArgs false
namespace Go.Proofs.Ytllemhknmleklaa
open Go.RowKit Go.Sort Wc Wk

def hasB (six : Bool) (xs : List (Nat × Nat)) (c : Nat) : Bool := xs.any fun x => decide (cutN (wd six) c x.2 = x.1)
theorem cut_range {six : Bool} {n k a : Nat} (h : VP six n k) : cutN (wd six) a k = n ↔ n ≤ a ∧ a ≤ lastN (wd six) n k := by
  rw [has_iff h]
  have hm := (vp_iff.1 h).2.2
  have hp := Nat.one_le_two_pow (n := wd six - k)
  unfold lastN
  generalize 2 ^ (wd six - k) = p at *
  have e1 := Nat.div_add_mod a p
  have e2 := Nat.div_add_mod n p
  have e3 := Nat.mod_lt a (show 0 < p by omega)
  constructor
  · intro h
    rw [h] at e1
    generalize p * (n / p) = q at *
    omega
  · intro h
    obtain ⟨r, hr⟩ : ∃ r, r = a - n := ⟨_, rfl⟩
    have e4 : a = r + p * (n / p) := by omega
    rw [e4, Nat.add_mul_div_left _ _ (by omega), Nat.div_eq_of_lt (by omega), Nat.zero_add]
theorem hasB_iff {six : Bool} {xs : List (Nat × Nat)} {c : Nat} (hv : ∀ x ∈ xs, VP six x.1 x.2) : hasB six xs c = true ↔ InP six xs c := by
  simp only [hasB, List.any_eq_true, decide_eq_true_eq, InP]
  exact ⟨fun ⟨x, hx, h⟩ => ⟨x, hx, (cut_range (hv x hx)).1 h⟩, fun ⟨x, hx, h⟩ => ⟨x, hx, (cut_range (hv x hx)).2 h⟩⟩


set_option maxRecDepth 100000 in
set_option maxHeartbeats 2000000 in
theorem anyHas_any (six : Bool) (a : Option Addr) (cap : Nat) (l : List (Nat × Nat)) (c : Nat) (w : World) (hs : Sl w 4 (.slice a l.length cap) (l.map (pfC six))) (hlen : l.length ≤ 1048576) (hok : ∀ x ∈ l, VP six x.1 x.2) (hc : Fits six c) (ha : ∀ x, a = some x → x.block < w.heap.size) :
    Calls Try.prog 42 #[.slice a l.length cap, Value.agg #[.bool six, .int .u64 (hiOf six c), .int .u64 (loOf c)]] w fun e w' => e = .returned (.bool (hasB six l c)) ∧ Below w.heap.size w w' := by
  have H1 := Lib.hid hs
  have A1 := Lib.hid ha
  have HV := Lib.hid hok
  have HC := Lib.hid hc
  clear hs ha hok hc
  go_enter Try.func42, Try.ntmps42
  go_wp2_with fail
  obtain ⟨W0, hW0⟩ : ∃ W0, W0 = w.alloc (.cells #[.bool six, .int .u64 (hiOf six c), .int .u64 (loOf c)] 27) := ⟨_, rfl⟩
  have p0 : W0.cell? ⟨w.heap.size, 0, none⟩ = some (.bool six) := by rw [hW0]; simp
  have p1 : W0.cell? ⟨w.heap.size, 1, none⟩ = some (.int .u64 (hiOf six c)) := by rw [hW0]; simp
  have p2 : W0.cell? ⟨w.heap.size, 2, none⟩ = some (.int .u64 (loOf c)) := by rw [hW0]; simp
  have hw0 : w.heap.size < W0.heap.size := by rw [hW0]; simp
  have HB0 := Lib.hid (show Below w.heap.size w W0 by rw [hW0]; exact (Below.refl _ _).alloc (Nat.le_refl _) _)
  rw [← hW0]
  clear hW0
  go_loopw [5] (fun i wr => ∃ j : Nat, j ≤ l.length ∧ i = .int .i64 j ∧ Hid (hasB six (l.take j) c = false) ∧ Hid (Below W0.heap.size W0 wr)) (fun i _ => l.length - (intOf i).toNat)
  case atStart => exact ⟨0, Nat.zero_le _, rfl, rfl, Below.refl _ _⟩
  case round =>
    obtain ⟨k, hk, rfl, HN, HB1⟩ := hrel
    have HB := Lib.hid (HB0.out.trans (HB1.out.mono (by omega)))
    have hzr := HB.out.size
    have hz0 := HB1.out.size
    have p0' := (HB1.out.cell (p := ⟨w.heap.size, 0, none⟩) hw0).trans p0
    have p1' := (HB1.out.cell (p := ⟨w.heap.size, 1, none⟩) hw0).trans p1
    have p2' := (HB1.out.cell (p := ⟨w.heap.size, 2, none⟩) hw0).trans p2
    have hwr : w.heap.size < wr.heap.size := by omega
    clear p0 p1 p2
    by_cases hkt : k < l.length
    · obtain ⟨px, hx⟩ : ∃ s, l[k]? = some s := ⟨_, List.getElem?_eq_getElem hkt⟩
      obtain ⟨g, off, rfl, hg, hgw, d0, d1, d2, d3⟩ := Sl.pf H1.out HB.out A1.out hx
      have HA := Lib.hid (fun w => has_ok six px.1 px.2 c w (HV.out px (List.mem_of_getElem? hx)) HC.out)
      have HTK := Lib.hid (show hasB six (l.take (k + 1)) c = decide (cutN (wd six) c px.2 = px.1) by
        rw [List.take_add_one, hx]
        have := HN.out
        unfold hasB at this ⊢
        rw [List.any_append, this]
        simp)
      have HM := Lib.hid (List.mem_of_getElem? hx)
      clear hx
      go_wp2_with fail
      refine wp_region_qb (by kernel_rfl) (by kernel_rfl) (fun kq => ?_)
      repeat (first | go_big_quiet_step ((with_reducible exact Calls.regrown_of (HA.out _))) | quiet_step ((with_reducible exact Calls.regrown_of (HA.out _))))
      clear kq
      refine wpQuiet_nil ?_; intro w2 hb2; (repeat (with_reducible (replace hb2 := Below.undrew hb2))); obtain ⟨hc2, hf2⟩ := bcell hb2; have hz2 := hb2.size; (repeat (first | rw [World.size_alloc] at hz2 | rw [World.size_drew] at hz2 | rw [World.size_setCell] at hz2)); (try have : w.heap.size < w2.heap.size := by omega); (try have : w.heap.size < w2.heap.size + 1 := by omega); (try have : w.heap.size < w2.heap.size + 1 + 1 := by omega); (try have : w.heap.size < w2.heap.size + 1 + 1 + 1 := by omega); (try have : wr.heap.size < w2.heap.size := by omega); (try have : wr.heap.size < w2.heap.size + 1 := by omega); (try have : wr.heap.size < w2.heap.size + 1 + 1 := by omega); (try have : wr.heap.size < w2.heap.size + 1 + 1 + 1 := by omega)
      have HB2 := Lib.hid (HB1.out.trans (hb2.mono hz0))
      have HB3 := Lib.hid (HB.out.trans (hb2.mono hzr))
      clear hb2 hc2 hf2 d0 d1 d2 d3 p0' p1' p2' HA
      by_cases hh : cutN (wd six) c px.2 = px.1
      · rw [decide_eq_true hh]
        have HT : Hid (hasB six l c = true) := by
          show hasB six l c = true
          unfold hasB
          exact List.any_eq_true.2 ⟨px, HM.out, decide_eq_true hh⟩
        clear hh HTK
        go_wp2
        exact bodyPost_ret (v := .bool true) (by simp [results, Try.results42, go_sem]) rfl ⟨by rw [HT.out], HB3.out⟩
      · rw [decide_eq_false hh] at HTK ⊢
        clear hh
        go_wp2
        go_roundw
        case rel => exact ⟨k + 1, by omega, by go_num, HTK, HB2⟩
        case measure => simp [intOf]; omega
    · obtain rfl : k = l.length := by omega
      rw [List.take_length] at HN
      go_wp2_with fail
      exact bodyPost_ret (v := .bool false) (by simp [results, Try.results42, go_sem]) rfl ⟨by rw [HN.out], HB.out⟩
end Go.Proofs.Ytllemhknmleklaa
