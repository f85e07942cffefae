
/- ShareFair: the walk. -/
import Derived.Test.YticfcigkldkhmaaSh11
set_option linter.unusedVariables false
set_option linter.unusedSimpArgs false
namespace Go.Proofs.Yticfcigkldkhmaa
open Go Go.RowKit Go.Sort Wc Wk

theorem fair_arith {n x s K : Nat} (hn : n ≤ 64) (hx : x ≤ 20) (hs1 : 1 ≤ s) (hs : s ≤ 320) (hlo : n * x / s ≤ K) (hhi : K ≤ (n * x + s - 1) / s) :
    ∃ p q u t r : Nat, wrap64 ((n : Int) * (x : Int)) = (p : Int) ∧ ((s : Int) == 0) = false ∧ ¬ s = 0 ∧ (p : Int) / (s : Int) = (q : Int) ∧ wrap64 (q : Int) = (q : Int) ∧ ¬ K < q ∧
      wrap64 ((p : Int) + (s : Int)) = (u : Int) ∧ wrap64 ((u : Int) - 1) = (t : Int) ∧ (t : Int) / (s : Int) = (r : Int) ∧ wrap64 (r : Int) = (r : Int) ∧ ¬ r < K := by
  have hp2 : n * x ≤ 1280 := Nat.mul_le_mul hn hx
  have hqp : n * x / s ≤ n * x := Nat.div_le_self _ _
  have hrp : (n * x + s - 1) / s ≤ n * x + s - 1 := Nat.div_le_self _ _
  have eP : (n : Int) * (x : Int) = ((n * x : Nat) : Int) := (Int.natCast_mul _ _).symm
  generalize hP : n * x = p at *
  have eq1 := (Int.natCast_ediv p s).symm
  have eq2 := (Int.natCast_ediv (p + s - 1) s).symm
  generalize p / s = q at *
  generalize (p + s - 1) / s = r at *
  refine ⟨p, q, p + s, p + s - 1, r, ?_, by rw [beq_eq_false_iff_ne]; omega, by omega, eq1, wrap64_in (by omega) (by omega), by omega, ?_, ?_, eq2, wrap64_in (by omega) (by omega), by omega⟩
  · rw [eP, wrap64_in (by omega) (by omega)]
  · rw [wrap64_in (by omega) (by omega)]; omega
  · rw [wrap64_in (by omega) (by omega)]; omega


set_option maxHeartbeats 2000000 in
set_option maxRecDepth 100000 in
theorem shareFair_walk (a : Option Addr) (len cap : Nat) (zs : List Int) (many : Int) (w : World) (h : IsRow .i64 w a len cap zs) (hm : -9223372036854775808 ≤ many ∧ many ≤ 9223372036854775807) :
    Calls Try.prog 8 #[.slice a len cap, .int .i64 many] w fun e w' => e = .returned (.bool true) ∧ Below w.heap.size w w' := by
  obtain ⟨r, hr⟩ := Int.eq_ofNat_of_zero_le (Int.emod_nonneg many (show (64 : Int) ≠ 0 by decide))
  have hr1 := Int.emod_lt_of_pos many (show (0 : Int) < 64 by decide)
  have P := Lib.hid (fun w => picked_any many 64 w (by decide) (by decide))
  rw [hr] at P hr1
  have SH : Hid (Calls Try.prog 31 #[.slice a len cap, .int .i64 16] w (RetSh w 16)) := shares_any a len cap zs 16 w h (by omega) (by omega)
  have hlm := h.len_le.1
  obtain ⟨n, hn⟩ : ∃ n, n = 1 + r := ⟨_, rfl⟩
  have n1 : 1 ≤ n := by omega
  have n2 : n ≤ 64 := by omega
  have e1 : (1 : Int) + (r : Int) = (n : Int) := by omega
  have e2 : wrap64 (n : Int) = (n : Int) := wrap64_in (by omega) (by omega)
  clear hr hr1 hm h hn
  go_enter Try.func8, Try.ntmps8
  go_wp2_with ((with_reducible refine SH.out.mono ?_); rintro e w2 ⟨v2, sh, rfl, hb2, ho2, hok, hsl⟩; (repeat (with_reducible (replace hb2 := Below.undrew hb2))); obtain ⟨hc2, hf2⟩ := bcell hb2; have hz2 := hb2.size; (repeat (first | rw [World.size_alloc] at hz2 | rw [World.size_drew] at hz2 | rw [World.size_setCell] at hz2)); (try have : w.heap.size < w2.heap.size := by omega); (try have : w.heap.size < w2.heap.size + 1 := by omega); (try have : w.heap.size < w2.heap.size + 1 + 1 := by omega); (try have : w.heap.size < w2.heap.size + 1 + 1 + 1 := by omega))
  obtain ⟨a2, cap2, rfl⟩ := ho2.shape
  rw [List.length_map] at ho2 ⊢
  obtain ⟨k0, k1, k2⟩ := own_lens ho2
  clear k0
  have HS := Lib.hid ho2.sl
  have HOK := Lib.hid hok
  have DL := Lib.hid (dealt_any a2 cap2 sh.length sh n w2 rfl ho2.sl hok n1 n2)
  have WO := Lib.hid (fun W (hb : Below w2.heap.size w2 W) => weight_any a2 cap2 sh.length sh W rfl (ho2.sl.below hb) (by omega) hok.wt)
  have hpo := parts_ok (sh.map (·.2)) n (by have := sum_wt hok.wt; have := hok.one; omega)
  have hsw := sum_wt hok.wt
  have hone := hok.one
  obtain ⟨s, hs⟩ : ∃ s, s = (sh.map (·.2)).sum := ⟨_, rfl⟩
  have s1 : 1 ≤ s := by omega
  have s2 : s ≤ 320 := by omega
  rw [← hs] at WO
  have HSE := Lib.hid hs
  have HPO := Lib.hid hpo
  clear ho2 hok hpo hsw hone hs SH hc2 hf2
  go_wp2_with (first | ((with_reducible refine (P.out _).mono ?_); rintro e w' ⟨rfl, rfl⟩) | ((with_reducible refine DL.out.mono ?_); rintro e w3 ⟨v3, rfl, hb3, ho3⟩; obtain ⟨a3, cap3, rfl⟩ := ho3.shape; rw [List.length_map, dealt_len HOK.out] at ho3 ⊢; (repeat (with_reducible (replace hb3 := Below.undrew hb3))); obtain ⟨hc3, hf3⟩ := bcell hb3; have hz3 := hb3.size; (repeat (first | rw [World.size_alloc] at hz3 | rw [World.size_drew] at hz3 | rw [World.size_setCell] at hz3)); (try have : w.heap.size < w3.heap.size := by omega); (try have : w.heap.size < w3.heap.size + 1 := by omega); (try have : w.heap.size < w3.heap.size + 1 + 1 := by omega); (try have : w.heap.size < w3.heap.size + 1 + 1 + 1 := by omega)))
  obtain ⟨k3, k4, k5⟩ := own_lens ho3
  clear k3
  have h3l : n = (dealtL sh n).length := (dealt_len HOK.out n).symm
  have CN := Lib.hid (fun W hop (hb : Below w3.heap.size w3 W) => counted_any a3 cap3 n hop (dealtL sh n) W h3l (ho3.sl.below hb) (by omega))
  have HB23 := Lib.hid (hb2.trans (hb3.mono hb2.size))
  have HB3 := Lib.hid hb3
  clear ho3 h3l hc3 hf3 hb2 hb3
  obtain ⟨ps, hps⟩ : ∃ ps, ps = partsL (sh.map (·.2)) n := ⟨_, rfl⟩
  have hdc : ∀ k x, sh[k]? = some x → (dealtL sh n).count x.1 = ps.getD k 0 := fun k x hx => by
    have hk := (List.getElem?_eq_some_iff.1 hx).1
    have := deal_count (sh.map (·.1)) (partsL (sh.map (·.2)) n) HOK.out.keys (by rw [HPO.out.len]; simp) k (by simpa using hk)
    have ex : (sh.map (·.1)).getD k 0 = x.1 := by rw [List.getD_eq_getElem?_getD, List.getElem?_map, hx]; rfl
    rw [ex] at this
    rw [hps]; exact this
  have hpl : ps.length = sh.length := by rw [hps, HPO.out.len]; simp
  have hpss : ps.sum = n := by rw [hps]; exact HPO.out.sum
  have hplo : ∀ k x, sh[k]? = some x → n * x.2 / s ≤ ps.getD k 0 ∧ ps.getD k 0 ≤ (n * x.2 + s - 1) / s := fun k x hx => by
    have hk := (List.getElem?_eq_some_iff.1 hx).1
    have ex : (sh.map (·.2)).getD k 0 = x.2 := by rw [List.getD_eq_getElem?_getD, List.getElem?_map, hx]; rfl
    have h1 := HPO.out.lo k (by simpa using hk)
    have h2 := HPO.out.hi k (by simpa using hk)
    rw [ex, ← HSE.out] at h1 h2
    rw [hps]; exact ⟨h1, h2⟩
  have HDC := Lib.hid hdc
  have HPL := Lib.hid hpl
  have HPSS := Lib.hid hpss
  have HPLO := Lib.hid hplo
  clear hdc hpl hpss hplo hps HPO HSE
  go_wp2_with ((with_reducible refine (WO.out _ (by have := HB3.out; (repeat' (first | (with_reducible exact Below.refl _ _) | (with_reducible assumption) | (with_reducible refine Below.alloc ?_ ?_ _) | (with_reducible refine Below.drew ?_) | (with_reducible refine Below.stepG ?_ (by assumption) ?_) | (with_reducible refine Below.setCell ?_ ?_ _) | omega | (dsimp only; omega) | (simp; done) | (simp; omega))))).mono ?_); rintro e w' ⟨rfl, rfl⟩)
  go_loopw [10, 11] (fun c i wr => ∃ m : Nat, m ≤ sh.length ∧ i = .int .i64 m ∧ c = .int .i64 ((ps.take m).sum : Nat) ∧ wr = w3) (fun _ i _ => sh.length - (intOf i).toNat)
  case atStart => exact ⟨0, Nat.zero_le _, by go_num, by simp, rfl⟩
  case round =>
    obtain ⟨m, hm, rfl, rfl, rfl⟩ := hrel
    by_cases hlt : m < sh.length
    · obtain ⟨x, hx⟩ : ∃ x, sh[m]? = some x := ⟨_, List.getElem?_eq_getElem hlt⟩
      obtain ⟨bl, off, rfl, hbl, d0, d1⟩ := Sl.share HS.out HB3.out hx
      have hwx := HOK.out.wt x (List.mem_of_getElem? hx)
      have hlh := HPLO.out m x hx
      have CX := Lib.hid (CN.out wr x.1 (Below.refl _ _))
      rw [HDC.out m x hx] at CX
      obtain ⟨p, q, u, t, r2, g1, g2, g3, g4, g5, g6, g7, g8, g9, g10, g11⟩ := fair_arith n2 hwx.2 s1 s2 hlh.1 hlh.2
      have est : (ps.take (m + 1)).sum = (ps.take m).sum + ps.getD m 0 := by
        rw [take_snoc ps (by have := HPL.out; omega), List.sum_append]; simp
      have hst := sum_take_le ps (m + 1)
      rw [HPSS.out] at hst
      obtain ⟨S, hS⟩ : ∃ S, S = (ps.take m).sum := ⟨_, rfl⟩
      obtain ⟨K, hK⟩ : ∃ K, K = ps.getD m 0 := ⟨_, rfl⟩
      rw [← hS, ← hK] at est
      rw [← hK] at CX g6 g11
      rw [← hS]
      have eSK : wrap64 ((S : Int) + (K : Int)) = ((S + K : Nat) : Int) := by rw [wrap64_in (by omega) (by omega)]; omega
      generalize S + K = SK at *
      have HEST := Lib.hid est
      clear hx hlh est hst hS hK hwx n1 n2 s1 s2 k1 k4 hz2 hz3
      go_wp2_with ((with_reducible refine CX.out.mono ?_); rintro e w' ⟨rfl, rfl⟩)
      go_roundw
      case rel => exact ⟨m + 1, by omega, by go_num, by rw [HEST.out, eSK], by first | rfl | trivial⟩
      case measure => simp [intOf]; omega
    · obtain rfl : m = sh.length := by omega
      have e5 : (ps.take sh.length).sum = n := by rw [List.take_of_length_le (by rw [HPL.out]; exact Nat.le_refl _)]; exact HPSS.out
      rw [e5]
      clear e5
      go_wp2_with fail
      go_returns
      exact ⟨by simp, HB23.out⟩
end Go.Proofs.Yticfcigkldkhmaa
