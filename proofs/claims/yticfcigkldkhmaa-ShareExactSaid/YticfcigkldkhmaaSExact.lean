
/- ShareExact: the walk. -/
import Derived.Test.YticfcigkldkhmaaSh12
set_option linter.unusedVariables false
set_option linter.unusedSimpArgs false
namespace Go.Proofs.Yticfcigkldkhmaa
open Go Go.RowKit Go.Sort Wc Wk

def twiceL (l : List (Nat × Nat)) : List (Nat × Nat) := l.map fun x => (x.1, 2 * x.2)
theorem sum_two : ∀ ws : List Nat, (ws.map fun x => 2 * x).sum = 2 * ws.sum
  | [] => rfl
  | x :: ws => by
    have := sum_two ws
    simp only [List.map_cons, List.sum_cons, Nat.mul_add]
    omega
theorem sum_times (k : Nat) : ∀ ws : List Nat, (ws.map fun x => k * x).sum = ws.sum * k
  | [] => by simp
  | x :: ws => by
    have := sum_times k ws
    simp only [List.map_cons, List.sum_cons, Nat.add_mul, Nat.mul_comm k x]
    omega
theorem parts_two (ws : List Nat) (k : Nat) (h : 0 < ws.sum) : partsL (ws.map fun x => 2 * x) (ws.sum * k) = ws.map fun x => k * x := by
  have hb : baseL (ws.map fun x => 2 * x) (ws.sum * k) = ws.map fun x => k * x := by
    unfold baseL
    rw [List.map_map, sum_two]
    apply List.map_congr_left
    intro x _
    show ws.sum * k * (2 * x) / (2 * ws.sum) = k * x
    have : ws.sum * k * (2 * x) = (2 * ws.sum) * (k * x) := by
      rw [Nat.mul_assoc, Nat.mul_comm 2 ws.sum, Nat.mul_assoc, Nat.mul_left_comm k 2 x]
    rw [this, Nat.mul_div_cancel_left _ (by omega)]
  have hl : leftN (ws.map fun x => 2 * x) (ws.sum * k) = 0 := by unfold leftN; rw [hb, sum_times]; omega
  unfold partsL
  rw [hl, hb]; rfl
theorem dealt_two (l : List (Nat × Nat)) (k : Nat) (h : 0 < (l.map (·.2)).sum) : dealtL (twiceL l) ((l.map (·.2)).sum * k) = dealtL l ((l.map (·.2)).sum * k) := by
  unfold dealtL twiceL
  rw [List.map_map, List.map_map]
  have e1 : ((fun x : Nat × Nat => x.1) ∘ fun x : Nat × Nat => (x.1, 2 * x.2)) = fun x => x.1 := rfl
  have e2 : l.map ((fun x : Nat × Nat => x.2) ∘ fun x : Nat × Nat => (x.1, 2 * x.2)) = (l.map (·.2)).map fun x => 2 * x := by rw [List.map_map]; rfl
  rw [e1, e2, parts_two _ k h, parts_exact _ k h]
theorem dealt_exact {l : List (Nat × Nat)} (hok : ShOk l) (k : Nat) {i : Nat} {x : Nat × Nat} (hx : l[i]? = some x) : (dealtL l ((l.map (·.2)).sum * k)).count x.1 = k * x.2 := by
  have hs : 0 < (l.map (·.2)).sum := by have := sum_wt hok.wt; have := hok.one; omega
  have hk := (List.getElem?_eq_some_iff.1 hx).1
  have := deal_count (l.map (·.1)) (partsL (l.map (·.2)) ((l.map (·.2)).sum * k)) hok.keys (by rw [parts_exact _ k hs]; simp) i (by simpa using hk)
  have ex : (l.map (·.1)).getD i 0 = x.1 := by rw [List.getD_eq_getElem?_getD, List.getElem?_map, hx]; rfl
  rw [ex, parts_exact _ k hs] at this
  unfold dealtL
  rw [parts_exact _ k hs, this, List.getD_eq_getElem?_getD, List.getElem?_map, List.getElem?_map, hx]
  rfl
theorem twice_ok {l : List (Nat × Nat)} (hok : ShOk l) (h : ∀ (j : Nat) (x : Nat × Nat), l[j]? = some x → 2 * x.2 ≤ 20) : ShOk (twiceL l) := by
  refine ⟨by unfold twiceL; rw [List.length_map]; exact hok.one, by unfold twiceL; rw [List.length_map]; exact hok.len, fun x hx => ?_, fun x hx => ?_, ?_⟩
  · obtain ⟨y, hy, rfl⟩ := List.mem_map.1 hx
    exact hok.hop y hy
  · obtain ⟨y, hy, rfl⟩ := List.mem_map.1 hx
    obtain ⟨j, hj⟩ := List.getElem?_of_mem hy
    have := h j y hj
    have := hok.wt y hy
    exact ⟨by dsimp only; omega, by dsimp only; omega⟩
  · unfold twiceL
    rw [List.map_map]
    exact hok.keys
theorem with_tail2 {A : Value → World → Prop} {G : Prop} (T : Value → World → Prop) (h : (∀ v w, A v w → T v w) → G) (h2 : ∀ v w, A v w → T v w) : G := h h2


set_option maxHeartbeats 2000000 in
set_option maxRecDepth 100000 in
theorem shareExact_walk (a : Option Addr) (len cap : Nat) (zs : List Int) (times : Int) (w : World) (h : IsRow .i64 w a len cap zs) (hm : -9223372036854775808 ≤ times ∧ times ≤ 9223372036854775807) :
    Calls Try.prog 9 #[.slice a len cap, .int .i64 times] w fun e w' => e = .returned (.bool true) ∧ Below w.heap.size w w' := by
  obtain ⟨r, hr⟩ := Int.eq_ofNat_of_zero_le (Int.emod_nonneg times (show (3 : Int) ≠ 0 by decide))
  have hr1 := Int.emod_lt_of_pos times (show (0 : Int) < 3 by decide)
  have P := Lib.hid (fun w => picked_any times 3 w (by decide) (by decide))
  rw [hr] at P hr1
  have SH : Hid (Calls Try.prog 31 #[.slice a len cap, .int .i64 4] w (RetSh w 4)) := shares_any a len cap zs 4 w h (by omega) (by omega)
  have hlm := h.len_le.1
  obtain ⟨k, hk⟩ : ∃ k, k = 1 + r := ⟨_, rfl⟩
  have k1 : 1 ≤ k := by omega
  have k2 : k ≤ 3 := by omega
  have e1 : (1 : Int) + (r : Int) = (k : Int) := by omega
  have e2 : wrap64 (k : Int) = (k : Int) := wrap64_in (by omega) (by omega)
  have ek : IntKind.i64.wrap (k : Int) = (k : Int) := IntWalk.i64_in _ (by omega)
  clear hr hr1 hm h hk
  go_enter Try.func9, Try.ntmps9
  go_wp2_with ((with_reducible refine SH.out.mono ?_); rintro e w2 ⟨v2, sh, rfl, hb2, ho2, hok, hsl⟩; (repeat (with_reducible (replace hb2 := Below.undrew hb2))); obtain ⟨hc2, hf2⟩ := bcell hb2; have hz2 := hb2.size; (repeat (first | rw [World.size_alloc] at hz2 | rw [World.size_drew] at hz2 | rw [World.size_setCell] at hz2)))
  obtain ⟨a2, cap2, rfl⟩ := ho2.shape
  rw [List.length_map] at ho2 ⊢
  obtain ⟨k0, c1, c2⟩ := own_lens ho2
  clear k0
  have HS := Lib.hid ho2.sl
  have HOK := Lib.hid hok
  have WO := Lib.hid (weight_any a2 cap2 sh.length sh w2 rfl ho2.sl (by omega) hok.wt)
  have hsw := sum_wt hok.wt
  have hone := hok.one
  obtain ⟨s, hs⟩ : ∃ s, s = (sh.map (·.2)).sum := ⟨_, rfl⟩
  have s1 : 1 ≤ s := by omega
  have s2 : s ≤ 80 := by omega
  rw [← hs] at WO
  have HSE := Lib.hid hs
  obtain ⟨n, hn⟩ : ∃ n, n = s * k := ⟨_, rfl⟩
  have n1 : 1 ≤ n := by rw [hn]; exact Nat.mul_le_mul s1 k1
  have n2 : n ≤ 240 := by rw [hn]; exact Nat.mul_le_mul s2 k2
  have em : wrap64 ((s : Int) * (k : Int)) = (n : Int) := by rw [← Int.natCast_mul, ← hn]; exact wrap64_in (by omega) (by omega)
  have hsk : n / s = k := by rw [hn, Nat.mul_div_cancel_left _ (by omega)]
  have c0 : 1 ≤ cap2 := Nat.le_trans hone c1
  have HNE := Lib.hid hn
  have HB2 := Lib.hid hb2
  have HA := Lib.hid (show 1 ≤ s ∧ s ≤ 80 ∧ 1 ≤ n ∧ n ≤ 240 ∧ 1 ≤ k ∧ k ≤ 3 ∧ sh.length ≤ 4 ∧ 1 ≤ sh.length ∧ n / s = k from ⟨s1, s2, n1, n2, k1, k2, hsl, hone, hsk⟩)
  obtain ⟨x0, hx0⟩ : ∃ x, sh[0]? = some x := ⟨_, List.getElem?_eq_getElem hone⟩
  clear s1 s2 n1 n2 k1 k2 hsl hsk hn hs hsw
  by_cases hbig : n ≤ 64
  · have nbig : ¬ 64 < n := Nat.not_lt.2 hbig
    have nbig2 : ¬ (64 : Int) < (n : Int) := fun h => nbig (Int.ofNat_lt.1 h)
    have DL := Lib.hid (dealt_any a2 cap2 sh.length sh n w2 rfl ho2.sl hok HA.out.2.2.1 hbig)
    clear ho2 hok hone SH hc2 hf2 hb2 hx0 hz2
    go_wp2_with (first | ((with_reducible refine (P.out _).mono ?_); rintro e w' ⟨rfl, rfl⟩) | ((with_reducible refine WO.out.mono ?_); rintro e w' ⟨rfl, rfl⟩) | ((with_reducible refine DL.out.mono ?_); rintro e w3 ⟨v3, rfl, hb3, ho3⟩; obtain ⟨a3, cap3, rfl⟩ := ho3.shape; rw [List.length_map, dealt_len HOK.out] at ho3 ⊢))
    obtain ⟨k3, k4, k5⟩ := own_lens ho3
    clear k3
    have h3l : n = (dealtL sh n).length := (dealt_len HOK.out n).symm
    have CN := Lib.hid (fun W hop (hb : Below w3.heap.size w3 W) => counted_any a3 cap3 n hop (dealtL sh n) W h3l (ho3.sl.below hb) (Nat.le_trans hbig (by decide)))
    have HO3 := Lib.hid ho3.sl
    have HB3 := Lib.hid hb3
    have HH3 := Lib.hid h3l
    have hnk : ∀ (j : Nat) (x : Nat × Nat), sh[j]? = some x → (dealtL sh n).count x.1 = k * x.2 := fun j x hx => by
      rw [HNE.out, HSE.out]; exact dealt_exact HOK.out k hx
    have HNK := Lib.hid hnk
    have eq : (n : Int) / (s : Int) = (k : Int) := by rw [← HA.out.2.2.2.2.2.2.2.2]; exact (Int.natCast_ediv n s).symm
    have s0 : ¬ s = 0 := Nat.pos_iff_ne_zero.1 HA.out.1
    have s0b : ((s : Int) == 0) = false := by rw [beq_eq_false_iff_ne]; exact fun h => s0 (Int.ofNat.inj h)
    clear ho3 hb3 h3l hnk
    go_loopw [10, 11] (fun v i wr => ∃ m : Nat, m ≤ sh.length ∧ i = .int .i64 m ∧ Hid (Below w3.heap.size w3 wr) ∧ Hid (Wk.Own wr w3.heap.size 73 2 v ((twiceL (sh.take m)).map shCells))) (fun _ i _ => sh.length - (intOf i).toNat)
    case atStart => exact ⟨0, Nat.zero_le _, by go_num, Below.refl _ _, by show Wk.Own _ _ _ _ _ _; simp [twiceL]; exact Wk.Own.nil _ _ _ _⟩
    case round =>
      obtain ⟨m, hm, rfl, HB, HO⟩ := hrel
      obtain ⟨av, capv, rfl⟩ := HO.out.shape
      have hlen : ((twiceL (sh.take m)).map shCells).length = m := by unfold twiceL; rw [List.length_map, List.length_map, List.length_take, Nat.min_eq_left hm]
      have ho := HO.out
      rw [hlen] at ho ⊢
      obtain ⟨l0, l1, l2⟩ := own_lens ho
      have HO := Lib.hid ho
      have HLE := Lib.hid hlen
      clear ho l0 hlen
      by_cases hlt : m < sh.length
      · obtain ⟨x, hx⟩ : ∃ x, sh[m]? = some x := ⟨_, List.getElem?_eq_getElem hlt⟩
        obtain ⟨bl, off, rfl, hbl, d0, d1⟩ := Sl.share HS.out (HB3.out.trans (HB.out.mono HB3.out.size)) hx
        have hwx := HOK.out.wt x (List.mem_of_getElem? hx)
        have CX := Lib.hid (fun d os => CN.out (grow (redrawn wr d) os) x.1 (HB.out.trans ((below_regrown wr d os).mono HB.out.size)))
        rw [HNK.out m x hx] at CX
        obtain ⟨p, hp⟩ : ∃ p, p = k * x.2 := ⟨_, rfl⟩
        obtain ⟨y, hy⟩ : ∃ y, y = 2 * x.2 := ⟨_, rfl⟩
        have hp2 : p ≤ 60 := by rw [hp]; exact Nat.mul_le_mul HA.out.2.2.2.2.2.1 hwx.2
        have hy2 : y ≤ 40 := by rw [hy]; exact Nat.mul_le_mul (Nat.le_refl 2) hwx.2
        rw [← hp] at CX
        have ep : IntKind.i64.wrap ((k : Int) * (x.2 : Int)) = (p : Int) := by rw [← Int.natCast_mul, ← hp]; exact IntWalk.i64_in _ (by omega)
        have ey : IntKind.i64.wrap (2 * (x.2 : Int)) = (y : Int) := by rw [hy]; exact (IntWalk.i64_in _ (by omega)).trans (by omega)
        have htw : twiceL (sh.take (m + 1)) = twiceL (sh.take m) ++ [(x.1, y)] := by
          unfold twiceL
          rw [List.take_add_one, hx, List.map_append, hy]; rfl
        have HTW := Lib.hid htw
        have hbl2 : bl < wr.heap.size := Nat.lt_of_lt_of_le hbl (Nat.le_trans HB3.out.size HB.out.size)
        clear htw hp hy hp2 hy2 hwx hx
        go_wp2_with fail
        refine wp_region_qb (by kernel_rfl) (by kernel_rfl) (fun kq => ?_)
        have d0q := fun d os => (kq d os bl (off + m * 2) hbl2).trans d0
        have d1q := fun d os => (kq d os bl (off + m * 2 + 1) hbl2).trans d1
        clear kq
        repeat (first | go_big_quiet_step (with_reducible exact Calls.regrown_same (CX.out _ _)) | quiet_step (with_reducible exact Calls.regrown_same (CX.out _ _)))
        refine wpQuiet_nil ?_; intro w5 hb5; (repeat (with_reducible (replace hb5 := Below.undrew hb5))); obtain ⟨hc5, hf5⟩ := bcell hb5; have hz5 := hb5.size; (repeat (first | rw [World.size_alloc] at hz5 | rw [World.size_drew] at hz5 | rw [World.size_setCell] at hz5))
        have d05 := (hc5 bl (off + m * 2) hbl2).trans d0
        have d15 := (hc5 bl (off + m * 2 + 1) hbl2).trans d1
        have HO5 := Lib.hid (HO.out.below hb5)
        have HB5 := Lib.hid (HB.out.trans (hb5.mono HB.out.size))
        have hbl5 : bl < w5.heap.size := Nat.lt_of_lt_of_le hbl2 hb5.size
        have hz35 : w3.heap.size ≤ w5.heap.size := HB5.out.size
        have hm5 : m ≤ 4 := Nat.le_trans (Nat.le_of_lt hlt) HA.out.2.2.2.2.2.2.1
        clear hc5 hf5 d0 d1 d0q d1q hb5 hz5 hbl2 CX
        go_wp2_with fail
        generalize Value.slice av m capv = v at *
        refine with_tail2 (A := fun v' w6 => Wk.Own w6 w3.heap.size 73 2 v' ((twiceL (sh.take (m + 1))).map shCells) ∧ Below w3.heap.size w3 w6) ?T ?one ?two
        case one =>
          intro tail
          go_region_law (first
            | (refine step_append_rows rfl (.tmp 58) (.tmp 71) 66 73 2 16 _ rfl eiShare w3.heap.size _ ((twiceL (sh.take m)).map shCells) rfl (by ((repeat (first | (with_reducible refine Wk.Own.alloc ?_ _) | (with_reducible refine Wk.Own.dr ?_))); exact HO5.out)) _ [shCells (x.1, y)] rfl (sl_new (c := shCells (x.1, y)) rfl rfl) (by intro c hc; simp at hc; subst hc; exact shCells_one _) (by rw [HLE.out]; simp; omega) (by decide) (by simp; omega) ?_
               intro v' w6 hown' hb6))
          all_goals go_simp
          all_goals exact tail _ _ ⟨by rw [HTW.out, List.map_append, List.map_singleton]; exact hown', Below.trans (by have hB := HB5.out; (repeat' (first | (with_reducible exact Below.refl _ _) | (with_reducible assumption) | (with_reducible refine Below.alloc ?_ ?_ _) | (with_reducible refine Below.drew ?_) | (with_reducible refine Below.stepG ?_ (by assumption) ?_) | (with_reducible refine Below.setCell ?_ ?_ _) | omega | (dsimp only; omega) | (simp; done) | (simp; omega)))) hb6⟩
        case two =>
          rintro v' w6 ⟨ho6, hb6⟩
          have HO6 := Lib.hid ho6
          have HB6 := Lib.hid hb6
          clear ho6 hb6
          go_wp2_with fail
          go_roundw
          case rel => exact ⟨m + 1, hlt, by go_num, HB6.out, HO6.out⟩
          case measure => simp [intOf]; omega
      · obtain rfl : m = sh.length := by omega
        have HSH : Hid (sh.take sh.length = sh) := List.take_of_length_le (Nat.le_refl _)
        rw [HSH.out] at HO HLE
        have hslen : sh.length ≤ 4 := HA.out.2.2.2.2.2.2.1
        go_wp2_with fail
        go_loopw [12] (fun i w7 => ∃ j : Nat, j ≤ sh.length ∧ i = .int .i64 j ∧ Hid (∀ (q : Nat) (x : Nat × Nat), q < j → sh[q]? = some x → 2 * x.2 ≤ 20) ∧ w7 = wr) (fun i _ => sh.length - (intOf i).toNat)
        case atStart => exact ⟨0, Nat.zero_le _, by go_num, fun q x hq => absurd hq (Nat.not_lt_zero _), rfl⟩
        case round =>
          obtain ⟨j, hj, rfl, HJ, rfl⟩ := hrel
          by_cases hlt2 : j < sh.length
          · obtain ⟨x, hx⟩ : ∃ x, sh[j]? = some x := ⟨_, List.getElem?_eq_getElem hlt2⟩
            obtain ⟨y, hy⟩ : ∃ y, y = 2 * x.2 := ⟨_, rfl⟩
            have hxt : (twiceL sh)[j]? = some (x.1, y) := by unfold twiceL; rw [List.getElem?_map, hx, hy]; rfl
            obtain ⟨bl, off, rfl, hbl, d0, d1⟩ := Sl.share HO.out.sl (Below.refl _ _) hxt
            dsimp only at d0 d1
            have HX := Lib.hid hx
            have HYY := Lib.hid hy
            clear hx hy hxt
            by_cases hbig2 : y ≤ 20
            · have g1 : ¬ 20 < y := Nat.not_lt.2 hbig2
              have g2 : ¬ (20 : Int) < (y : Int) := fun h => g1 (Int.ofNat_lt.1 h)
              go_wp2_with fail
              go_roundw
              case rel =>
                refine ⟨j + 1, hlt2, by go_num, fun q z hq hz => ?_, by first | rfl | trivial⟩
                rcases Nat.lt_or_ge q j with h' | h'
                · exact HJ.out q z h' hz
                · obtain rfl : q = j := by omega
                  have hxx := HX.out
                  rw [hz] at hxx
                  cases hxx
                  rw [← HYY.out]; exact hbig2
              case measure => simp [intOf]; omega
            · have g1 : 20 < y := Nat.not_le.1 hbig2
              have g2 : (20 : Int) < (y : Int) := Int.ofNat_lt.2 g1
              go_wp2_with fail
              go_returns
              exact ⟨rfl, HB2.out.trans ((HB3.out.mono HB2.out.size).trans (HB.out.mono (Nat.le_trans HB2.out.size HB3.out.size)))⟩
          · obtain rfl : j = sh.length := by omega
            have hok2 : ShOk (twiceL sh) := twice_ok HOK.out (fun q x hx => HJ.out q x (List.getElem?_eq_some_iff.1 hx).1 hx)
            have htl : sh.length = (twiceL sh).length := by unfold twiceL; rw [List.length_map]
            have D2 := Lib.hid (dealt_any av capv sh.length (twiceL sh) n wr htl HO.out.sl hok2 HA.out.2.2.1 hbig)
            have e5 : dealtL (twiceL sh) n = dealtL sh n := by
              rw [HNE.out, HSE.out]
              exact dealt_two sh k (by rw [← HSE.out]; exact HA.out.1)
            rw [e5] at D2
            have H3 := Lib.hid (fun W (hb : Below w3.heap.size w3 W) => HO3.out.below hb)
            clear e5 hok2 htl CN
            go_wp2_with (first | ((with_reducible refine D2.out.mono ?_); rintro e w8 ⟨v8, rfl, hb8, ho8⟩; obtain ⟨a8, cap8, rfl⟩ := ho8.shape; rw [List.length_map, ← HH3.out] at ho8 ⊢))
            have SM := Lib.hid (same_any a3 a8 cap3 cap8 n (dealtL sh n) w8 HH3.out (by
              have := H3.out w8 (HB.out.trans (hb8.mono HB.out.size))
              exact this) ho8.sl (Nat.le_trans hbig (by decide)))
            have HB8 := Lib.hid hb8
            clear ho8 hb8
            go_wp2_with ((with_reducible refine SM.out.mono ?_); rintro e w9 ⟨rfl, hb9⟩)
            go_returns
            exact ⟨rfl, HB2.out.trans ((HB3.out.mono HB2.out.size).trans ((HB.out.mono (Nat.le_trans HB2.out.size HB3.out.size)).trans ((HB8.out.mono (Nat.le_trans HB2.out.size (Nat.le_trans HB3.out.size HB.out.size))).trans (hb9.mono (Nat.le_trans HB2.out.size (Nat.le_trans HB3.out.size (Nat.le_trans HB.out.size HB8.out.size)))))))⟩
  · have nbig : 64 < n := Nat.not_le.1 hbig
    have nbig2 : (64 : Int) < (n : Int) := Int.ofNat_lt.2 nbig
    have D1 := Lib.hid (dealtOne_any a2 cap2 x0 w2 (by
      have := ho2.sl.take 1 (by rw [List.length_map]; exact hone)
      rw [← List.map_take] at this
      have e : sh.take 1 = [x0] := by
        cases sh with
        | nil => simp at hx0
        | cons y l => simp at hx0; subst hx0; rfl
      rw [e] at this
      exact this) (sh_head x0.1 x0.2 (hok.hop x0 (List.mem_of_getElem? hx0)) (hok.wt x0 (List.mem_of_getElem? hx0))))
    clear ho2 hok hone SH hc2 hf2 hb2 hx0 hz2
    go_wp2_with (first | ((with_reducible refine (P.out _).mono ?_); rintro e w' ⟨rfl, rfl⟩) | ((with_reducible refine WO.out.mono ?_); rintro e w' ⟨rfl, rfl⟩) | ((with_reducible refine D1.out.mono ?_); rintro e w3 ⟨rfl, hb3⟩))
    go_returns
    exact ⟨rfl, HB2.out.trans (hb3.mono HB2.out.size)⟩
end Go.Proofs.Yticfcigkldkhmaa
