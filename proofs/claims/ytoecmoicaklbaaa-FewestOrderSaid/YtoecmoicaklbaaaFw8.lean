
/- Contract: fewest.Fewest. -/
import Derived.Test.YtoecmoicaklbaaaFw3
import Derived.Test.YtoecmoicaklbaaaFw7
import Derived.Test.YtoecmoicaklbaaaLk
set_option linter.unusedVariables false
set_option linter.unusedSimpArgs false
namespace Go.Proofs.Ytoecmoicaklbaaa
open Go Go.RowKit Go.Sort Wc Wk

theorem fn1_any (x : Nat × Nat × Nat) (w : World) : Calls Try.prog 52 #[.agg #[.bool false, .int .u64 (hiOf false x.1), .int .u64 (loOf x.1), .int .i64 x.2.1, .int .i64 x.2.2]] w fun e w' => e = .returned (.bool false) ∧ Below w.heap.size w w' := by
  go_enter Try.func52, Try.ntmps52
  go_wp2_with fail
  go_returns
  exact ⟨rfl, (Below.refl _ _).alloc (Nat.le_refl _) _⟩

set_option maxHeartbeats 2000000 in
theorem index1_any (a : Option Addr) (cap : Nat) (xs : List (Nat × Nat × Nat)) (w : World) (hs : Sl w 5 (.slice a xs.length cap) (xs.map routeCells)) (hl : xs.length ≤ 1000) (ha : ∀ x, a = some x → x.block < w.heap.size) :
    Calls Try.prog 89 #[.slice a xs.length cap, .func (.func 52) #[] #[]] w fun e w' => (e = .returned (.int .i64 (-1))) ∧ Below w.heap.size w w' := by
  have HS := Lib.hid hs
  have HA := Lib.hid ha


  clear hs ha
  go_enter Try.func89, Try.ntmps89
  go_wp2_with fail
  go_loopw [8] (fun i wr => ∃ j : Nat, j ≤ xs.length ∧ i = .int .i64 j ∧ Hid (Below w.heap.size w wr)) (fun i _ => xs.length - (intOf i).toNat)
  case atStart => exact ⟨0, Nat.zero_le _, rfl, Below.refl _ _⟩
  case round =>
    obtain ⟨j, hj, rfl, HB⟩ := hrel
    have hzr := HB.out.size
    by_cases hlt : j < xs.length
    · obtain ⟨x, hx⟩ : ∃ s, xs[j]? = some s := ⟨_, List.getElem?_eq_getElem hlt⟩
      obtain ⟨g, off, rfl, hg, hgw, d0, d1, d2, d3, d4⟩ := Sl.rv HS.out HB.out HA.out hx
      have F := Lib.hid (fun w => fn1_any x w)
      clear hx
      go_wp2_with fail
      refine (F.out _).mono ?_
      rintro e w2 ⟨rfl, hb2⟩
      have HB2 := Lib.hid (HB.out.trans (hb2.mono hzr))
      clear hb2
      go_wp2_with fail
      go_roundw
      case rel => exact ⟨j + 1, by omega, by go_num, HB2⟩
      case measure => simp [intOf]; omega
    · obtain rfl : j = xs.length := by omega
      go_wp2_with fail
      exact bodyPost_ret (v := .int .i64 (-1)) (by simp [results, Try.results89, go_sem]) rfl ⟨rfl, HB.out⟩
theorem contains1_any (a : Option Addr) (cap : Nat) (xs : List (Nat × Nat × Nat)) (w : World) (hs : Sl w 5 (.slice a xs.length cap) (xs.map routeCells)) (hl : xs.length ≤ 1000) (ha : ∀ x, a = some x → x.block < w.heap.size) :
    Calls Try.prog 51 #[.slice a xs.length cap, .func (.func 52) #[] #[]] w fun e w' => e = .returned (.bool false) ∧ Below w.heap.size w w' := by
  have IX := Lib.hid (index1_any a cap xs w hs hl ha)
  clear hs ha
  go_enter Try.func51, Try.ntmps51
  go_wp2_with fail
  refine IX.out.mono ?_
  rintro e w1 ⟨rfl, hb1⟩
  go_wp2_with fail
  go_returns
  exact ⟨by simp, hb1⟩
theorem fn2_any (x : Nat × Nat × Nat) (w : World) (hx : x.2.1 ≤ 32) : Calls Try.prog 53 #[.agg #[.bool false, .int .u64 (hiOf false x.1), .int .u64 (loOf x.1), .int .i64 x.2.1, .int .i64 x.2.2]] w fun e w' => e = .returned (.bool (decide (x.2.1 = 0))) ∧ Below w.heap.size w w' := by
  by_cases h : x.2.1 = 0
  · rw [decide_eq_true h, h]
    clear h hx
    go_enter Try.func53, Try.ntmps53
    go_wp2_with fail
    go_returns
    exact ⟨by simp, (Below.refl _ _).alloc (Nat.le_refl _) _⟩
  · rw [decide_eq_false h]
    have h1 : ¬ ((x.2.1 : Int) = 0) := by omega
    have h2 : ((x.2.1 : Int) == 0) = false := by rw [beq_eq_false_iff_ne]; exact h1
    clear h
    go_enter Try.func53, Try.ntmps53
    go_wp2_with fail
    go_returns
    exact ⟨by simp [h1], (Below.refl _ _).alloc (Nat.le_refl _) _⟩

set_option maxHeartbeats 2000000 in
theorem index2_any (a : Option Addr) (cap : Nat) (xs : List (Nat × Nat × Nat)) (w : World) (hs : Sl w 5 (.slice a xs.length cap) (xs.map routeCells)) (hl : xs.length ≤ 1000) (ha : ∀ x, a = some x → x.block < w.heap.size) (h32 : ∀ x ∈ xs, x.2.1 ≤ 32) (hex : ∃ x ∈ xs, x.2.1 = 0) :
    Calls Try.prog 89 #[.slice a xs.length cap, .func (.func 53) #[] #[]] w fun e w' => (∃ i : Nat, e = .returned (.int .i64 (i : Nat))) ∧ Below w.heap.size w w' := by
  have HS := Lib.hid hs
  have HA := Lib.hid ha
  have H32 := Lib.hid h32
  have HEX := Lib.hid hex
  clear hs ha h32 hex
  go_enter Try.func89, Try.ntmps89
  go_wp2_with fail
  go_loopw [8] (fun i wr => ∃ j : Nat, j ≤ xs.length ∧ i = .int .i64 j ∧ Hid (∀ m, m < j → ∀ x, xs[m]? = some x → x.2.1 ≠ 0) ∧ Hid (Below w.heap.size w wr)) (fun i _ => xs.length - (intOf i).toNat)
  case atStart => exact ⟨0, Nat.zero_le _, rfl, fun m hm => absurd hm (Nat.not_lt_zero m), Below.refl _ _⟩
  case round =>
    obtain ⟨j, hj, rfl, HNO, HB⟩ := hrel
    have hzr := HB.out.size
    by_cases hlt : j < xs.length
    · obtain ⟨x, hx⟩ : ∃ s, xs[j]? = some s := ⟨_, List.getElem?_eq_getElem hlt⟩
      obtain ⟨g, off, rfl, hg, hgw, d0, d1, d2, d3, d4⟩ := Sl.rv HS.out HB.out HA.out hx
      have HX := Lib.hid hx
      have F := Lib.hid (fun w => fn2_any x w (H32.out x (List.mem_of_getElem? hx)))
      clear hx
      by_cases h0 : x.2.1 = 0
      · rw [decide_eq_true h0] at F
        clear h0
        go_wp2_with fail
        refine (F.out _).mono ?_
        rintro e w2 ⟨rfl, hb2⟩
        have HB2 := Lib.hid (HB.out.trans (hb2.mono hzr))
        clear hb2
        go_wp2_with fail
        exact bodyPost_ret (v := .int .i64 (j : Nat)) (by simp [results, Try.results89, go_sem]) rfl ⟨⟨j, rfl⟩, HB2.out⟩
      · have HN2 : Hid (∀ m, m < j + 1 → ∀ x, xs[m]? = some x → x.2.1 ≠ 0) := fun m hm y hy => by
          by_cases e : m = j
          · subst e
            rw [HX.out] at hy
            cases hy
            exact h0
          · exact HNO.out m (by omega) y hy
        rw [decide_eq_false h0] at F
        clear h0 HNO
        go_wp2_with fail
        refine (F.out _).mono ?_
        rintro e w2 ⟨rfl, hb2⟩
        have HB2 := Lib.hid (HB.out.trans (hb2.mono hzr))
        clear hb2
        go_wp2_with fail
        go_roundw
        case rel => exact ⟨j + 1, by omega, by go_num, HN2, HB2⟩
        case measure => simp [intOf]; omega
    · exfalso
      obtain ⟨x, hx, h0⟩ := HEX.out
      obtain ⟨m, hm⟩ := List.mem_iff_getElem?.1 hx
      exact HNO.out m (by have := (List.getElem?_eq_some_iff.1 hm).1; omega) x hm h0
theorem contains2_any (a : Option Addr) (cap : Nat) (xs : List (Nat × Nat × Nat)) (w : World) (hs : Sl w 5 (.slice a xs.length cap) (xs.map routeCells)) (hl : xs.length ≤ 1000) (ha : ∀ x, a = some x → x.block < w.heap.size) (h32 : ∀ x ∈ xs, x.2.1 ≤ 32) (hex : ∃ x ∈ xs, x.2.1 = 0) :
    Calls Try.prog 51 #[.slice a xs.length cap, .func (.func 53) #[] #[]] w fun e w' => e = .returned (.bool true) ∧ Below w.heap.size w w' := by
  have IX := Lib.hid (index2_any a cap xs w hs hl ha h32 hex)
  clear hs ha h32 hex
  go_enter Try.func51, Try.ntmps51
  go_wp2_with fail
  refine IX.out.mono ?_
  rintro e w1 ⟨⟨i, rfl⟩, hb1⟩
  have hi : (i : Int) ≥ 0 := by omega
  go_wp2_with fail
  go_returns
  exact ⟨by simp, hb1⟩
theorem depth_tell (g : Nat) : ∀ t : HT, (t.tell g).depth = t.depth
  | .leaf _ => rfl
  | .node l r => by simp only [HT.tell, HT.depth, depth_tell g l, depth_tell g r]
theorem leaves_tell (g : Nat) : ∀ t : HT, (t.tell g).leaves = t.leaves
  | .leaf _ => rfl
  | .node l r => by simp only [HT.tell, HT.leaves, leaves_tell g l, leaves_tell g r]
theorem put_bounds (g : Nat) : ∀ (bs : List Bool) (t : HT), (HT.put bs g t).depth ≤ max t.depth bs.length ∧ (HT.put bs g t).leaves ≤ t.leaves + bs.length
  | [], t => by
    have h1 := depth_tell g t
    have h2 := leaves_tell g t
    have e : HT.put [] g t = t.tell g := by cases t <;> rfl
    rw [e, h1, h2]
    simp
  | d :: bs, .leaf h => by
    obtain ⟨h1, h2⟩ := put_bounds g bs (.leaf h)
    cases d <;> simp only [HT.put, HT.depth, HT.leaves, List.length_cons, if_true, Bool.false_eq_true, if_false] at h1 h2 ⊢ <;> omega
  | d :: bs, .node l r => by
    obtain ⟨h1, h2⟩ := put_bounds g bs l
    obtain ⟨h3, h4⟩ := put_bounds g bs r
    cases d <;> simp only [HT.put, HT.depth, HT.leaves, List.length_cons, if_true, Bool.false_eq_true, if_false] at h1 h2 h3 h4 ⊢ <;> omega
theorem growL_bounds : ∀ (n : Nat) (ys : List (Nat × Nat × Nat)), ys.length = n → (∀ x ∈ ys, x.2.1 ≤ 32) → (growL ys).depth ≤ 32 ∧ (growL ys).leaves ≤ 1 + 32 * n
  | 0, ys, h, _ => by
    obtain rfl := List.eq_nil_of_length_eq_zero h
    simp [growL, HT.depth, HT.leaves]
  | n + 1, ys, h, hk => by
    rcases List.eq_nil_or_concat ys with rfl | ⟨zs, x, rfl⟩
    · simp at h
    · rw [List.concat_eq_append] at *
      obtain ⟨h1, h2⟩ := growL_bounds n zs (by simpa using h) (fun y hy => hk y (List.mem_append_left _ hy))
      obtain ⟨h3, h4⟩ := put_bounds x.2.2 (bitsL x.1 x.2.1) (growL zs)
      have h5 := hk x (by simp)
      rw [growL_snoc]
      rw [bits_len] at h3 h4
      omega
/-- The fewest routes of a list. -/
def fewL (ys : List (Nat × Nat × Nat)) : List (Nat × Nat × Nat) := (growL ys).give 0 0 0
set_option maxHeartbeats 2000000 in
theorem fewest_any (a : Option Addr) (cap : Nat) (rs : List (Nat × Nat × Nat)) (w : World) (hs : Sl w 5 (.slice a rs.length cap) (rs.map routeCells)) (hok : RtOk rs) (hex : ∃ x ∈ rs, x.2.1 = 0) (ha : ∀ x, a = some x → x.block < w.heap.size) :
    Calls Try.prog 22 #[.slice a rs.length cap] w fun e w' => ∃ a' c' ys, e = .returned (.tuple #[.slice a' (fewL ys).length c', .int .i64 0]) ∧ SortL rs ys ∧ Wk.Own w' w.heap.size 49 5 (.slice a' (fewL ys).length c') ((fewL ys).map routeCells) ∧ Below w.heap.size w w' := by
  have h32 : ∀ x ∈ rs, x.2.1 ≤ 32 := fun x hx => (vp_iff.1 (hok.vp x hx)).2.1
  have hlen := hok.len
  have HC := Lib.hid (check_any a cap rs.length rs w rfl hs hok)
  have lift : ∀ W, Below w.heap.size w W → Sl W 5 (.slice a rs.length cap) (rs.map routeCells) ∧ ∀ x, a = some x → x.block < W.heap.size := fun W hb => ⟨hs.below hb, fun x hx => Nat.lt_of_lt_of_le (ha x hx) hb.size⟩
  have H1 := Lib.hid (fun W (hb : Below w.heap.size w W) => contains1_any a cap rs W (lift W hb).1 (by omega) (lift W hb).2)
  have H2 := Lib.hid (fun W (hb : Below w.heap.size w W) => contains2_any a cap rs W (lift W hb).1 (by omega) (lift W hb).2 h32 hex)
  have HG := Lib.hid (fun W (hb : Below w.heap.size w W) => grow_any a cap rs W (lift W hb).1 hlen hok.vp (lift W hb).2)
  have H32 := Lib.hid h32
  clear hs hok hex ha lift h32
  go_enter Try.func22, Try.ntmps22
  go_wp2_with fail
  refine HC.out.mono ?_
  rintro e w1 ⟨rfl, hb1⟩
  have HB1 := Lib.hid hb1
  clear hb1 HC
  go_wp2_with fail
  refine (H1.out w1 HB1.out).mono ?_
  rintro e w2 ⟨rfl, hb2⟩
  have HB2 := Lib.hid (HB1.out.trans (hb2.mono HB1.out.size))
  clear hb2 H1
  go_wp2_with fail
  refine (H2.out w2 HB2.out).mono ?_
  rintro e w3 ⟨rfl, hb3⟩
  have HB3 := Lib.hid (HB2.out.trans (hb3.mono HB2.out.size))
  clear hb3 H2
  go_wp2_with fail
  refine (HG.out w3 HB3.out).mono ?_
  rintro e w4 ⟨t, ys, rfl, hsr, her, hd, hbl, hb4⟩
  have HB4 := Lib.hid (HB3.out.trans (hb4.mono HB3.out.size))
  have HSR := Lib.hid hsr
  have hbd := growL_bounds ys.length ys rfl (fun x hx => H32.out x (hsr.1.mem_iff.1 hx))
  have hyl : ys.length ≤ 60 := by rw [hsr.1.length_eq]; exact hlen
  have HER := Lib.hid her
  have HBD : Hid (t.er.depth ≤ 32 ∧ t.er.leaves ≤ 5000) := by show _ ∧ _; rw [her]; omega
  have HD := Lib.hid hd
  have HBL := Lib.hid hbl
  have CH := Lib.hid (choose_any t w4 hd HBD.out.2)
  clear hb4 hsr her hd hbl hbd hyl HG H32
  go_wp2_with fail
  refine CH.out.mono ?_
  rintro e w5 ⟨S, rfl, hd5, hs5, k5⟩
  have HB5 := Lib.hid (HB4.out.trans (k5.below HB4.out.size (fun b _ hb h => by have := HBL.out b h; have := HB3.out.size; omega)))
  have GV : Hid (Calls Try.prog 56 #[ptrN t.root, .agg #[.bool false, .int .u64 0, .int .u64 0, .int .i64 0], .int .i64 0, .slice none 0 0] w5 (GiveSays w5 w5.heap.size (.slice none 0 0) [] (t.er.give 0 0 0))) :=
    give_any w5 w4.heap.size S t w5 0 0 0 none 0 [] hd5 hs5 (Below.refl _ _) (vp_iff.2 ⟨Nat.two_pow_pos _, Nat.zero_le _, Nat.zero_mod _⟩) HBD.out.1 HBD.out.2 (Wk.Own.nil _ _ _ _) (by have := HBD.out.2; simp; omega)
  obtain ⟨vS, hvS⟩ : ∃ v, v = S t.root := ⟨_, rfl⟩
  rw [← hvS]
  clear hvS hd5 hs5 k5 CH HD
  go_wp2_with fail
  refine GV.out.mono ?_
  rintro e w6 ⟨a6, c6, rfl, ho6, hg6⟩
  rw [List.nil_append] at ho6 hg6 ⊢
  have e6 : t.er.give 0 0 0 = fewL ys := by rw [HER.out]; rfl
  rw [e6] at ho6 hg6 ⊢
  have HO6 := Lib.hid (ho6.base HB5.out.size)
  have HB6 := Lib.hid (HB5.out.trans (hg6.low HB5.out.size (fun z hz => by cases hz)))
  clear e6 ho6 hg6 GV HER
  obtain ⟨L, hL⟩ : ∃ L, L = fewL ys := ⟨_, rfl⟩
  rw [← hL] at HO6 ⊢
  have HL := Lib.hid hL
  clear hL
  go_wp2_with fail
  refine bodyPost_ret (v := .tuple #[.slice a6 L.length c6, .int .i64 0]) (by simp [results, Try.results22, go_sem]) rfl ⟨a6, c6, ys, ?_⟩
  rw [← HL.out]
  exact ⟨rfl, HSR.out, HO6.out, HB6.out⟩
end Go.Proofs.Ytoecmoicaklbaaa
