
/- Contracts: cidr.Minus, cidr.Both, cidr.Merge at prefixes near 10.0.0.0: the plain list of a set. -/
import Derived.Test.YtoecmoicaklbaaaMt2
import Derived.Test.YtoecmoicaklbaaaRs
set_option linter.unusedVariables false
set_option linter.unusedSimpArgs false
namespace Go.Proofs.Ytoecmoicaklbaaa
open Go Go.RowKit Go.Sort Wc Wk

theorem fits32 {n : Nat} (h : n < 4294967296) : Fits false n := h
/-- The two lists that are looked at. -/
theorem fault2_any (a : Option Addr) (ca : Nat) (l : List (Nat × Nat)) (b : Option Addr) (cb : Nat) (m : List (Nat × Nat)) (w : World) (hl : Sl w 4 (.slice a l.length ca) (l.map (pfC false))) (hm : Sl w 4 (.slice b m.length cb) (m.map (pfC false))) (ll : l.length ≤ 80) (lm : m.length ≤ 80) (nl : NearL l) (nm : NearL m)
    (ha : ∀ x, a = some x → x.block < w.heap.size) (hb : ∀ x, b = some x → x.block < w.heap.size) :
    Calls Try.prog 42 #[.slice (some ⟨w.heap.size, 0, none⟩) 2 2] (w.alloc (.cells #[.slice a l.length ca, .slice b m.length cb] 47)) fun e w' => e = .returned (.int .i64 0) ∧ Below w.heap.size w w' := by
  have hb0 : Below w.heap.size w (w.alloc (.cells #[.slice a l.length ca, .slice b m.length cb] 47)) := (Below.refl _ _).alloc (Nat.le_refl _) _
  refine (fault_any false w.heap.size 2 [(a, ca, l), (b, cb, m)] _ (by simp) (fun i q hq => ?_) (by simp)).mono ?_
  · match i, hq with
    | 0, hq => simp at hq; subst hq; exact ⟨by simp, hl.below hb0, ll, nl.vp, fun x hx => by have := ha x hx; simp; omega⟩
    | 1, hq => simp at hq; subst hq; exact ⟨by simp, hm.below hb0, lm, nm.vp, fun x hx => by have := hb x hx; simp; omega⟩
    | i + 2, hq => simp at hq
  · rintro e w1 ⟨rfl, hb1⟩
    exact ⟨rfl, hb0.trans (hb1.mono (by simp))⟩
/-- The spans of a list. -/
theorem spansN_any (a : Option Addr) (ca : Nat) (l : List (Nat × Nat)) (w : World) (hl : Sl w 4 (.slice a l.length ca) (l.map (pfC false))) (ll : l.length ≤ 80) (nl : NearL l) (ha : ∀ x, a = some x → x.block < w.heap.size) :
    Calls Try.prog 44 #[.slice a l.length ca] w fun e w' => ∃ a' c' S, e = .returned (.slice a' S.length c') ∧ Spd l S ∧ Wk.Own w' w.heap.size 141 6 (.slice a' S.length c') (S.map (spC false)) ∧ Below w.heap.size w w' := by
  refine (spans_any false a ca l w hl (by omega) nl.vp ha).mono ?_
  rintro e w1 ⟨v, ys, rfl, hs, ho, hb⟩
  obtain ⟨a', c', rfl⟩ := ho.shape
  rw [List.length_map] at ho ⊢
  exact ⟨a', c', _, rfl, spd_of nl hs, ho, hb⟩
/-- Prefixes of spans that lie near. -/
theorem prefixesN_any (a : Option Addr) (ca : Nat) (S : List (Nat × Nat)) (w : World) (hs : Sl w 6 (.slice a S.length ca) (S.map (spC false))) (hlen : S.length ≤ 500) (hok : ∀ s ∈ S, s.1 ≤ s.2 ∧ 167772160 ≤ s.1 ∧ s.2 < 167773184) (ha : ∀ x, a = some x → x.block < w.heap.size) :
    Calls Try.prog 43 #[.slice a S.length ca] w fun e w' => ∃ a' cap' xs, e = .returned (.slice a' xs.length cap') ∧ CutR false S xs ∧ Wk.Own w' w.heap.size 30 4 (.slice a' xs.length cap') (xs.map (pfC false)) ∧ Below w.heap.size w w' :=
  prefixes_any false a ca S w hs (by omega) (fun s h => ⟨(hok s h).1, fits32 (by have := (hok s h).2.2; omega)⟩) (Nat.le_trans (sum_le (K := 1024) fun s h => by have := hok s h; omega) (by omega)) ha


set_option maxRecDepth 100000 in
set_option maxHeartbeats 4000000 in
theorem both_any (a : Option Addr) (ca : Nat) (l : List (Nat × Nat)) (b : Option Addr) (cb : Nat) (m : List (Nat × Nat)) (w : World) (hl : Sl w 4 (.slice a l.length ca) (l.map (pfC false))) (hm : Sl w 4 (.slice b m.length cb) (m.map (pfC false))) (ll : l.length ≤ 80) (lm : m.length ≤ 80) (nl : NearL l) (nm : NearL m)
    (ha : ∀ x, a = some x → x.block < w.heap.size) (hb : ∀ x, b = some x → x.block < w.heap.size) :
    Calls Try.prog 31 #[.slice a l.length ca, .slice b m.length cb] w fun e w' => ∃ a' c' xs, e = .returned (.tuple #[.slice a' xs.length c', .int .i64 0]) ∧ Res (fun x => InP false l x ∧ InP false m x) xs ∧ Wk.Own w' w.heap.size 30 4 (.slice a' xs.length c') (xs.map (pfC false)) ∧ Below w.heap.size w w' := by
  have HF := Lib.hid (fault2_any a ca l b cb m w hl hm ll lm nl nm ha hb)
  have SL := Lib.hid (fun W (hw : Below w.heap.size w W) => spansN_any a ca l W (hl.below hw) ll nl (fun x hx => Nat.lt_of_lt_of_le (ha x hx) hw.size))
  have SM := Lib.hid (fun W (hw : Below w.heap.size w W) => spansN_any b cb m W (hm.below hw) lm nm (fun x hx => Nat.lt_of_lt_of_le (hb x hx) hw.size))
  have NL := Lib.hid nl
  clear hl hm ha hb nl nm
  go_enter Try.func31, Try.ntmps31
  go_wp2_with fail
  refine HF.out.mono ?_
  rintro e w1 ⟨rfl, hb1⟩
  clear HF
  have HB1 := Lib.hid hb1
  clear hb1
  go_wp2_with fail
  refine (SL.out w1 HB1.out).mono ?_
  rintro e w2 ⟨a2, c2, S, rfl, hS, ho2, hb2⟩
  have HS := Lib.hid hS
  have HO2 := Lib.hid ho2
  have HB2 := Lib.hid (HB1.out.trans (hb2.mono HB1.out.size))
  clear hb2 hS ho2 SL
  go_wp2_with fail
  refine (SM.out w2 HB2.out).mono ?_
  rintro e w3 ⟨a3, c3, T, rfl, hT, ho3, hb3⟩
  have HT := Lib.hid hT
  have HO3 := Lib.hid ho3
  have HO2' := Lib.hid (HO2.out.below hb3)
  have HB3 := Lib.hid (HB2.out.trans (hb3.mono HB2.out.size))
  have lS := Nat.le_trans HS.out.len ll
  have lT := Nat.le_trans HT.out.len lm
  clear hb3 hT ho3 SM HO2
  have MT := Lib.hid (meet_any a2 c2 S.length a3 c3 T.length S T [] w3 rfl (by simp) HO2'.out.sl (by simpa using HO3.out.sl) (by omega) (by omega) (fun s h => ⟨fits32 (by have := HS.out.near s h; have := HS.out.le s h; omega), fits32 (by have := HS.out.near s h; omega)⟩) (fun s h => ⟨fits32 (by have := HT.out.near s h; have := HT.out.le s h; omega), fits32 (by have := HT.out.near s h; omega)⟩) (by simp))
  go_wp2_with fail
  refine MT.out.mono ?_
  rintro e w4 ⟨v4, rfl, ho4, hb4⟩
  obtain ⟨a4, c4, rfl⟩ := ho4.shape
  rw [List.length_map] at ho4 ⊢
  have HO4 := Lib.hid ho4
  have HB4 := Lib.hid (HB3.out.trans (hb4.mono HB3.out.size))
  have HM := Lib.hid (meetL_says S T HS.out.sep HT.out.sep HS.out.le HT.out.le)
  have PX := Lib.hid (prefixesN_any a4 c4 (meetL S T) w4 HO4.out.sl (by have := HM.out.len; omega) (fun s h => by obtain ⟨x, hx, h1, h2⟩ := HM.out.ina s h; have := HM.out.le s h; have := HS.out.near x hx; omega) (fun x hx => (HO4.out.lt x.block (by rw [hx]; rfl)).2))
  have BR := Lib.hid (fun xs (h : CutR false (meetL S T) xs) => both_res NL.out HS.out HT.out h)
  clear hb4 ho4 MT HO3 HO2' HM
  generalize meetL S T = M at *
  go_wp2_with fail
  refine PX.out.mono ?_
  rintro e w5 ⟨a5, c5, xs, rfl, hc5, ho5, hb5⟩
  have HR5 := Lib.hid (BR.out xs hc5)
  have HO5 := Lib.hid (own_base ho5 HB4.out.size)
  have HB5 := Lib.hid (HB4.out.trans (hb5.mono HB4.out.size))
  clear hb5 ho5 PX BR hc5
  go_wp2_with fail
  exact bodyPost_ret (v := .tuple #[.slice a5 xs.length c5, .int .i64 0]) (by simp [results, Try.results31, go_sem]) rfl ⟨_, _, xs, rfl, HR5.out, HO5.out, HB5.out⟩

set_option maxRecDepth 100000 in
set_option maxHeartbeats 4000000 in
theorem minus_any (a : Option Addr) (ca : Nat) (l : List (Nat × Nat)) (b : Option Addr) (cb : Nat) (m : List (Nat × Nat)) (w : World) (hl : Sl w 4 (.slice a l.length ca) (l.map (pfC false))) (hm : Sl w 4 (.slice b m.length cb) (m.map (pfC false))) (ll : l.length ≤ 80) (lm : m.length ≤ 80) (nl : NearL l) (nm : NearL m)
    (ha : ∀ x, a = some x → x.block < w.heap.size) (hb : ∀ x, b = some x → x.block < w.heap.size) :
    Calls Try.prog 28 #[.slice a l.length ca, .slice b m.length cb] w fun e w' => ∃ a' c' xs, e = .returned (.tuple #[.slice a' xs.length c', .int .i64 0]) ∧ Res (fun x => InP false l x ∧ ¬ InP false m x) xs ∧ Wk.Own w' w.heap.size 30 4 (.slice a' xs.length c') (xs.map (pfC false)) ∧ Below w.heap.size w w' := by
  have HF := Lib.hid (fault2_any a ca l b cb m w hl hm ll lm nl nm ha hb)
  have SL := Lib.hid (fun W (hw : Below w.heap.size w W) => spansN_any a ca l W (hl.below hw) ll nl (fun x hx => Nat.lt_of_lt_of_le (ha x hx) hw.size))
  have SM := Lib.hid (fun W (hw : Below w.heap.size w W) => spansN_any b cb m W (hm.below hw) lm nm (fun x hx => Nat.lt_of_lt_of_le (hb x hx) hw.size))
  have NL := Lib.hid nl
  clear hl hm ha hb nl nm
  go_enter Try.func28, Try.ntmps28
  go_wp2_with fail
  refine HF.out.mono ?_
  rintro e w1 ⟨rfl, hb1⟩
  clear HF
  have HB1 := Lib.hid hb1
  clear hb1
  go_wp2_with fail
  refine (SL.out w1 HB1.out).mono ?_
  rintro e w2 ⟨a2, c2, S, rfl, hS, ho2, hb2⟩
  have HS := Lib.hid hS
  have HO2 := Lib.hid ho2
  have HB2 := Lib.hid (HB1.out.trans (hb2.mono HB1.out.size))
  clear hb2 hS ho2 SL
  go_wp2_with fail
  refine (SM.out w2 HB2.out).mono ?_
  rintro e w3 ⟨a3, c3, T, rfl, hT, ho3, hb3⟩
  have HT := Lib.hid hT
  have HO3 := Lib.hid ho3
  have HO2' := Lib.hid (HO2.out.below hb3)
  have HB3 := Lib.hid (HB2.out.trans (hb3.mono HB2.out.size))
  have lS := Nat.le_trans HS.out.len ll
  have lT := Nat.le_trans HT.out.len lm
  clear hb3 hT ho3 SM HO2
  have RT := Lib.hid (rest_any a3 c3 T.length T w3 rfl HO3.out.sl (by omega) (fun s h => ⟨HT.out.le s h, by have := HT.out.near s h; unfold topA; omega⟩) (fun x hx => (HO3.out.lt x.block (by rw [hx]; rfl)).2))
  have HRS := Lib.hid HT.out.rest
  have MR := Lib.hid (fun xs (h : CutR false (meetL S (restL topA 0 T)) xs) => minus_res NL.out HS.out HT.out h)
  generalize restL topA 0 T = R at *
  go_wp2_with fail
  refine RT.out.mono ?_
  rintro e w4 ⟨v4, rfl, ho4, hb4⟩
  obtain ⟨a4, c4, rfl⟩ := ho4.shape
  have HO4 := Lib.hid ho4
  have HO2'' := Lib.hid (HO2'.out.below hb4)
  have HB4 := Lib.hid (HB3.out.trans (hb4.mono HB3.out.size))
  have lR := HRS.out.len
  have MT := Lib.hid (meet_any a2 c2 S.length a4 c4 _ S R [allS true] w4 rfl (by simp) HO2''.out.sl ho4.sl (by omega) (by simp; omega) (fun s h => ⟨fits32 (by have := HS.out.near s h; have := HS.out.le s h; omega), fits32 (by have := HS.out.near s h; omega)⟩) (fun s h => ⟨fits32 (by have := HRS.out.le s h; unfold topA at this; omega), fits32 (by have := HRS.out.le s h; unfold topA at this; omega)⟩) (fun s h => by simp at h; subst h; exact ⟨Nat.two_pow_pos _, by show 2 ^ wd true - 1 < 2 ^ wd true; have := Nat.two_pow_pos (wd true); omega⟩))
  clear hb4 ho4 RT HO3 HO2' HO4
  generalize (R.map (spC false) ++ [allS true].map (spC true)).length = N at *
  go_wp2_with fail
  refine MT.out.mono ?_
  rintro e w5 ⟨v5, rfl, ho5, hb5⟩
  obtain ⟨a5, c5, rfl⟩ := ho5.shape
  rw [List.length_map] at ho5 ⊢
  have HO5 := Lib.hid ho5
  have HB5 := Lib.hid (HB4.out.trans (hb5.mono HB4.out.size))
  have HM := Lib.hid (meetL_says S R HS.out.sep HRS.out.sep HS.out.le (fun s h => (HRS.out.le s h).2.1))
  have PX := Lib.hid (prefixesN_any a5 c5 (meetL S R) w5 HO5.out.sl (by have := HM.out.len; omega) (fun s h => by obtain ⟨x, hx, h1, h2⟩ := HM.out.ina s h; have := HM.out.le s h; have := HS.out.near x hx; omega) (fun x hx => (HO5.out.lt x.block (by rw [hx]; rfl)).2))
  clear hb5 ho5 MT HO2'' HM HRS
  generalize meetL S R = M at *
  go_wp2_with fail
  refine PX.out.mono ?_
  rintro e w6 ⟨a6, c6, xs, rfl, hc6, ho6, hb6⟩
  have HR6 := Lib.hid (MR.out xs hc6)
  have HO6 := Lib.hid (own_base ho6 HB5.out.size)
  have HB6 := Lib.hid (HB5.out.trans (hb6.mono HB5.out.size))
  clear hb6 ho6 PX MR hc6
  go_wp2_with fail
  exact bodyPost_ret (v := .tuple #[.slice a6 xs.length c6, .int .i64 0]) (by simp [results, Try.results28, go_sem]) rfl ⟨_, _, xs, rfl, HR6.out, HO6.out, HB6.out⟩
/-- A merge of such prefixes. -/
theorem mergeR_any (a : Option Addr) (cap : Nat) (l : List (Nat × Nat)) (w : World) (hs : Sl w 4 (.slice a l.length cap) (l.map (pfC false))) (hlen : l.length ≤ 80) (hn : NearL l) (ha : ∀ x, a = some x → x.block < w.heap.size) :
    Calls Try.prog 17 #[.slice a l.length cap] w fun e w' => ∃ a' cap' xs, e = .returned (.tuple #[.slice a' xs.length cap', .int .i64 0]) ∧ Res (InP false l) xs ∧ Wk.Own w' w.heap.size 30 4 (.slice a' xs.length cap') (xs.map (pfC false)) ∧ Below w.heap.size w w' := by
  refine (mergeN_any a cap l w hs hlen hn ha).mono ?_
  rintro e w1 ⟨a', c', ys, xs, rfl, h1, h2, ho, hb⟩
  exact ⟨_, _, xs, rfl, merge_res hn h1 h2, ho, hb⟩
theorem row_belowP {w w' : World} {a : Option Addr} {len cap : Nat} {zs : List Int} (h : IsRow .i64 w a len cap zs) (hb : Below w.heap.size w w') : IsRow .i64 w' a len cap zs := by
  rcases h with h | ⟨x, ha, h1, h2, h3, hc, hw⟩
  · exact .inl h
  · refine .inr ⟨x, ha, h1, h2, h3, fun i hi => ?_, hw⟩
    have hb2 : (x.add i).block < w.heap.size := World.block_lt_of_cell? _ _ (hc i hi)
    rw [hb.cell hb2]
    exact hc i hi
theorem presL_any (a : Option Addr) (len cap : Nat) (zs : List Int) (n : Nat) (w : World) (h : IsRow .i64 w a len cap zs) (hn : n ≤ 1000) :
    Calls Try.prog 27 #[.slice a len cap, .int .i64 n] w fun e w' => ∃ a' c' l, e = .returned (.slice a' l.length c') ∧ NearL l ∧ l.length ≤ n ∧ Wk.Own w' w.heap.size 30 4 (.slice a' l.length c') (l.map (pfC false)) ∧ Below w.heap.size w w' := by
  have hlz := h.len_le
  refine (pres_any a len cap zs n w h hn).mono ?_
  rintro e w1 ⟨v1, rfl, ho, hb⟩
  rw [presRows] at ho
  obtain ⟨a', c', rfl⟩ := ho.shape
  rw [List.length_map] at ho ⊢
  exact ⟨a', c', (zs.take (min len n)).map prOf, rfl, NearL.pres _, by rw [List.length_map, List.length_take]; omega, ho, hb⟩
end Go.Proofs.Ytoecmoicaklbaaa
