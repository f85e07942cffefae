
/- Contract: fewest.Same. -/
import Derived.Test.YtoecmoicaklbaaaFbP
import Derived.Test.YtoecmoicaklbaaaCtR
set_option linter.unusedVariables false
set_option linter.unusedSimpArgs false
namespace Go.Proofs.Ytoecmoicaklbaaa
open Go Go.RowKit Go.Sort Wc Wk

theorem own_lits {W : World} {B sz b n : Nat} {xs : List (List Value)} {cs : Array Value} {E : TypeId} (hb : b = W.heap.size) (hB : B ≤ b) (hc : ∀ c ∈ xs, c.length = sz) (hcs : cs = xs.flatten.toArray) (hn : n = xs.length) (hm : n ≤ 1000) : Wk.Own (W.alloc (.cells cs E)) B E sz (.slice (some ⟨b, 0, none⟩) n n) xs := by
  subst hb hcs hn
  have hf := flatten_len hc
  refine ⟨hc, by rw [hf], .inr ⟨W.heap.size, xs.length, _, rfl, hB, World.alloc_heap_new W _, Nat.le_refl _, by unfold maxLen; omega, by simpa using hf, ?_⟩⟩
  simp only [List.take_toArray]
  rw [← hf, List.take_length]
theorem cell_top {W : World} {b i : Nat} {cs : Array Value} {E : TypeId} {v : Value} (hb : b = W.heap.size) (h : cs[i]? = some v) : (W.alloc (.cells cs E)).cell? ⟨b, i, none⟩ = some v := by
  subst hb
  simp [h]
theorem gcell {w w' : World} {row : Option Nat} (hg : w.grownBy w' row) {b o : Nat} (hb : b < w.heap.size) (hne : row ≠ some b) : w'.cell? ⟨b, o, none⟩ = w.cell? ⟨b, o, none⟩ := by
  have := hg.block b hb (fun e => hne e.symm)
  unfold World.cell?
  rw [this]
theorem own_behind {w : World} {B sz b : Nat} {E : TypeId} {v : Value} {xs : List (List Value)} (h : Wk.Own w B E sz v xs) (hb : w.heap.size ≤ b) : v.ownBlock ≠ some b := fun e => by
  have := (h.lt b e).2
  omega
theorem lsR_two {w : World} {g : Nat} {a b : Option Addr} {ca cb : Nat} {L M : List (Nat × Nat × Nat)} (h0 : w.cell? ⟨g, 0, none⟩ = some (.slice a L.length ca)) (h1 : w.cell? ⟨g, 1, none⟩ = some (.slice b M.length cb)) (hL : Sl w 5 (.slice a L.length ca) (L.map routeCells)) (hM : Sl w 5 (.slice b M.length cb) (M.map routeCells)) (l1 : L.length ≤ 5000) (l2 : M.length ≤ 5000) : LsR w g [(a, ca, L), (b, cb, M)] := fun i q hq => by
  match i with
  | 0 =>
    simp only [List.getElem?_cons_zero, Option.some.injEq] at hq
    subst hq
    exact ⟨h0, hL, l1⟩
  | 1 =>
    simp only [List.getElem?_cons_succ, List.getElem?_cons_zero, Option.some.injEq] at hq
    subst hq
    exact ⟨h1, hM, l2⟩
  | i + 2 => simp at hq
theorem flatR_two (a b : Option Addr) (ca cb : Nat) (L M : List (Nat × Nat × Nat)) : flatR [(a, ca, L), (b, cb, M)] = L ++ M := by simp [flatR]

set_option maxRecDepth 100000 in
set_option maxHeartbeats 4000000 in
theorem fsame_any (a b : Option Addr) (ca cb n m : Nat) (L M : List (Nat × Nat × Nat)) (w : World) (hn : n = L.length) (hm : m = M.length) (hsl : Sl w 5 (.slice a n ca) (L.map routeCells)) (hsm : Sl w 5 (.slice b m cb) (M.map routeCells)) (hL : RtOk L) (hM : RtOk M) (hpos : 0 < n) :
    Calls Try.prog 25 #[.slice a n ca, .slice b m cb] w fun e w' => e = .returned (.tuple #[.bool (likeB L M), .int .i64 0]) ∧ Below w.heap.size w w' := by
  have HL := Lib.hid hL
  have HM := Lib.hid hM
  have HN := Lib.hid hn
  have HMn := Lib.hid hm
  have HSL := Lib.hid hsl
  have HSM := Lib.hid hsm
  have hl1 : n ≤ 60 := by rw [hn]; exact hL.len
  have hl2 : m ≤ 60 := by rw [hm]; exact hM.len
  have HD : Hid (differs (putAll L) (putAll M) (probes (L ++ M)) = !likeB L M) := Lib.hid (by unfold likeB; simp)
  have HPO := Lib.hid (probes_ok (rs := L ++ M) (fun x hx => (List.mem_append.1 hx).elim (hL.vp x) (hM.vp x)))
  generalize likeB L M = lk at *
  clear hL hM hn hm hsl hsm
  go_enter Try.func25, Try.ntmps25
  go_wp2_with fail
  refine (new_any a ca n L w HN.out HSL.out HL.out).mono ?_
  rintro e w1 ⟨ta, rfl, ht1⟩
  have hb1 := ht1.bel
  have HT1 := Lib.hid ht1.lookW
  have HSM1 := Lib.hid (HSM.out.below hb1)
  have HSL1 := Lib.hid (HSL.out.below hb1)
  have HB1 := Lib.hid hb1
  have hz1 := hb1.size
  clear ht1 hb1 HSM HSL
  go_wp2_with fail
  obtain ⟨Y, hY⟩ : ∃ Y, Y = w1.alloc (.cells #[.pointer (some ⟨ta, 0, none⟩)] 95) := ⟨_, rfl⟩
  have pa0 : Y.cell? ⟨w1.heap.size, 0, none⟩ = some (.pointer (some ⟨ta, 0, none⟩)) := by rw [hY]; simp
  have paY : w1.heap.size < Y.heap.size := by rw [hY]; simp
  have h1Y : Below w1.heap.size w1 Y := by rw [hY]; exact (Below.refl _ _).alloc (Nat.le_refl _) _
  rw [← hY]
  obtain ⟨pa, hpa⟩ : ∃ p, p = w1.heap.size := ⟨_, rfl⟩
  rw [← hpa] at pa0 paY ⊢
  have HTY := Lib.hid (HT1.out.below h1Y)
  have HMY := Lib.hid (HSM1.out.below h1Y)
  have HLY := Lib.hid (HSL1.out.below h1Y)
  have HBY := Lib.hid (HB1.out.trans (h1Y.mono hz1))
  have hzY := HBY.out.size
  clear hY h1Y hpa HT1 HSM1 HSL1 HB1 hz1
  refine (new_any b cb m M Y HMn.out HMY.out HM.out).mono ?_
  rintro e w2 ⟨tb, rfl, ht2⟩
  have hb2 := ht2.bel
  have HU2 := Lib.hid ht2.lookW
  have HT2 := Lib.hid (HTY.out.below hb2)
  have HM2 := Lib.hid (HMY.out.below hb2)
  have HL2 := Lib.hid (HLY.out.below hb2)
  have HB2 := Lib.hid (HBY.out.trans (hb2.mono hzY))
  have pa2 := (hb2.cell (p := ⟨pa, 0, none⟩) paY).trans pa0
  have hz2 := hb2.size
  have pl2 : pa < w2.heap.size := by omega
  clear ht2 hb2 HTY HMY HLY HBY pa0 paY hz2 hzY
  go_wp2_with fail
  obtain ⟨Z, hZ⟩ : ∃ Z, Z = ((w2.alloc (.cells #[.pointer (some ⟨tb, 0, none⟩)] 95)).alloc (.cells #[.bool false, .int .u64 0, .int .u64 0, .bool true, .int .u64 0, .int .u64 0] 28)).alloc (.cells #[.slice a n ca, .slice b m cb] 43) := ⟨_, rfl⟩
  have hw2Z : Below w2.heap.size w2 Z := by rw [hZ]; (repeat' (first | (with_reducible exact Below.refl _ _) | (with_reducible assumption) | (with_reducible refine Below.alloc ?_ ?_ _) | (with_reducible refine Below.drew ?_) | (with_reducible refine Below.stepG ?_ (by assumption) ?_) | (with_reducible refine Below.setCell ?_ ?_ _) | omega | (dsimp only; omega) | (simp; done) | (simp; omega)))
  have q0 : Z.cell? ⟨w2.heap.size, 0, none⟩ = some (.pointer (some ⟨tb, 0, none⟩)) := by
    rw [hZ]
    exact (Below.cell (p := ⟨w2.heap.size, 0, none⟩) (((Below.refl (w2.heap.size + 1) _).alloc (by simp) _).alloc (by simp) _) (Nat.lt_succ_self _)).trans (by simp)
  have s0 : Z.cell? ⟨w2.heap.size + 1 + 1, 0, none⟩ = some (.slice a n ca) := by rw [hZ]; exact cell_top (by simp) rfl
  have s1 : Z.cell? ⟨w2.heap.size + 1 + 1, 1, none⟩ = some (.slice b m cb) := by rw [hZ]; exact cell_top (by simp) rfl
  have zs : Z.heap.size = w2.heap.size + 1 + 1 + 1 := by rw [hZ]; simp
  have HLK0 : Wk.Own (w2.alloc (.cells #[.pointer (some ⟨tb, 0, none⟩)] 95)) (w2.heap.size + 1) 28 3 (.slice none 0 0) [] := Wk.Own.nil _ _ _ _
  have HOL : Wk.Own Z (w2.heap.size + 1) 28 3 (.slice (some ⟨w2.heap.size + 1, 0, none⟩) 2 2) (([(false, 0), (true, 0)] : List (Bool × Nat)).map prC) := by
    rw [hZ]
    refine Own.below (own_lits (W := w2.alloc (.cells #[.pointer (some ⟨tb, 0, none⟩)] 95)) (xs := ([(false, 0), (true, 0)] : List (Bool × Nat)).map prC) (by simp) (Nat.le_refl _) (fun c hc => ?_) (by simp [prC]; decide) rfl (by decide)) ((Below.refl _ _).alloc (Nat.le_refl _) _)
    simp only [List.map_cons, List.map_nil, List.mem_cons, List.not_mem_nil, or_false] at hc
    rcases hc with rfl | rfl <;> rfl
  rw [← hZ]
  clear hZ HLK0
  obtain ⟨pb, hpb⟩ : ∃ p, p = w2.heap.size := ⟨_, rfl⟩
  rw [← hpb] at q0 s0 s1 zs HOL hw2Z ⊢
  have PA := Lib.hid ((hw2Z.cell (p := ⟨pa, 0, none⟩) (by rw [hpb]; exact pl2)).trans pa2)
  have QB := Lib.hid q0
  have LA := Lib.hid (show pa < Z.heap.size by omega)
  have LB := Lib.hid (show pb < Z.heap.size by omega)
  have LAB := Lib.hid (show pa < pb + 1 by omega)
  have HTZ := Lib.hid (fun W (h : Below pb Z W) => HT2.out.below (show Below w2.heap.size w2 W from hpb ▸ (hw2Z.trans h)))
  have HUZ := Lib.hid (fun W (h : Below pb Z W) => HU2.out.below (show Below w2.heap.size w2 W from hpb ▸ (hw2Z.trans h)))
  have HMZ := Lib.hid (HM2.out.below (hpb ▸ hw2Z))
  have HLZ := Lib.hid (HL2.out.below (hpb ▸ hw2Z))
  have HBZ := Lib.hid (HB2.out.trans ((hpb ▸ hw2Z : Below w2.heap.size w2 Z).mono HB2.out.size))
  have zl : pb + 1 < Z.heap.size := by omega
  have HWP := Lib.hid (show w.heap.size ≤ pb by rw [hpb]; exact HB2.out.size)
  have CC := Lib.hid (show Calls Try.prog 60 #[.slice (some ⟨pb + 1 + 1, 0, none⟩) 2 2] Z (fun e w' => ∃ ac cc, e = .returned (.slice ac (L ++ M).length cc) ∧ Wk.Own w' Z.heap.size 49 5 (.slice ac (L ++ M).length cc) ((L ++ M).map routeCells) ∧ Below Z.heap.size Z w') from by
    have h := concatR_any (pb + 1 + 1) 2 [(a, ca, L), (b, cb, M)] Z (by omega) (lsR_two (by rw [← HN.out]; exact s0) (by rw [← HMn.out]; exact s1) (by rw [← HN.out]; exact HLZ.out) (by rw [← HMn.out]; exact HMZ.out) (by rw [← HN.out]; omega) (by rw [← HMn.out]; omega)) (by simp) (by rw [flatR_two, List.length_append, ← HN.out]; omega)
    rw [flatR_two] at h
    exact h)
  have HT60 := Lib.hid (show (L ++ M).length ≤ 120 by rw [List.length_append, ← HN.out, ← HMn.out]; omega)
  have HVP := Lib.hid (show ∀ x ∈ L ++ M, VP false x.1 x.2.1 from fun x hx => (List.mem_append.1 hx).elim (HL.out.vp x) (HM.out.vp x))
  generalize L ++ M = T at *
  have HOL0 := Lib.hid HOL
  have HQ1 := Lib.hid (show pb + 1 = pb + 1 from rfl)
  clear hw2Z q0 s0 s1 zs HOL HT2 HU2 HM2 HL2 HB2 pa2 pl2 hpb HLZ HMZ
  refine CC.out.mono ?_
  rintro e w4 ⟨ac, cc, rfl, ho4, hb4⟩
  obtain ⟨N, hN⟩ : ∃ N, N = T.length := ⟨_, rfl⟩
  rw [← hN] at ho4 ⊢
  have HNT := Lib.hid hN
  have hN120 : N ≤ 120 := by rw [hN]; exact HT60.out
  have HOL4 := Lib.hid (HOL0.out.below hb4)
  have HAP := Lib.hid (show Apart (.slice ac N cc) (.slice (some ⟨pb + 1, 0, none⟩) 2 2) from fun k hk e => by
    have := (ho4.lt k hk).1
    simp [Value.ownBlock] at e
    omega)
  have HOC4 := Lib.hid (ho4.base (Nat.le_of_lt zl))
  have HB4 := Lib.hid hb4
  have hz4 := hb4.size
  clear hN ho4 hb4 CC HOL0
  go_wp2_with fail
  go_loopw [9, 38] (fun v i wr => ∃ j : Nat, j ≤ N ∧ i = .int .i64 j ∧ (∃ ax cx xs, v = .slice ax xs.length cx ∧ Hid (xs = probes (T.take j)) ∧ Hid (Wk.Own wr (pb + 1) 28 3 (.slice ax xs.length cx) (xs.map prC)) ∧ Hid (Apart (.slice ac N cc) (.slice ax xs.length cx))) ∧ Hid (Wk.Own wr (pb + 1) 49 5 (.slice ac N cc) (T.map routeCells)) ∧ Hid (Below (pb + 1) w4 wr)) (fun _ i _ => N - (intOf i).toNat)
  case atStart => exact ⟨0, Nat.zero_le _, rfl, ⟨_, _, [(false, 0), (true, 0)], rfl, rfl, HOL4, HAP⟩, HOC4, Below.refl _ _⟩
  case round =>
    obtain ⟨j, hj, rfl, ⟨ax, cx, xs, rfl, HX, HO, HAp⟩, HOC, HB⟩ := hrel
    have hzr := HB.out.size
    by_cases hlt : j < N
    · obtain ⟨x, hx⟩ : ∃ s, T[j]? = some s := ⟨_, List.getElem?_eq_getElem (by rw [← HNT.out]; exact hlt)⟩
      obtain ⟨g, off, rfl, hg, d0, d1, d2, d3, d4⟩ := Sl.route HOC.out.sl (Below.refl _ _) hx
      have HXM := Lib.hid hx
      clear hx
      go_wp2_with (at_builtin; refine stop_at ?_; intro G hG)
      have hxl : xs.length ≤ 242 := by
        rw [HX.out]
        have h9 := probes_len (T.take j)
        rw [List.length_take] at h9
        omega
      obtain ⟨Y1, hY1⟩ : ∃ Y1, Y1 = (wr.alloc (.cells #[.bool false, .int .u64 (hiOf false x.1), .int .u64 (loOf x.1), .int .i64 x.2.1, .int .i64 x.2.2] 49)).alloc (.cells #[.bool false, .int .u64 (hiOf false x.1), .int .u64 (loOf x.1)] 28) := ⟨_, rfl⟩
      have hwY1 : Below wr.heap.size wr Y1 := by rw [hY1]; (repeat' (first | (with_reducible exact Below.refl _ _) | (with_reducible assumption) | (with_reducible refine Below.alloc ?_ ?_ _) | (with_reducible refine Below.drew ?_) | (with_reducible refine Below.stepG ?_ (by assumption) ?_) | (with_reducible refine Below.setCell ?_ ?_ _) | omega | (dsimp only; omega) | (simp; done) | (simp; omega)))
      have ys1 : Y1.heap.size = wr.heap.size + 1 + 1 := by rw [hY1]; simp
      have rr : ∀ (i : Nat) v, (#[.bool false, .int .u64 (hiOf false x.1), .int .u64 (loOf x.1), .int .i64 x.2.1, .int .i64 x.2.2] : Array Value)[i]? = some v → Y1.cell? ⟨wr.heap.size, i, none⟩ = some v := fun i v hv => by
        rw [hY1]
        exact (Below.cell (p := ⟨wr.heap.size, i, none⟩) ((Below.refl (wr.heap.size + 1) _).alloc (by simp) _) (Nat.lt_succ_self _)).trans (cell_top rfl hv)
      have HS1 : Sl Y1 3 (.slice (some ⟨wr.heap.size + 1, 0, none⟩) 1 1) (([(false, x.1)] : List (Bool × Nat)).map prC) := by
        rw [hY1]
        exact (own_lits (W := wr.alloc (.cells #[.bool false, .int .u64 (hiOf false x.1), .int .u64 (loOf x.1), .int .i64 x.2.1, .int .i64 x.2.2] 49)) (B := wr.heap.size + 1) (by simp) (Nat.le_refl _) (fun c hc => by simp at hc; subst hc; rfl) (by simp [prC]) rfl (by simp)).sl
      rw [← hG.out]
      clear hG G
      rw [← hY1]
      have HOY := Lib.hid (HO.out.below hwY1)
      have HOCY := Lib.hid (HOC.out.below hwY1)
      have hby : pb + 1 ≤ Y1.heap.size := by omega
      have hRr := own_behind HO.out (Nat.le_refl _)
      refine wpList_append_at rfl _ _ 112 28 3 24 _ rfl eiAd (pb + 1) (.slice ax xs.length cx) (xs.map prC) rfl HOY.out (.slice (some ⟨wr.heap.size + 1, 0, none⟩) 1 1) (([(false, x.1)] : List (Bool × Nat)).map prC) rfl HS1 (by intro c hc; obtain ⟨r, _, rfl⟩ := List.mem_map.1 hc; exact prC_one r) (by simp; omega) (by decide) hby (by simp) ?_
      intro v5 w5 ho5 hg5 hb5 hat5
      rw [← List.map_append] at ho5
      obtain ⟨xs5, hx5⟩ : ∃ X, X = xs ++ [(false, x.1)] := ⟨_, rfl⟩
      rw [← hx5] at ho5
      have HX5 := Lib.hid hx5
      have hl5 : xs5.length ≤ 243 := by rw [hx5, List.length_append]; simp; omega
      have HL5 := Lib.hid hl5
      have HAp5 := HAp.out.grown HOCY.out hat5
      have HOC5 := Lib.hid (HAp.out.keeps HOCY.out hg5)
      have hz5 := hg5.size
      have hRl : wr.heap.size < Y1.heap.size := by omega
      have r0 := (gcell hg5 (o := 0) hRl hRr).trans (rr 0 _ rfl)
      have r1 := (gcell hg5 (o := 1) hRl hRr).trans (rr 1 _ rfl)
      have r2 := (gcell hg5 (o := 2) hRl hRr).trans (rr 2 _ rfl)
      have r3 := (gcell hg5 (o := 3) hRl hRr).trans (rr 3 _ rfl)
      have HB5 := Lib.hid (HB.out.trans ((hwY1.mono (by omega)).trans hb5))
      have hR5 : wr.heap.size < w5.heap.size := by omega
      have hpb5 : pb + 1 ≤ w5.heap.size := by omega
      obtain ⟨a5, c5, rfl⟩ := ho5.shape
      rw [List.length_map] at ho5 HAp5 ⊢
      have HO5 := Lib.hid ho5
      have HAp5' := Lib.hid HAp5
      have HF := Lib.hid (HVP.out x (List.mem_of_getElem? HXM.out))
      obtain ⟨R, hR⟩ : ∃ R, R = wr.heap.size := ⟨_, rfl⟩
      rw [← hR] at r0 r1 r2 r3 hR5 ⊢
      clear hx5 ho5 hg5 hb5 hat5 HAp5 HOY HOCY HOC HO HAp rr HS1 hY1 hwY1 ys1 hby hRr hR hRl hl5 d0 d1 d2 d3 d4 hg hz5 hzr HB
      have LA2 := Lib.hid (fun W => last_any false x.1 x.2.1 W HF.out)
      go_wp2_with fail
      refine (LA2.out _).mono ?_
      rintro e w6 ⟨rfl, hb6⟩
      have HO6 := Lib.hid (HO5.out.below hb6)
      have HOC6 := Lib.hid (HOC5.out.below hb6)
      have HB6 := Lib.hid (HB5.out.trans (hb6.mono hpb5))
      have hz6 := hb6.size
      have hpb6 : pb + 1 ≤ w6.heap.size := by omega
      clear HO5 HOC5 HB5 hb6
      have HPR := Lib.hid (show probes (T.take (j + 1)) = probes (T.take j) ++ probe x by rw [List.take_add_one, HXM.out]; exact probes_snoc _ _)
      have HLF := Lib.hid (last_fits HF.out)
      have HXP : Hid (probe x = (false, x.1) :: (if lastN 32 x.1 x.2.1 + 1 < 2 ^ 32 then [(false, lastN 32 x.1 x.2.1 + 1)] else [])) := Lib.hid rfl
      have hwd : wd false = 32 := rfl
      rw [hwd] at HLF ⊢
      generalize lastN 32 x.1 x.2.1 = q at *
      have hq0 : q < 4294967296 := HLF.out
      clear r0 r1 r2 r3 hR5 LA2 hwd
      by_cases hq : q + 1 < 2 ^ 32
      · rw [if_pos hq] at HXP
        have hq1 : q + 1 < 4294967296 := by simpa using hq
        have PL := Lib.hid (fun W => plus_ok false q 1 W HLF.out (by decide) (by decide) (q + 1) (by omega) hq1)
        clear hq
        go_wp2_with fail
        refine (PL.out _).mono ?_
        rintro e w7 ⟨rfl, hb7⟩
        have HO7 := Lib.hid (HO6.out.below hb7)
        have HOC7 := Lib.hid (HOC6.out.below hb7)
        have HB7 := Lib.hid (HB6.out.trans (hb7.mono hpb6))
        have hz7 := hb7.size
        have hpb7 : pb + 1 ≤ w7.heap.size := by omega
        clear HO6 HOC6 HB6 hb7
        go_wp2_with (at_builtin; refine stop_at ?_; intro G hG)
        obtain ⟨Y2, hY2⟩ : ∃ Y2, Y2 = (w7.alloc (.cells #[.bool false, .int .u64 (hiOf false (q + 1)), .int .u64 (loOf (q + 1))] 28)).alloc (.cells #[.bool false, .int .u64 (hiOf false (q + 1)), .int .u64 (loOf (q + 1))] 28) := ⟨_, rfl⟩
        have hwY2 : Below w7.heap.size w7 Y2 := by rw [hY2]; (repeat' (first | (with_reducible exact Below.refl _ _) | (with_reducible assumption) | (with_reducible refine Below.alloc ?_ ?_ _) | (with_reducible refine Below.drew ?_) | (with_reducible refine Below.stepG ?_ (by assumption) ?_) | (with_reducible refine Below.setCell ?_ ?_ _) | omega | (dsimp only; omega) | (simp; done) | (simp; omega)))
        have ys2 : Y2.heap.size = w7.heap.size + 1 + 1 := by rw [hY2]; simp
        have HS2 : Sl Y2 3 (.slice (some ⟨w7.heap.size + 1, 0, none⟩) 1 1) (([(false, q + 1)] : List (Bool × Nat)).map prC) := by
          rw [hY2]
          exact (own_lits (W := w7.alloc (.cells #[.bool false, .int .u64 (hiOf false (q + 1)), .int .u64 (loOf (q + 1))] 28)) (B := w7.heap.size + 1) (by simp) (Nat.le_refl _) (fun c hc => by simp at hc; subst hc; rfl) (by simp [prC]) rfl (by simp)).sl
        rw [← hG.out]
        clear hG G
        rw [← hY2]
        have HOY := Lib.hid (HO7.out.below hwY2)
        have HOCY := Lib.hid (HOC7.out.below hwY2)
        have hby : pb + 1 ≤ Y2.heap.size := by omega
        have hl5 := HL5.out
        refine wpList_append_at rfl _ _ 112 28 3 24 _ rfl eiAd (pb + 1) (.slice a5 xs5.length c5) (xs5.map prC) rfl HOY.out (.slice (some ⟨w7.heap.size + 1, 0, none⟩) 1 1) (([(false, q + 1)] : List (Bool × Nat)).map prC) rfl HS2 (by intro c hc; obtain ⟨r, _, rfl⟩ := List.mem_map.1 hc; exact prC_one r) (by simp; omega) (by decide) hby (by simp) ?_
        intro v8 w8 ho8 hg8 hb8 hat8
        rw [← List.map_append] at ho8
        obtain ⟨xs8, hx8⟩ : ∃ X, X = xs5 ++ [(false, q + 1)] := ⟨_, rfl⟩
        rw [← hx8] at ho8
        have HAp8 := HAp5'.out.grown HOCY.out hat8
        have HOC8 := Lib.hid (HAp5'.out.keeps HOCY.out hg8)
        have HB8 := Lib.hid (HB7.out.trans ((hwY2.mono hpb7).trans hb8))
        have HXF := Lib.hid (show xs8 = probes (T.take (j + 1)) by rw [hx8, HPR.out, HXP.out, HX5.out, HX.out]; simp)
        obtain ⟨a8, c8, rfl⟩ := ho8.shape
        rw [List.length_map] at ho8 HAp8 ⊢
        have HO8 := Lib.hid ho8
        have HAp8' := Lib.hid HAp8
        clear HPR HXP HX5 HX PL HLF hx8 ho8 hg8 hb8 hat8 HAp8 HOY HOCY HOC7 HO7 HAp5' HS2 hY2 hwY2 ys2 hby hl5 HB7
        go_wp2
        go_roundw
        case rel => exact ⟨j + 1, by omega, by go_num, ⟨a8, c8, xs8, rfl, HXF, HO8, HAp8'⟩, HOC8, HB8⟩
        case measure => simp [intOf]; omega
      · rw [if_neg hq] at HXP
        have hq1 : 4294967296 ≤ q + 1 := by simpa using hq
        obtain ⟨H, L', PL⟩ := plus_bad false q 1 HLF.out (by decide) (by decide) (.inr (by show (4294967296 : Int) ≤ _; omega))
        clear hq
        go_wp2_with fail
        refine (PL.out _).mono ?_
        rintro e w7 ⟨rfl, hb7⟩
        have HO7 := Lib.hid (HO6.out.below hb7)
        have HOC7 := Lib.hid (HOC6.out.below hb7)
        have HB7 := Lib.hid (HB6.out.trans (hb7.mono hpb6))
        have hz7 := hb7.size
        have hpb7 : pb + 1 ≤ w7.heap.size := by omega
        clear HO6 HOC6 HB6 hb7
        have HXF := Lib.hid (show xs5 = probes (T.take (j + 1)) by rw [HPR.out, HXP.out, HX5.out, HX.out])
        clear HPR HXP HX5 HX PL HLF
        go_wp2_with fail
        go_roundw
        case rel => exact ⟨j + 1, by omega, by go_num, ⟨a5, c5, xs5, rfl, HXF, Lib.hid (HO7.out.alloc _), HAp5'⟩, Lib.hid (HOC7.out.alloc _), Lib.hid (HB7.out.alloc hpb7 _)⟩
        case measure => simp [intOf]; omega
    · obtain rfl : j = N := by omega
      have hxs : xs = probes T := by rw [HX.out, HNT.out, List.take_length]
      have hxl : xs.length ≤ 242 := by
        rw [hxs]
        have h9 := probes_len T
        have := HT60.out
        omega
      have hbZ := (HB4.out.mono (show pb ≤ Z.heap.size by omega)).trans (HB.out.mono (Nat.le_succ pb))
      have h4r := HB4.out.cell (p := ⟨pa, 0, none⟩) LA.out
      have h4q := HB4.out.cell (p := ⟨pb, 0, none⟩) LB.out
      have pa8 := (HB.out.cell (p := ⟨pa, 0, none⟩) LAB.out).trans (h4r.trans PA.out)
      have pb8 := (HB.out.cell (p := ⟨pb, 0, none⟩) (Nat.lt_succ_self _)).trans (h4q.trans QB.out)
      have h1 := LA.out
      have h2 := LB.out
      have CS := Lib.hid (containsS_any ax cx pa pb ta tb (putAll L) (putAll M) xs wr HO.out.sl (by omega) (fun x hx => (HO.out.lt x.block (by rw [hx]; rfl)).2) (by rw [hxs]; exact HPO.out) (HTZ.out wr hbZ) (HUZ.out wr hbZ) pa8 pb8 (by omega) (by omega))
      rw [hxs, HD.out] at CS
      have HF := Lib.hid (HBZ.out.trans (((HB4.out.mono HBZ.out.size).trans (HB.out.mono (show w.heap.size ≤ pb + 1 by have := HWP.out; omega)))))
      have hxs2 := Lib.hid (congrArg List.length hxs)
      rw [← hxs2.out] at CS
      clear hbZ h4r h4q pa8 pb8 h1 h2 HX HO HAp HOC HB hxs HTZ HUZ PA QB hxs2
      go_wp2_with fail
      refine CS.out.mono ?_
      rintro e w9 ⟨rfl, hb9⟩
      have HF9 := Lib.hid (HF.out.trans (hb9.mono HF.out.size))
      clear hb9 HF
      go_wp2
      go_returns
      exact ⟨by simp, HF9.out⟩
end Go.Proofs.Ytoecmoicaklbaaa

