
/- Shares: parts. -/
import Derived.Test.YticfcigkldkhmaaSh6
import Derived.Deep.OwnRows
import Derived.Laws.OwnMore
import Derived.Laws.EntriesVeiled
set_option linter.unusedVariables false
set_option linter.unusedSimpArgs false
namespace Go.Proofs.Yticfcigkldkhmaa
open Go Go.RowKit Go.Sort Wc Wk

/-- The boxes of parts: shares, many, all. -/
structure P3 (w wr : World) (a : Option Addr) (cap n many s : Nat) : Prop where
  bel : Below w.heap.size w wr
  size : w.heap.size + 3 ≤ wr.heap.size
  cl : wr.cell? ⟨w.heap.size, 0, none⟩ = some (.slice a n cap)
  cm : wr.cell? ⟨w.heap.size + 1, 0, none⟩ = some (.int .i64 many)
  ca : wr.cell? ⟨w.heap.size + 1 + 1, 0, none⟩ = some (.int .i64 s)
  fa : wr.frozen? ⟨w.heap.size + 1 + 1, 0, none⟩ = false

theorem P3.kept {w W W' : World} {a : Option Addr} {cap n many s g : Nat} (h : P3 w W a cap n many s) (hg : W.grownBy W' (some g)) (hne : w.heap.size + 3 ≤ g) : P3 w W' a cap n many s := by
  have hs := h.size
  have e2 : W'.frozen? ⟨w.heap.size + 1 + 1, 0, none⟩ = W.frozen? ⟨w.heap.size + 1 + 1, 0, none⟩ := hg.frozen_far ⟨w.heap.size + 1 + 1, 0, none⟩ (by dsimp only; omega) (fun e => by simp only [Option.some.injEq] at e; omega)
  exact ⟨h.bel.trans (Below.of_grown (v := .slice (some ⟨g, 0, none⟩) 0 0) hg (by omega) (fun k hk => by simp [Value.ownBlock] at hk; omega)), Nat.le_trans hs hg.size, (grown_cell hg (by omega) (by omega)).trans h.cl, (grown_cell hg (by omega) (by omega)).trans h.cm, (grown_cell hg (by omega) (by omega)).trans h.ca, e2.trans h.fa⟩
theorem P3.below {w W W' : World} {a : Option Addr} {cap n many s : Nat} (h : P3 w W a cap n many s) (hg : Below W.heap.size W W') : P3 w W' a cap n many s := h.kept (g := w.heap.size + 3) (grown_of_below hg _) (Nat.le_refl _)
theorem P3.add {w W : World} {a : Option Addr} {cap n many s : Nat} (h : P3 w W a cap n many s) (s' : Nat) : P3 w (W.setCell ⟨w.heap.size + 1 + 1, 0, none⟩ (.int .i64 s')) a cap n many s' := by
  have hs := h.size
  have hg := grown_set W (w.heap.size + 1 + 1) 0 (.int .i64 (s' : Nat))
  exact ⟨h.bel.setCell (by dsimp only; omega) _, Nat.le_trans hs hg.size, (grown_cell hg (by omega) (by omega)).trans h.cl, (grown_cell hg (by omega) (by omega)).trans h.cm, by
    have hca := h.ca
    simp [*, go_sem], by
    have hfa := h.fa
    simp [*, go_sem]⟩
theorem with_tail3 {A : Nat → Nat → World → Prop} {G : Prop} (T : Nat → Nat → World → Prop) (h : (∀ g r w, A g r w → T g r w) → G) (h2 : ∀ g r w, A g r w → T g r w) : G := h h2
theorem sum_snoc (l : List (Nat × Nat)) (m : Nat) (x : Nat × Nat) (h : l[m]? = some x) : ((l.take (m + 1)).map (·.2)).sum = ((l.take m).map (·.2)).sum + x.2 := by
  rw [List.take_add_one, h, List.map_append, List.sum_append]
  simp
theorem sum_take_le (l : List Nat) (m : Nat) : (l.take m).sum ≤ l.sum := by
  have := List.sum_append (l₁ := l.take m) (l₂ := l.drop m)
  rw [List.take_append_drop] at this
  omega
theorem step_arith {many x s k m : Nat} {bs : List Nat} (hmany : many ≤ 64) (hx : x ≤ 20) (hs1 : 1 ≤ s) (hs : s ≤ 320) (hbl : bs.length = m) (hk : k < m) (hb : bs.getD k 0 = many * x / s) (hbs : bs.sum ≤ many) :
    ∃ p q : Nat, wrap64 ((many : Int) * (x : Int)) = (p : Int) ∧ ((s : Int) == 0) = false ∧ ¬ (s : Int) = 0 ∧ (p : Int) / (s : Int) = (q : Int) ∧ wrap64 (q : Int) = (q : Int) ∧ bs.getD k 0 = q ∧ (bs.take (k + 1)).sum = (bs.take k).sum + q ∧
      wrap64 (((many - (bs.take k).sum : Nat) : Int) - (q : Int)) = ((many - (bs.take (k + 1)).sum : Nat) : Int) := by
  have hp2 : many * x ≤ 1280 := Nat.mul_le_mul hmany hx
  have hqp : many * x / s ≤ many * x := Nat.div_le_self _ _
  have est : (bs.take (k + 1)).sum = (bs.take k).sum + many * x / s := by
    have hkl : k < bs.length := by omega
    rw [List.take_succ_eq_append_getElem hkl, List.sum_append, ← getD_eq hkl, hb]; simp
  have hst : (bs.take (k + 1)).sum ≤ many := Nat.le_trans (sum_take_le bs (k + 1)) hbs
  have eP : (many : Int) * (x : Int) = ((many * x : Nat) : Int) := (Int.natCast_mul _ _).symm
  generalize hP : many * x = p at *
  generalize hQ : p / s = q at *
  refine ⟨p, q, ?_, by rw [beq_eq_false_iff_ne]; omega, by omega, by rw [← hQ]; exact (Int.natCast_ediv p s).symm, wrap64_in (by omega) (by omega), hb, est, ?_⟩
  · rw [eP, wrap64_in (by omega) (by omega)]
  · rw [wrap64_in (by omega) (by omega), est]; omega
theorem left_len (ws : List Nat) (many : Nat) (h : 0 < ws.sum) : leftN ws many ≤ ws.length := by
  obtain ⟨_, _, h3⟩ := left_le ws many h
  have := List.length_filter_le (fun i => decide (0 < awayF ws many i)) (List.range ws.length)
  simp at this
  omega
theorem bumps_snoc : ∀ (l base : List Nat) (i : Nat), bumps base (l ++ [i]) = (bumps base l).set i ((bumps base l).getD i 0 + 1)
  | [], base, i => rfl
  | j :: l, base, i => bumps_snoc l _ i
theorem getD_le_sum : ∀ (l : List Nat) (i : Nat), l.getD i 0 ≤ l.sum
  | [], i => by simp
  | x :: l, 0 => by simp
  | x :: l, i + 1 => by
    have := getD_le_sum l i
    simp only [List.getD_cons_succ, List.sum_cons]
    omega
theorem take_snoc (l : List Nat) {j : Nat} (h : j < l.length) : l.take (j + 1) = l.take j ++ [l.getD j 0] := by
  rw [List.take_succ_eq_append_getElem h, getD_eq h]
theorem list_ext {xs ys : List Nat} {m : Nat} (h1 : xs.length = m) (h2 : ys.length = m) (h : ∀ j, j < m → xs.getD j 0 = ys.getD j 0) : xs = ys := by
  apply List.ext_getElem (by omega)
  intro i hi1 hi2
  rw [← getD_eq hi1, ← getD_eq hi2]
  exact h i (by omega)
theorem flat_nC : ∀ n : Nat, ((List.replicate n 0).map nC).flatten = List.replicate n (.int .i64 0)
  | 0 => rfl
  | n + 1 => by
    rw [List.replicate_succ, List.replicate_succ, List.map_cons, List.flatten_cons, flat_nC n]
    rfl
theorem make_nat (n : Nat) (h : n ≤ 1000) : ∃ o : Obj, (∀ W : World, (Instr.makeSlice 44 (.int .i64 n) (.int .i64 n)).run Try.prog W = .ok (.slice (some ⟨W.heap.size, 0, none⟩) n n) (W.alloc o)) ∧
    Hid (∀ (W : World) (B : Nat), B ≤ W.heap.size → Wk.Own (W.alloc o) B 3 1 (.slice (some ⟨W.heap.size, 0, none⟩) n n) ((List.replicate n 0).map nC)) := by
  refine ⟨_, fun W => run_make_row' 44 3 (.int .i64 0) 8 (by kernel_rfl) (by kernel_rfl) rfl .i64 .i64 n (by omega) (by omega) W, fun W B hB => ⟨?_, ?_⟩⟩
  · intro c hc
    obtain ⟨x, _, rfl⟩ := List.mem_map.1 hc
    rfl
  · have := World.ownsRow_lit (e := 3) (size := 1) W (madeCells #[.int .i64 0] n) n hB (by unfold maxLen; omega) (by rw [size_madeCells]; omega)
    rw [toList_madeCells_one] at this
    rw [List.length_map, List.length_replicate, flat_nC]
    exact this


set_option maxHeartbeats 2000000 in
theorem parts_any (a : Option Addr) (cap n : Nat) (l : List (Nat × Nat)) (many : Nat) (w : World) (hn : n = l.length) (hs : Sl w 2 (.slice a n cap) (l.map shCells)) (hok : ShOk l) (hmany : many ≤ 64) :
    Calls Try.prog 63 #[.slice a n cap, .int .i64 many] w fun e w' => ∃ g cap', e = .returned (.slice (some ⟨g, 0, none⟩) n cap') ∧ Below w.heap.size w w' ∧ Wk.Own w' w.heap.size 3 1 (.slice (some ⟨g, 0, none⟩) n cap') ((partsL (l.map (·.2)) many).map nC) := by
  have HS := Lib.hid hs
  have HN := Lib.hid hn
  have HOK := Lib.hid hok
  have h1 := hs.lens.2.1
  have h2 := hs.lens.2.2
  have n1 : 1 ≤ n := by have := hok.one; omega
  have n2 : n ≤ 16 := by have := hok.len; omega
  have hsw := sum_wt hok.wt
  have hsw2 : (l.map (·.2)).sum ≤ 320 := by omega
  have hsw1 : 1 ≤ (l.map (·.2)).sum := by omega
  have hmin : (a : Option Addr) = a := rfl
  obtain ⟨ro, MK, MO⟩ := make_nat n (by omega)
  clear hs hn hok hsw hmin
  go_enter Try.func63, Try.ntmps63
  go_wp2_with fail
  go_loopw [18] (fun i wr => ∃ m : Nat, m ≤ n ∧ i = .int .i64 m ∧ Hid (P3 w wr a cap n many ((l.take m).map (·.2)).sum)) (fun i _ => n - (intOf i).toNat)
  case atStart =>
    refine ⟨0, Nat.zero_le _, by go_num, ?_, by simp, ?_, ?_, ?_, ?_⟩
    all_goals (first | (simp [*, go_sem]; done) | skip)
    exact Below.alloc (Below.alloc (Below.alloc (Below.refl _ _) (by omega) _) (by simp) _) (by simp; omega) _
  case round =>
    obtain ⟨m, hm, rfl, HP⟩ := hrel
    have hcl := HP.out.cl
    have hcm := HP.out.cm
    have hca := HP.out.ca
    have hfa := HP.out.fa
    have hsz := HP.out.size
    have lt0 : w.heap.size < wr.heap.size := by omega
    have lt1 : w.heap.size + 1 < wr.heap.size := by omega
    have lt2 : w.heap.size + 1 + 1 < wr.heap.size := by omega
    have ne3 : wr.heap.size ≠ w.heap.size + 1 + 1 := by omega
    have HB := Lib.hid HP.out.bel
    by_cases hlt : m < n
    · obtain ⟨x, hx⟩ : ∃ x, l[m]? = some x := ⟨_, List.getElem?_eq_getElem (by have := HN.out; omega)⟩
      obtain ⟨bl, off, rfl, hbl, d0, d1⟩ := Sl.share HS.out HB.out hx
      have HX := Lib.hid hx
      have ess := sum_snoc l m x hx
      have hle := sum_take_le (l.map (·.2)) (m + 1)
      rw [← List.map_take] at hle
      rw [ess] at hle
      have hmt : ((l.take m).map (·.2)) = (l.map (·.2)).take m := List.map_take
      rw [hmt] at hle hca ess
      have ew : wrap64 ((((l.map (·.2)).take m).sum : Nat) + (x.2 : Int)) = ((((l.map (·.2)).take m).sum + x.2 : Nat) : Int) := by rw [wrap64_in (by omega) (by omega)]; omega
      have ESS := Lib.hid ess
      clear ess hx hmt hle
      go_wp2_with fail
      go_roundw
      case rel =>
        refine ⟨m + 1, by omega, by go_num, ?_⟩
        show P3 _ _ _ _ _ _ _
        rw [ESS.out]
        have hP := (HP.out.add (((l.map (·.2)).take m).sum + x.2)).below (Below.alloc (Below.refl _ _) (Nat.le_refl _) (Obj.cells #[Value.int IntKind.i64 x.1, Value.int IntKind.i64 x.2] 73))
        rw [Int.natCast_add] at hP
        exact hP
      case measure => simp [intOf]; omega
    · obtain rfl : m = n := by omega
      go_wp2_with fail
      refine with_tail3 (A := fun go gr W => go ≠ gr ∧ w.heap.size + 3 ≤ go ∧ w.heap.size + 3 ≤ gr ∧ Below wr.heap.size wr W ∧ Wk.Own W w.heap.size 3 1 (.slice (some ⟨go, 0, none⟩) m m) ((List.replicate m 0).map nC) ∧ Wk.Own W w.heap.size 3 1 (.slice (some ⟨gr, 0, none⟩) m m) ((List.replicate m 0).map nC)) ?T ?one ?two
      case one =>
        have F1 := ((MO.out wr w.heap.size (by omega)).alloc ro).dr
        have F2 := MO.out (wr.alloc ro) w.heap.size (by rw [World.size_alloc]; omega)
        rw [World.size_alloc] at F2
        have F2 := F2.dr
        have F3 : Below wr.heap.size wr ((wr.alloc ro).alloc ro).drew := Below.drew (Below.alloc (Below.alloc (Below.refl _ _) (Nat.le_refl _) _) (by simp) _)
        have HF1 := Lib.hid F1
        have HF2 := Lib.hid F2
        have HF3 := Lib.hid F3
        clear F1 F2 F3
        intro tail
        go_big_region
        all_goals go_simp
        all_goals (
          obtain ⟨h1, hh1⟩ : ∃ h, h = wr.heap.size := ⟨_, rfl⟩
          obtain ⟨h2, hh2⟩ : ∃ h, h = wr.heap.size + 1 := ⟨_, rfl⟩
          obtain ⟨W, hW⟩ : ∃ W, W = ((wr.alloc ro).alloc ro).drew := ⟨_, rfl⟩
          rw [← hh2, ← hh1, ← hW]
          first
            | exact tail h1 h2 W ⟨by omega, by omega, by omega, by rw [hW]; exact HF3.out, by rw [hW, hh1]; exact HF1.out, by rw [hW, hh2]; exact HF2.out⟩
            | exact tail h2 h1 W ⟨by omega, by omega, by omega, by rw [hW]; exact HF3.out, by rw [hW, hh2]; exact HF2.out, by rw [hW, hh1]; exact HF1.out⟩)
      case two =>
        rintro go gr W ⟨hne, hg3, hr3, hbW, hog, hor⟩
        have HPW := Lib.hid (HP.out.below hbW)
        have hzW := hbW.size
        have HOG := Lib.hid hog
        have HOR := Lib.hid hor
        clear hcl hcm hca hfa hog hor MK MO HP hbW HB
        have gcl := HPW.out.cl
        have gcm := HPW.out.cm
        have hbase : ∀ k x, l[k]? = some x → (baseL (l.map (·.2)) many).getD k 0 = many * x.2 / (l.map (·.2)).sum := fun k x hx => by
          unfold baseL
          rw [List.getD_eq_getElem?_getD, List.getElem?_map, List.getElem?_map, hx]; rfl
        have hbl : (baseL (l.map (·.2)) many).length = m := by unfold baseL; rw [List.length_map, List.length_map]; exact HN.out.symm
        have hbs := (left_le (l.map (·.2)) many (by omega)).1
        have HBASE := Lib.hid hbase
        have HBL := Lib.hid hbl
        have HBS := Lib.hid hbs
        obtain ⟨s, hs⟩ : ∃ s, s = (l.map (·.2)).sum := ⟨_, rfl⟩
        obtain ⟨bs, hbsd⟩ : ∃ bs, bs = baseL (l.map (·.2)) many := ⟨_, rfl⟩
        have e1 : ((List.take m l).map (·.2)).sum = s := by rw [List.take_of_length_le (by have := HN.out; omega), hs]
        rw [e1] at HPW
        rw [← hs] at HBASE hsw1 hsw2
        rw [← hbsd] at HBASE HBL HBS
        have HSD := Lib.hid hs
        have HBSD := Lib.hid hbsd
        clear hs hbsd hbase hbl hbs e1
        go_wp2_with fail
        go_loopw [36, 10] (fun i lf wr2 => ∃ (k : Nat) (os rs : List Nat), k ≤ m ∧ i = .int .i64 k ∧ lf = .int .i64 (many - (bs.take k).sum : Nat) ∧ Hid (P3 w wr2 a cap m many s) ∧ Hid (Wk.Own wr2 w.heap.size 3 1 (.slice (some ⟨go, 0, none⟩) m m) (os.map nC)) ∧
          Hid (Wk.Own wr2 w.heap.size 3 1 (.slice (some ⟨gr, 0, none⟩) m m) (rs.map nC)) ∧ Hid (os.length = m ∧ rs.length = m ∧ ∀ j, j < k → os.getD j 0 = bs.getD j 0 ∧ rs.getD j 0 = j)) (fun i _ _ => m - (intOf i).toNat)
        case atStart => exact ⟨0, _, _, Nat.zero_le _, by go_num, by simp, HPW.out, HOG.out, HOR.out, by simp, by simp, fun j hj => absurd hj (Nat.not_lt_zero _)⟩
        case round =>
          clear gcl gcm HPW HOG HOR hzW lt0 lt1 lt2 ne3 hsz
          obtain ⟨k, os, rs, hk, rfl, rfl, HP, HOG, HOR, HL⟩ := hrel
          have hcl := HP.out.cl
          have hcm := HP.out.cm
          have hca := HP.out.ca
          have hsz := HP.out.size
          have lt0 : w.heap.size < wr.heap.size := by omega
          have lt1 : w.heap.size + 1 < wr.heap.size := by omega
          have lt2 : w.heap.size + 1 + 1 < wr.heap.size := by omega
          have hlo := HL.out.1
          have hlr := HL.out.2.1
          by_cases hlt : k < m
          · obtain ⟨x, hx⟩ : ∃ x, l[k]? = some x := ⟨_, List.getElem?_eq_getElem (by have := HN.out; omega)⟩
            have HB := Lib.hid HP.out.bel
            obtain ⟨bl, off, rfl, hbl, d0, d1⟩ := Sl.share HS.out HB.out hx
            have hbl2 : bl < wr.heap.size := by omega
            obtain ⟨c1, f1, lg⟩ := own_nat HOG.out (i := k) (by omega)
            obtain ⟨c2, f2, lr⟩ := own_nat HOR.out (i := k) (by omega)
            have hwx := HOK.out.wt x (List.mem_of_getElem? hx)
            have hb := HBASE.out k x hx
            obtain ⟨p, q, em, hs0b, hs0, et, eq2, hbk, est, el⟩ := step_arith hmany hwx.2 hsw1 hsw2 HBL.out hlt hb HBS.out
            have HEST := Lib.hid est
            have HBK := Lib.hid hbk
            clear hb est hbk hlo hlr hx hwx
            generalize many - (bs.take k).sum = lf at *
            obtain ⟨lf2, hlf2⟩ : ∃ z, z = many - (bs.take (k + 1)).sum := ⟨_, rfl⟩
            rw [← hlf2] at el
            have HLF := Lib.hid hlf2
            clear hlf2
            have gne : gr ≠ go := fun e => hne e.symm
            go_wp2_with fail
            go_roundw
            case rel =>
              have hlo := HL.out.1
              have hlr := HL.out.2.1
              refine ⟨k + 1, os.set k q, rs.set k k, by omega, by go_num, by rw [el, HLF.out], ?_, ?_, ?_, ?_⟩
              · exact ((HP.out.kept (grown_set wr go k (.int .i64 q)) hg3).kept (grown_set _ gr k (.int .i64 k)) hr3).below (Below.alloc (Below.refl _ _) (Nat.le_refl _) _)
              · exact (own_grown (own_set HOG.out (by omega) q) (grown_set _ gr k _) (by simp [Value.ownBlock]; omega)).alloc _
              · exact (own_set (own_grown HOR.out (grown_set wr go k _) (by simp [Value.ownBlock]; omega)) (by omega) k).alloc _
              · refine ⟨by rw [List.length_set]; exact hlo, by rw [List.length_set]; exact hlr, fun j hj => ?_⟩
                rw [getD_set, getD_set]
                by_cases hjk : j = k
                · subst hjk
                  rw [if_pos ⟨rfl, by omega⟩, if_pos ⟨rfl, by omega⟩]
                  exact ⟨HBK.out.symm, rfl⟩
                · rw [if_neg (fun h => hjk h.1), if_neg (fun h => hjk h.1)]
                  exact HL.out.2.2 j (by omega)
            case measure => simp [intOf]; omega
          · obtain rfl : k = m := by omega
            obtain ⟨x0, hx0⟩ : ∃ x, l[0]? = some x := ⟨_, List.getElem?_eq_getElem (by have := HN.out; omega)⟩
            obtain ⟨bl, off, rfl, hbl, _, _⟩ := Sl.share HS.out (Below.refl _ _) hx0
            have e1 : os = bs := list_ext hlo HBL.out (fun j hj => (HL.out.2.2 j hj).1)
            have e2 : rs = List.range k := list_ext hlr List.length_range (fun j hj => by rw [(HL.out.2.2 j hj).2, getD_eq (by simpa using hj)]; simp)
            rw [e1] at HOG
            rw [e2] at HOR
            clear hx0 e1 e2 hlo hlr HL
            have elf : many - (bs.take k).sum = leftN (l.map (·.2)) many := by
              have h1 := HBSD.out
              unfold leftN
              rw [List.take_of_length_le (by have := HBL.out; omega), h1]
            rw [elf]
            have hlf := left_len (l.map (·.2)) many (by have := HSD.out; omega)
            rw [List.length_map, ← HN.out] at hlf
            obtain ⟨lf, hlfd⟩ : ∃ lf, lf = leftN (l.map (·.2)) many := ⟨_, rfl⟩
            rw [← hlfd] at hlf ⊢
            have HLF := Lib.hid hlfd
            have SORT := Lib.hid (fun W (hW : Below wr.heap.size wr W) (lw : wr.heap.size < W.heap.size) cw => sort_any W w.heap.size gr (w.heap.size + 1) w.heap.size (w.heap.size + 1 + 1) wr.heap.size k (some ⟨bl, off, none⟩) cap k k l many (List.range k) HN.out HOK.out hmany (by rw [List.length_range]) n1 n2
              (fun x hx => by simpa using hx) (by
                have hP := HP.out.below hW
                have hz := hP.size
                exact ⟨by omega, by omega, by omega, by omega, by omega, by omega, hP.cm, hP.cl, by rw [← HSD.out]; exact hP.ca, HS.out.below hP.bel, fun x hx => by cases hx; show bl ≠ gr; omega⟩) lw (by have := (own_nat HOR.out (i := 0) (by rw [List.length_range]; omega)).2.2; omega) cw (HOR.out.below hW))
            clear hlfd elf
            go_wp2_with ((with_reducible refine (SORT.out _ (by (repeat' (first | (with_reducible exact Below.refl _ _) | (with_reducible assumption) | (with_reducible refine Below.alloc ?_ ?_ _) | (with_reducible refine Below.drew ?_) | (with_reducible refine Below.stepG ?_ (by assumption) ?_) | (with_reducible refine Below.setCell ?_ ?_ _) | omega | (dsimp only; omega) | (simp; done) | (simp; omega)))) (by simp) (by simp)).mono ?_); rintro e w5 ⟨rfl, hg5, ho5⟩)
            have eo : srt (awayF (l.map (·.2)) many) (List.range k) k = orderL (l.map (·.2)) many := by unfold orderL; rw [List.length_map, ← HN.out]
            rw [eo] at ho5
            have hP5 := (HP.out.below (Below.alloc (Below.refl _ _) (Nat.le_refl _) _)).kept hg5 hr3
            have hG5 := own_grown (HOG.out.alloc _) hg5 (by simp [Value.ownBlock]; omega)
            have hOL : (orderL (l.map (·.2)) many).length = k := by rw [order_len, List.length_map]; exact HN.out.symm
            have hOM : ∀ x ∈ orderL (l.map (·.2)) many, x < k := fun x hx => by
              have := (order_perm (l.map (·.2)) many).mem_iff.1 hx
              rw [List.length_map, ← HN.out] at this
              simpa using this
            have HPL := Lib.hid (show partsL (l.map (·.2)) many = bumps bs ((orderL (l.map (·.2)) many).take lf) by unfold partsL; rw [HBSD.out, HLF.out])
            clear eo SORT HLF
            generalize orderL (l.map (·.2)) many = ord at *
            have HB5 := Lib.hid hP5.bel
            have HG5 := Lib.hid hG5
            have HO5 := Lib.hid ho5
            have HOL := Lib.hid hOL
            have HOM := Lib.hid hOM
            clear hP5 hG5 ho5 hg5 hOL hOM HP HOG HOR hcl hcm hca hsz lt0 lt1 lt2
            go_loopw [69] (fun i wr => ∃ j : Nat, j ≤ lf ∧ i = .int .i64 j ∧ Hid (Below w.heap.size w wr) ∧ Hid (Wk.Own wr w.heap.size 3 1 (.slice (some ⟨go, 0, none⟩) k k) ((bumps bs (ord.take j)).map nC)) ∧ Hid (Wk.Own wr w.heap.size 3 1 (.slice (some ⟨gr, 0, none⟩) k k) (ord.map nC))) (fun i _ => lf - (intOf i).toNat)
            case atStart => exact ⟨0, Nat.zero_le _, by go_num, HB5.out, HG5.out, HO5.out⟩
            case round =>
              clear HB5 HG5 HO5
              obtain ⟨j, hj, rfl, HB, HG, HO⟩ := hrel
              have hol := HOL.out
              have hbl5 : (bumps bs (ord.take j)).length = k := by rw [bumps_len]; exact HBL.out
              by_cases hlt : j < lf
              · obtain ⟨c1, f1, lg⟩ := own_nat HO.out (i := j) (by omega)
                obtain ⟨o, ho⟩ : ∃ o, o = ord.getD j 0 := ⟨_, rfl⟩
                rw [← ho] at c1
                have hom : o < k := by rw [ho, getD_eq (by omega)]; exact HOM.out _ (List.getElem_mem _)
                obtain ⟨c2, f2, lo⟩ := own_nat HG.out (i := o) (by omega)
                have hbd : (bumps bs (ord.take j)).getD o 0 ≤ 80 := by
                  have h1 := getD_le_sum (bumps bs (ord.take j)) o
                  rw [bumps_sum _ _ (fun i hi => by rw [HBL.out]; exact HOM.out i (List.mem_of_mem_take hi)), List.length_take] at h1
                  have := HBS.out
                  omega
                obtain ⟨v, hv⟩ : ∃ v, v = (bumps bs (ord.take j)).getD o 0 := ⟨_, rfl⟩
                rw [← hv] at c2 hbd
                have HV := Lib.hid hv
                have HOO := Lib.hid ho
                clear hv ho hol hbl5
                go_wp2_with fail
                go_roundw
                case rel =>
                  have hol := HOL.out
                  have hbl5 : (bumps bs (ord.take j)).length = k := by rw [bumps_len]; exact HBL.out
                  have eb : bumps bs (ord.take (j + 1)) = (bumps bs (ord.take j)).set o (v + 1) := by
                    rw [take_snoc ord (by omega), bumps_snoc, ← HOO.out, ← HV.out]
                  have eC : ((v + 1 : Nat) : Int) = (v : Int) + 1 := by omega
                  refine ⟨j + 1, by omega, by go_num, ?_, ?_, ?_⟩
                  · exact HB.out.setCell (by dsimp only; omega) _
                  · show Wk.Own _ _ _ _ _ _
                    rw [eb, ← eC]
                    exact own_set HG.out (by omega) (v + 1)
                  · exact own_grown HO.out (grown_set wr go o _) (by simp [Value.ownBlock]; omega)
                case measure => simp [intOf]; omega
              · obtain rfl : j = lf := by omega
                go_wp2_with fail
                go_returns
                exact ⟨go, k, rfl, HB.out, by rw [HPL.out]; exact HG.out⟩
end Go.Proofs.Yticfcigkldkhmaa
