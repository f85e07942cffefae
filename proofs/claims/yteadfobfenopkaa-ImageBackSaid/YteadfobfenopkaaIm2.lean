
/- Contracts of package image: octet, save. -/
import Derived.Test.YteadfobfenopkaaIm1
import Derived.Test.YteadfobfenopkaaOTab
import Derived.Lib.SlBytesConst
import Derived.ArgAppend
set_option linter.unusedVariables false
set_option linter.unusedSimpArgs false
namespace Go.Proofs.Yteadfobfenopkaa
open Go Go.RowKit Go.Sort Wc Wk

def octN (n i : Nat) : Nat := n / 2 ^ (24 - 8 * i) % 256
theorem octN_lt (n i : Nat) : octN n i < 256 := Nat.mod_lt _ (by decide)
/-- A byte of an address. -/
theorem octet_any (n i : Nat) (w : World) (hf : Fits false n) (hi : i < 4) :
    Calls Try.prog 76 #[Value.agg #[.bool false, .int .u64 (hiOf false n), .int .u64 (loOf n)], .int .i64 i] w fun e w' => e = .returned (.int .u8 (octN n i)) ∧ Below w.heap.size w w' := by
  have hn : n < 4294967296 := by unfold Fits wd at hf; simpa using hf
  have hlo : loOf n = (n : Int) := by unfold loOf; omega
  rw [hlo]
  clear hf hlo
  unfold octN
  go_enter Try.func76, Try.ntmps76
  match i, hi with
  | 0, _ =>
    go_wp2_with fail
    go_returns
    exact ⟨by first | (simp; done) | (simp; omega), by (repeat' (first | (with_reducible exact Below.refl _ _) | (with_reducible assumption) | (with_reducible refine Below.al ?_ _) | (with_reducible refine Below.dr ?_) | (with_reducible refine Below.step ?_ (by assumption)) | (with_reducible refine Below.set ?_ ?_ _) | omega | (dsimp only; omega) | (simp; done) | (simp; omega)))⟩
  | 1, _ =>
    go_wp2_with fail
    go_returns
    exact ⟨by first | (simp; done) | (simp; omega), by (repeat' (first | (with_reducible exact Below.refl _ _) | (with_reducible assumption) | (with_reducible refine Below.al ?_ _) | (with_reducible refine Below.dr ?_) | (with_reducible refine Below.step ?_ (by assumption)) | (with_reducible refine Below.set ?_ ?_ _) | omega | (dsimp only; omega) | (simp; done) | (simp; omega)))⟩
  | 2, _ =>
    go_wp2_with fail
    go_returns
    exact ⟨by first | (simp; done) | (simp; omega), by (repeat' (first | (with_reducible exact Below.refl _ _) | (with_reducible assumption) | (with_reducible refine Below.al ?_ _) | (with_reducible refine Below.dr ?_) | (with_reducible refine Below.step ?_ (by assumption)) | (with_reducible refine Below.set ?_ ?_ _) | omega | (dsimp only; omega) | (simp; done) | (simp; omega)))⟩
  | 3, _ =>
    go_wp2_with fail
    go_returns
    exact ⟨by first | (simp; done) | (simp; omega), by (repeat' (first | (with_reducible exact Below.refl _ _) | (with_reducible assumption) | (with_reducible refine Below.al ?_ _) | (with_reducible refine Below.dr ?_) | (with_reducible refine Below.step ?_ (by assumption)) | (with_reducible refine Below.set ?_ ?_ _) | omega | (dsimp only; omega) | (simp; done) | (simp; omega)))⟩
/-- What a table is as bytes. -/
def wide8 (k : Nat) : Nat := (k + 7) / 8
theorem wide_div (k : Nat) : ((k : Int) + 7).tdiv 8 = ((wide8 k : Nat) : Int) ∧ ((k : Int) + 7) / 8 = ((wide8 k : Nat) : Int) ∧ (k ≤ 32 → wide8 k ≤ 4) := by
  unfold wide8
  refine ⟨?_, ?_, fun h => ?_⟩
  · rw [Int.tdiv_eq_ediv_of_nonneg (by omega)]; omega
  · omega
  · omega
theorem wide_wrap (k : Nat) (h : k ≤ 32) : wrap64 ((k : Int) + 7) = (k : Int) + 7 := wrap64_in (by omega) (by omega)
theorem u8_hi (h : Nat) : IntKind.u8.wrap ((h : Int) / 256) = ((h / 256 % 256 : Nat) : Int) := by rw [IntKind.wrap_u8]; omega
theorem u8_s24 (h : Nat) : IntKind.u8.wrap ((h : Int) / 16777216) = ((h / 16777216 % 256 : Nat) : Int) := by rw [IntKind.wrap_u8]; omega
theorem u8_s16 (h : Nat) : IntKind.u8.wrap ((h : Int) / 65536) = ((h / 65536 % 256 : Nat) : Int) := by rw [IntKind.wrap_u8]; omega
theorem u8_lo (h : Nat) : IntKind.u8.wrap (h : Int) = ((h % 256 : Nat) : Int) := by rw [IntKind.wrap_u8]; omega
def routeB (x : Nat × Nat × Nat) : List Nat := [0, x.2.1] ++ (List.range (wide8 x.2.1)).map (octN x.1) ++ [x.2.2 / 256 % 256, x.2.2 % 256]
def headB (L : List (Nat × Nat × Nat)) : List Nat := [87, 72, 49, L.length]
def bodyB (L : List (Nat × Nat × Nat)) : List Nat := (L.map routeB).flatten
def be4 (n : Nat) : List Nat := [n / 16777216 % 256, n / 65536 % 256, n / 256 % 256, n % 256]
def saveB (L : List (Nat × Nat × Nat)) : List Nat := headB L ++ bodyB L ++ be4 (sumV (headB L ++ bodyB L))
theorem bodyB_snoc {L : List (Nat × Nat × Nat)} {m : Nat} {x : Nat × Nat × Nat} (h : L[m]? = some x) : bodyB (L.take (m + 1)) = bodyB (L.take m) ++ routeB x := by
  unfold bodyB
  rw [List.take_add_one, h]
  simp
theorem routeB_len (x : Nat × Nat × Nat) : (routeB x).length = 4 + wide8 x.2.1 := by unfold routeB; simp; omega
theorem routeB_lt {x : Nat × Nat × Nat} (h : x.2.1 ≤ 32) : ∀ y ∈ routeB x, y < 256 := fun y hy => by
  unfold routeB at hy
  simp only [List.mem_append, List.mem_cons, List.not_mem_nil, or_false, List.mem_map] at hy
  rcases hy with ((rfl | rfl) | ⟨i, _, rfl⟩) | (rfl | rfl) <;> first | omega | exact octN_lt _ _ | exact Nat.mod_lt _ (by decide)
theorem headB_lt {L : List (Nat × Nat × Nat)} (h : L.length ≤ 60) : ∀ y ∈ headB L, y < 256 := fun y hy => by
  unfold headB at hy
  simp only [List.mem_cons, List.not_mem_nil, or_false] at hy
  omega
theorem be4_lt (n : Nat) : ∀ y ∈ be4 n, y < 256 := fun y hy => by
  unfold be4 at hy
  simp only [List.mem_cons, List.not_mem_nil, or_false] at hy
  omega
theorem bodyB_lt {L : List (Nat × Nat × Nat)} (h : ∀ x ∈ L, x.2.1 ≤ 32) : ∀ y ∈ bodyB L, y < 256 := fun y hy => by
  unfold bodyB at hy
  obtain ⟨l, hl, hy⟩ := List.mem_flatten.1 hy
  obtain ⟨x, hx, rfl⟩ := List.mem_map.1 hl
  exact routeB_lt (h x hx) y hy
theorem bodyB_le {L : List (Nat × Nat × Nat)} (h : ∀ x ∈ L, x.2.1 ≤ 32) : (bodyB L).length ≤ 8 * L.length := by
  induction L with
  | nil => exact Nat.zero_le _
  | cons x L ih =>
    have h1 := ih (fun y hy => h y (List.mem_cons_of_mem _ hy))
    have h2 := h x List.mem_cons_self
    have e : bodyB (x :: L) = routeB x ++ bodyB L := rfl
    rw [e, List.length_append, routeB_len, List.length_cons]
    unfold wide8
    omega
theorem cell_mark (w : World) (l : List Value) (cs2 : Array Value) (t1 t2 : TypeId) (fr : Nat × Nat) (j : Nat) : ((w.alloc (.cells l.toArray t1 fr)).alloc (.cells cs2 t2)).cell? ⟨w.heap.size, j, none⟩ = l[j]? := by
  have h : ((w.alloc (.cells l.toArray t1 fr)).alloc (.cells cs2 t2)).heap[w.heap.size]? = some (.cells l.toArray t1 fr) := by
    show ((w.heap.push _).push _)[w.heap.size]? = _
    rw [Array.getElem?_push, if_neg (by simp), Array.getElem?_push_size]
  unfold World.cell?
  simp [h]
theorem cell_last (w : World) (o : Obj) (l : List Value) (t2 : TypeId) (j : Nat) : ((w.alloc o).alloc (.cells l.toArray t2)).cell? ⟨w.heap.size + 1, j, none⟩ = l[j]? := by
  have h : ((w.alloc o).alloc (.cells l.toArray t2)).heap[w.heap.size + 1]? = some (.cells l.toArray t2) := by
    show ((w.heap.push _).push _)[w.heap.size + 1]? = _
    rw [← show (w.heap.push o).size = w.heap.size + 1 by simp, Array.getElem?_push_size]
  unfold World.cell?
  dsimp only
  rw [h]
  simp

set_option maxRecDepth 100000 in
set_option maxHeartbeats 8000000 in
theorem isave_any (a : Option Addr) (cap n : Nat) (L : List (Nat × Nat × Nat)) (w : World) (hn : n = L.length) (hs : Sl w 5 (.slice a n cap) (L.map routeCells)) (h60 : n ≤ 60) (hvp : ∀ x ∈ L, VP false x.1 x.2.1) (hh : ∀ x ∈ L, x.2.2 ≤ 999) :
    Calls Try.prog 55 #[.slice a n cap] w fun e w' => ∃ v, e = .returned v ∧ Wk.Own w' w.heap.size 5 1 v ((saveB L).map byteCells) ∧ Below w.heap.size w w' := by
  have HS := Lib.hid hs
  have HN := Lib.hid hn
  have HV := Lib.hid hvp
  have HH := Lib.hid hh
  have u1 := hs.lens.2.1
  have u2 := hs.lens.2.2
  clear hs hn hvp hh
  have kc := fun (w : World) (C : Array Value) (n c : Nat) => Lib.run_convert_bytes_const (P := Try.prog) w 64 5 C n c (by kernel_rfl) (by kernel_rfl)
  go_enter Try.func55, Try.ntmps55
  have ec : IntKind.u8.wrap (n : Int) = (n : Int) := by rw [IntKind.wrap_u8]; omega
  go_wp2_with (at_builtin; refine stop_at ?_; intro G hG)
  rw [← hG.out]; clear hG G
  obtain ⟨ti, hi0, hi1⟩ := Option.map_eq_some_iff.1 eiByte.2.1
  simp only [Prod.mk.injEq] at hi1
  obtain ⟨hz, hsize, hby⟩ := hi1
  refine wpList_append_grows _ rfl _ _ 64 rfl 5 ti (.int .u8 0) 1 1 (by kernel_rfl) hi0 hz hsize hby rfl (by decide) (some ⟨w.heap.size, 0, none⟩) 3 3 [.int .u8 87, .int .u8 72, .int .u8 49] rfl (by intro h; cases h) rfl ?_ ⟨w.heap.size + 1, 0, none⟩ 1 1 [.int .u8 n] (by first | rfl | simp) rfl ?_ (by intro u hu; simp at hu; subst hu; rfl) (by decide) (by decide) (by decide) ?_
  · intro b hb j u hu
    cases hb
    rw [addr_add_none, Nat.zero_add, cell_mark]
    exact hu
  · intro j u hu
    rw [addr_add_none, Nat.zero_add, cell_last]
    exact hu
  intro v1 w1 ho1 hg1
  have hown1 : Wk.Own w1 w.heap.size 5 1 v1 ((headB L).map byteCells) := by
    refine Own.base (C := ((w.alloc (.cells #[.int .u8 87, .int .u8 72, .int .u8 49] 5 (3, 4))).alloc (.cells #[.int .u8 n] 5)).heap.size) ⟨fun c hc => ?_, ?_⟩ (by simp; omega)
    · obtain ⟨j, _, rfl⟩ := List.mem_map.1 hc; rfl
    · have hh : headB L = [87, 72, 49, n] := by unfold headB; rw [← HN.out]
      rw [hh]
      exact ho1
  have hb1 : Below w.heap.size w w1 := (((Below.refl _ w).alloc (Nat.le_refl _) (.cells #[.int .u8 87, .int .u8 72, .int .u8 49] 5 (3, 4))).alloc (by simp) (.cells #[.int .u8 n] 5)).grown hg1 (by simp; omega) (fun k hk => by cases hk)
  have HO1 := Lib.hid hown1
  have HB1 := Lib.hid hb1
  clear ho1 hg1 hown1 hb1 hi0 hz hsize hby kc
  have HHL := Lib.hid (show (headB L).length = 4 from rfl)
  go_wp2_with fail
  go_loopw [3, 18] (fun v i wr => ∃ m : Nat, m ≤ n ∧ i = .int .i64 m ∧ Hid (Wk.Own wr w.heap.size 5 1 v ((headB L ++ bodyB (L.take m)).map byteCells)) ∧ Hid (Below w.heap.size w wr)) (fun _ i _ => n - (intOf i).toNat)
  case atStart => exact ⟨0, Nat.zero_le _, rfl, Lib.hid (by rw [List.take_zero]; show Wk.Own _ _ _ _ _ ((headB L ++ []).map byteCells); rw [List.append_nil]; exact HO1.out), HB1⟩
  case round =>
    obtain ⟨m, hm, rfl, HO, HB⟩ := hrel
    have hzr := HB.out.size
    by_cases hlt : m < n
    · obtain ⟨x, hx⟩ : ∃ x, L[m]? = some x := ⟨_, List.getElem?_eq_getElem (by have := HN.out; omega)⟩
      have hxm := List.mem_of_getElem? hx
      have hv := HV.out x hxm
      have hk32 : x.2.1 ≤ 32 := hv.2.1
      have hh999 := HH.out x hxm
      have HF := Lib.hid hv.1
      have HBS := Lib.hid (bodyB_snoc hx)
      have hbl := bodyB_le (L := L.take m) (fun y hy => (HV.out y (List.mem_of_mem_take hy)).2.1)
      rw [List.length_take] at hbl
      have hlen : (headB L ++ bodyB (L.take m)).length ≤ 1000 := by rw [List.length_append, HHL.out]; have := HN.out; omega
      have HLEN := Lib.hid hlen
      obtain ⟨b, off, rfl, hb, d0, d1, d2, d3, d4⟩ := Sl.route HS.out HB.out hx
      clear hbl hlen hx hxm hv
      obtain ⟨xn, xk, xh⟩ := x
      dsimp only at d0 d1 d2 d3 d4 hk32 hh999 HF HBS
      obtain ⟨P, hP⟩ : ∃ P, P = headB L ++ bodyB (L.take m) := ⟨_, rfl⟩
      rw [← hP] at HO HLEN
      have HPP := Lib.hid hP.symm
      clear hP
      have ek : IntKind.u8.wrap (xk : Int) = (xk : Int) := by rw [IntKind.wrap_u8]; omega
      go_upto_region 8 with fail
      have HOY := Lib.hid (HO.out.alloc (.cells #[.bool false, .int .u64 (hiOf false xn), .int .u64 (loOf xn), .int .i64 xk, .int .i64 xh] 53))
      have hRB : RB (wr.alloc (.cells #[.bool false, .int .u64 (hiOf false xn), .int .u64 (loOf xn), .int .i64 xk, .int .i64 xh] 53)) wr.heap.size (xn, xk, xh) := by
        show (wr.heap.push _)[wr.heap.size]? = _
        rw [Array.getElem?_push_size]
        rfl
      have HNR := Lib.hid (show ∀ k, u3.ownBlock = some k → k ≠ wr.heap.size from fun k hk e => by have := (HO.out.lt k hk).2; omega)
      have HBY := Lib.hid (HB.out.alloc hzr (.cells #[.bool false, .int .u64 (hiOf false xn), .int .u64 (loOf xn), .int .i64 xk, .int .i64 xh] 53))
      have hRY : wr.heap.size < (wr.alloc (.cells #[.bool false, .int .u64 (hiOf false xn), .int .u64 (loOf xn), .int .i64 xk, .int .i64 xh] 53)).heap.size := by simp
      obtain ⟨R, hR⟩ : ∃ R, R = wr.heap.size := ⟨_, rfl⟩
      rw [← hR] at hRB HNR hRY ⊢
      have HRW := Lib.hid (show w.heap.size ≤ R by omega)
      clear hR HO HB d0 d1 d2 d3 d4
      generalize wr.alloc (.cells #[.bool false, .int .u64 (hiOf false xn), .int .u64 (loOf xn), .int .i64 xk, .int .i64 xh] 53) = Y at *
      have HRB := Lib.hid hRB
      have g0 := hRB.cell (j := 0) rfl
      have g1 := hRB.cell (j := 1) rfl
      have g2 := hRB.cell (j := 2) rfl
      have g3 := hRB.cell (j := 3) rfl
      have g4 := hRB.cell (j := 4) rfl
      have hzY := HBY.out.size
      clear hRB hzr
      go_wp2_with (at_builtin; refine stop_at ?_; intro G hG)
      rw [← hG.out]; clear hG G
      refine wpList_append_at rfl _ _ 64 5 1 1 _ rfl eiByte w.heap.size _ (P.map byteCells) rfl (HOY.out.alloc _) _ ([0, xk].map byteCells) rfl (sl_many (n := 2) (xs := [0, xk].map byteCells) rfl (by intro c hc; obtain ⟨j, _, rfl⟩ := List.mem_map.1 hc; rfl) rfl rfl (by decide)) (by intro c hc; obtain ⟨r, _, rfl⟩ := List.mem_map.1 hc; exact byteCells_one r) (by have := HLEN.out; simp; omega) (by decide) (by simp; omega) (by simp) ?_
      intro vA w5 hoA hgA hbA hatA
      rw [← List.map_append] at hoA
      have HO5 := Lib.hid hoA
      have HB5 : Hid (Below w.heap.size w w5) := Lib.hid ((HBY.out.alloc hzY _).trans (hbA.mono (Nat.le_refl _)))
      have hRB5 : RB w5 R (xn, xk, xh) := (hgA.block R (by simp; omega) (fun e => HNR.out _ e.symm rfl)).trans (by show (Y.heap.push _)[R]? = _; rw [Array.getElem?_push_lt hRY]; have := HRB.out; unfold RB at this; rwa [Array.getElem?_eq_getElem hRY] at this)
      have HRB5 := Lib.hid hRB5
      have HNR5 := Lib.hid (show ∀ k, vA.ownBlock = some k → k ≠ R from fun k hk => by
        rcases hatA with g | g
        · rw [g] at hk; exact HNR.out k hk
        · rw [g] at hk
          cases hk
          exact fun e => by simp at e; omega)
      have hR5 : R < w5.heap.size := by have := hbA.size; simp at this; omega
      clear hoA hgA hbA hatA hRB5 g0 g1 g2 g3 g4 HOY HRB HNR HBY hzY hRY
      obtain ⟨Z, hZ⟩ : ∃ Z : World, Z = w5 := ⟨_, rfl⟩
      subst hZ
      have g0 := HRB5.out.cell (j := 0) rfl
      have g1 := HRB5.out.cell (j := 1) rfl
      have g2 := HRB5.out.cell (j := 2) rfl
      have g3 := HRB5.out.cell (j := 3) rfl
      have g4 := HRB5.out.cell (j := 4) rfl
      have hqq2 := (wide_div xk).2.1
      have hq4 := (wide_div xk).2.2
      replace hq4 := hq4 hk32
      obtain ⟨q, hq⟩ : ∃ q, q = wide8 xk := ⟨_, rfl⟩
      rw [← hq] at hqq2 hq4
      have HQ := Lib.hid hq
      clear hq
      go_wp2_with fail
      clear g0 g1 g2 g3 g4
      go_loopw [3, 39] (fun v i wr2 => ∃ j : Nat, j ≤ q ∧ i = .int .i64 j ∧ Hid (Wk.Own wr2 w.heap.size 5 1 v ((P ++ [0, xk] ++ (List.range j).map (octN xn)).map byteCells)) ∧ Hid (∀ k, v.ownBlock = some k → k ≠ R) ∧ Hid (RB wr2 R (xn, xk, xh)) ∧ R < wr2.heap.size ∧ Hid (Below w.heap.size w wr2)) (fun _ i _ => q - (intOf i).toNat)
      case atStart => exact ⟨0, Nat.zero_le _, rfl, Lib.hid (by rw [List.range_zero, List.map_nil, List.append_nil]; exact HO5.out), HNR5, HRB5, hR5, HB5⟩
      case round =>
        clear HO5 HNR5 HRB5 hR5 HB5
        obtain ⟨j, hj, rfl, HO, HNR, HRB, hR2, HB⟩ := hrel
        have hz2 := HB.out.size
        have g0 := HRB.out.cell (j := 0) rfl
        have g1 := HRB.out.cell (j := 1) rfl
        have g2 := HRB.out.cell (j := 2) rfl
        have g3 := HRB.out.cell (j := 3) rfl
        have g4 := HRB.out.cell (j := 4) rfl
        have hln : (P ++ [0, xk] ++ (List.range j).map (octN xn)).length ≤ 1100 := by have := HLEN.out; simp; omega
        have HLN := Lib.hid hln
        clear hln
        by_cases hlt2 : j < q
        · have OC := Lib.hid (fun W => octet_any xn j W HF.out (by omega))
          have HT := Lib.hid (show P ++ [0, xk] ++ (List.range (j + 1)).map (octN xn) = (P ++ [0, xk] ++ (List.range j).map (octN xn)) ++ [octN xn j] by rw [List.range_succ, List.map_append, ← List.append_assoc]; rfl)
          generalize octN xn j = o at *
          generalize P ++ [0, xk] ++ (List.range j).map (octN xn) = F at *
          go_wp2_with (first | ((with_reducible refine (OC.out _).mono ?_); rintro e w6 ⟨rfl, hb6⟩; have hz6 := hb6.size) | (at_builtin; refine wpList_append_at rfl _ _ 64 5 1 1 _ rfl eiByte w.heap.size _ (F.map byteCells) rfl ((HO.out.below hb6).alloc _) _ [byteCells o] rfl (sl_new (c := byteCells o) rfl rfl) (by intro c hc; simp at hc; subst hc; exact byteCells_one _) (by have := HLN.out; simp; omega) (by decide) (by simp; omega) (by simp) ?_; intro vC w7 hoC hgC hbC hatC; go_frame))
          have hBX : Below w.heap.size w w6 := HB.out.trans (hb6.mono hz2)
          have hzx := hBX.size
          have hR6 : R < w6.heap.size := Nat.lt_of_lt_of_le hR2 hb6.size
          have hRB6 : w6.heap[R]? = some (.cells (routeCells (xn, xk, xh)).toArray 53 (0, 0)) := (hb6.block R hR2).trans HRB.out
          have hO7 : Wk.Own w7 w.heap.size 5 1 vC ((P ++ [0, xk] ++ (List.range (j + 1)).map (octN xn)).map byteCells) := by rw [HT.out, List.map_append]; exact hoC
          have HO7 := Lib.hid hO7
          have HB7 : Hid (Below w.heap.size w w7) := Lib.hid ((hBX.alloc hzx _).trans (hbC.mono (Nat.le_refl _)))
          have hRB7 : RB w7 R (xn, xk, xh) := (hgC.block R (by simp; omega) (fun e => HNR.out _ e.symm rfl)).trans (by show (w6.heap.push _)[R]? = _; rw [Array.getElem?_push_lt hR6]; rwa [Array.getElem?_eq_getElem hR6] at hRB6)
          have HRB7 := Lib.hid hRB7
          have HNR7 := Lib.hid (show ∀ k, vC.ownBlock = some k → k ≠ R from fun k hk => by
            rcases hatC with g | g
            · rw [g] at hk; exact HNR.out k hk
            · rw [g] at hk
              cases hk
              exact fun e => by simp at e; omega)
          have hR7 : R < w7.heap.size := by have := hbC.size; simp at this; omega
          clear hO7 hoC hgC hbC hatC hRB7 hRB6 hBX hzx hb6
          go_roundw
          case rel => exact ⟨j + 1, by omega, by go_num, HO7, HNR7, HRB7, hR7, HB7⟩
          case measure => simp [intOf]; omega
        · obtain rfl : j = q := by omega
          have e1 := u8_hi xh
          have e2 := u8_lo xh
          have HT := Lib.hid (show headB L ++ bodyB (L.take (m + 1)) = (P ++ [0, xk] ++ (List.range j).map (octN xn)) ++ [xh / 256 % 256, xh % 256] by
            rw [HBS.out, ← List.append_assoc, HPP.out]
            unfold routeB
            dsimp only
            rw [← HQ.out]
            simp)
          have hp1 : xh / 256 % 256 < 256 := Nat.mod_lt _ (by decide)
          generalize P ++ [0, xk] ++ (List.range j).map (octN xn) = F at *
          generalize xh / 256 % 256 = p1 at *
          generalize xh % 256 = p2 at *
          go_wp2_with (at_builtin; refine wpList_append_at rfl _ _ 64 5 1 1 _ rfl eiByte w.heap.size _ (F.map byteCells) rfl (HO.out.alloc _) _ ([p1, p2].map byteCells) rfl (sl_many (n := 2) (xs := [p1, p2].map byteCells) rfl (by intro c hc; obtain ⟨j, _, rfl⟩ := List.mem_map.1 hc; rfl) rfl rfl (by decide)) (by intro c hc; obtain ⟨r, _, rfl⟩ := List.mem_map.1 hc; exact byteCells_one r) (by have := HLN.out; simp; omega) (by decide) (by simp; omega) (by simp) ?_; intro vC w7 hoC hgC hbC hatC; go_frame)
          have hO7 : Wk.Own w7 w.heap.size 5 1 vC ((headB L ++ bodyB (L.take (m + 1))).map byteCells) := by rw [HT.out, List.map_append]; exact hoC
          have HO7 := Lib.hid hO7
          have HB7 : Hid (Below w.heap.size w w7) := Lib.hid ((HB.out.alloc hz2 _).trans (hbC.mono (Nat.le_refl _)))
          clear hO7 hoC hgC hbC hatC
          go_roundw
          case rel => exact ⟨m + 1, by omega, by go_num, HO7, HB7⟩
          case measure => simp [intOf]; omega
    · obtain rfl : m = n := by omega
      have e1 : L.take m = L := List.take_of_length_le (by have := HN.out; omega)
      rw [e1] at HO
      have hbl := bodyB_le (L := L) (fun y hy => (HV.out y hy).2.1)
      have hlt256 : ∀ y ∈ headB L ++ bodyB L, y < 256 := fun y hy => by
        rcases List.mem_append.1 hy with g | g
        · exact headB_lt (by have := HN.out; omega) y g
        · exact bodyB_lt (fun z hz => (HV.out z hz).2.1) y g
      have HPL := Lib.hid (show (headB L ++ bodyB L).length ≤ 600 by rw [List.length_append, HHL.out]; have := HN.out; omega)
      have HSB := Lib.hid (show saveB L = (headB L ++ bodyB L) ++ be4 (sumV (headB L ++ bodyB L)) from rfl)
      have H256 := Lib.hid hlt256
      generalize headB L ++ bodyB L = P at *
      have ho := HO.out
      obtain ⟨va, vc, rfl⟩ := ho.shape
      rw [List.length_map] at ho ⊢
      have SM := Lib.hid (sum_any va vc P.length P wr rfl (by rw [List.length_map] at HO; exact ho.sl) H256.out)
      have HO2 := Lib.hid ho
      have e2 := u8_s24 (sumV P)
      have e3 := u8_s16 (sumV P)
      have e4 := u8_hi (sumV P)
      have e5 := u8_lo (sumV P)
      have HBE := Lib.hid (show be4 (sumV P) = [sumV P / 16777216 % 256, sumV P / 65536 % 256, sumV P / 256 % 256, sumV P % 256] from rfl)
      clear e1 hbl hlt256 ho HO hlt
      generalize sumV P / 16777216 % 256 = p1 at *
      generalize sumV P / 65536 % 256 = p2 at *
      generalize sumV P / 256 % 256 = p3 at *
      generalize sumV P % 256 = p4 at *
      generalize sumV P = V at *
      have hzr := HB.out.size
      go_wp2_with (first | ((with_reducible refine SM.out.mono ?_); rintro e w' ⟨rfl, rfl⟩) | (at_builtin; refine wpList_append_at rfl _ _ 64 5 1 1 _ rfl eiByte w.heap.size _ (P.map byteCells) rfl (HO2.out.alloc _) _ ([p1, p2, p3, p4].map byteCells) rfl (sl_many (n := 4) (xs := [p1, p2, p3, p4].map byteCells) rfl (by intro c hc; obtain ⟨j, _, rfl⟩ := List.mem_map.1 hc; rfl) rfl rfl (by decide)) (by intro c hc; obtain ⟨r, _, rfl⟩ := List.mem_map.1 hc; exact byteCells_one r) (by have := HPL.out; simp; omega) (by decide) (by simp; omega) (by simp) ?_; intro vC w7 hoC hgC hbC hatC; go_frame))
      have hO7 : Wk.Own w7 w.heap.size 5 1 vC ((saveB L).map byteCells) := by rw [HSB.out, HBE.out, List.map_append]; exact hoC
      have HO7 := Lib.hid hO7
      have HB7 : Hid (Below w.heap.size w w7) := Lib.hid ((HB.out.alloc hzr _).trans (hbC.mono (Nat.le_refl _)))
      clear hO7 hoC hgC hbC hatC
      go_wp2_with fail
      go_returns
      exact ⟨_, rfl, HO7.out, HB7.out⟩
/-- Save. -/
theorem iSave_any (a : Option Addr) (cap n : Nat) (l : List (Nat × Nat × Nat)) (w : World) (hn : n = l.length) (hs : Sl w 5 (.slice a n cap) (l.map routeCells)) (hok : RtOk l) (hP : TabOk (putAll l)) :
    Calls Try.prog 31 #[.slice a n cap] w fun e w' => ∃ v, e = .returned (.tuple #[v, .int .i64 0]) ∧ Wk.Own w' w.heap.size 5 1 v ((saveB (putAll l)).map byteCells) ∧ Below w.heap.size w w' := by
  have NW := Lib.hid (new_any a cap n l w hn hs hok)
  have HT := Lib.hid hP
  clear hn hs hok hP
  generalize putAll l = L at *
  go_enter Try.func31, Try.ntmps31
  go_wp2_with fail
  refine NW.out.mono ?_
  rintro e w1 ⟨tb, rfl, htab⟩
  have HTB := Lib.hid htab
  clear htab
  go_wp2_with fail
  refine (HTB.out.collect HT.out.len).mono ?_
  rintro e w2 ⟨v2, rfl, ho2, hb2⟩
  obtain ⟨ra, rc, rfl⟩ := ho2.shape
  rw [List.length_map] at ho2 ⊢
  have HR := Lib.hid ho2.sl
  have HB2 := Lib.hid (HTB.out.bel.trans (hb2.mono HTB.out.bel.size))
  clear ho2 hb2 HTB
  go_wp2_with fail
  refine (isave_any ra rc L.length L w2 rfl HR.out HT.out.len HT.out.vp HT.out.top).mono ?_
  rintro e w3 ⟨v3, rfl, ho3, hb3⟩
  have HO3 := Lib.hid (ho3.base HB2.out.size)
  have HB3 := Lib.hid (HB2.out.trans (hb3.mono HB2.out.size))
  clear ho3 hb3
  go_wp2_with fail
  go_returns
  exact ⟨_, rfl, HO3.out, HB3.out⟩
end Go.Proofs.Yteadfobfenopkaa
