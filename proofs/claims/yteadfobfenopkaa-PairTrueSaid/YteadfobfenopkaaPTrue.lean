
/- PairTrue: the walk. -/
import Derived.Test.YteadfobfenopkaaPrY
import Derived.Test.YteadfobfenopkaaPrV
import Derived.Test.YteadfobfenopkaaAp
import Derived.Test.YteadfobfenopkaaGoes
set_option linter.unusedVariables false
set_option linter.unusedSimpArgs false
namespace Go.Proofs.Yteadfobfenopkaa
open Go Go.RowKit Go.Sort Wc Wk

theorem run_act_takeT (g p n c : Nat) (h1 : p ≤ n) (h2 : n ≤ c) (h3 : c ≤ 9223372036854775807) (W : World) : (Instr.slice 28 (.slice (some ⟨g, 0, none⟩) n c) none (some (.int .i64 (p : Int))) none).run Try.prog W = .ok (.slice (some ⟨g, 0, none⟩) p c) W := by
  have h4 : p ≤ c := by omega
  have h5 : (0 : Int) ≤ p := by omega
  go_simp
set_option maxRecDepth 100000 in
theorem act_takeT {w : World} {B : Nat} {a : Option Addr} {n c : Nat} {xs : List ActD} (h : Wk.Own w B 35 9 (.slice a n c) (xs.map actCells)) (p : Nat) (hp : p ≤ n) :
    (∀ W : World, (Instr.slice 28 (.slice a n c) none (some (.int .i64 (p : Int))) none).run Try.prog W = .ok (.slice a p c) W) ∧ Sl w 9 (.slice a p c) ((xs.take p).map actCells) := by
  obtain ⟨hl, hc1, hc2⟩ := h.sl.lens
  rw [List.length_map] at hl
  refine ⟨fun W => ?_, by rw [List.map_take]; exact h.sl.take p (by rw [List.length_map]; omega)⟩
  rcases h.2.2 with ⟨hv, h0⟩ | ⟨g, cap, cur, hv, _⟩
  · simp only [Value.slice.injEq] at hv
    obtain ⟨rfl, rfl, rfl⟩ := hv
    obtain rfl : p = 0 := by omega
    first | rfl | kernel_rfl
  · simp only [Value.slice.injEq] at hv
    obtain ⟨rfl, _, rfl⟩ := hv
    exact run_act_takeT g p n c hp hc1 hc2 W
theorem grown_store (w : World) (b i : Nat) (v : Value) : w.grownBy (w.setCell ⟨b, i, none⟩ v) (some b) :=
  ⟨rfl, rfl, rfl, by simp [World.setCell], fun k _ hk => Below.heap_setCell _ _ _ _ (fun e => hk (by simp [e]))⟩
/-- Four values in a block of their own. -/
structure Bx (w : World) (G : Nat) (vs : Nat → Value) : Prop where
  lt : G < w.heap.size
  c : ∀ n, n < 4 → w.cell? ⟨G, n, none⟩ = some (vs n)
  fz : ∀ n, n < 4 → w.frozen? ⟨G, n, none⟩ = false
theorem Bx.kept {w w' : World} {G : Nat} {vs : Nat → Value} (h : Bx w G vs) (hs : w.heap.size ≤ w'.heap.size) (e : w'.heap[G]? = w.heap[G]?) : Bx w' G vs :=
  ⟨Nat.lt_of_lt_of_le h.lt hs, fun n hn => (World.cell?_of_block (a := ⟨G, n, none⟩) e).trans (h.c n hn), fun n hn => (World.frozen?_of_block (a := ⟨G, n, none⟩) e).trans (h.fz n hn)⟩
theorem Bx.below {w w' : World} {G : Nat} {vs : Nat → Value} (h : Bx w G vs) (hb : Below w.heap.size w w') : Bx w' G vs := h.kept hb.size (hb.block G h.lt)
theorem Bx.set {w : World} {G : Nat} {vs : Nat → Value} (h : Bx w G vs) {n : Nat} (hn : n < 4) (v : Value) : Bx (w.setCell ⟨G, n, none⟩ v) G (up vs n v) := by
  have s0 := chg_set w G n v
  refine ⟨Nat.lt_of_lt_of_le h.lt s0.size, fun m hm => ?_, fun m hm => (s0.froz _ _ h.lt).trans (h.fz m hm)⟩
  by_cases e : m = n
  · subst e
    rw [up_same]
    exact World.cell?_setCell_same _ _ _ (h.c m hm)
  · rw [up_other _ _ e]
    exact (s0.cell _ _ h.lt (fun g => e g.2)).trans (h.c m hm)
theorem Bx.other {w : World} {G : Nat} {vs : Nat → Value} (h : Bx w G vs) {A n : Nat} (hA : G ≠ A) (v : Value) : Bx (w.setCell ⟨A, n, none⟩ v) G vs := by
  have s0 := chg_set w A n v
  exact ⟨Nat.lt_of_lt_of_le h.lt s0.size, fun m hm => (s0.cell _ _ h.lt (fun g => hA g.1)).trans (h.c m hm), fun m hm => (s0.froz _ _ h.lt).trans (h.fz m hm)⟩
/-- The acts of the asks, and what each reader is to look up: slices of the call's own. -/
structure Lks (B G : Nat) (w : World) (va : Value) (vs : Nat → Value) (cl l : List AskD) : Prop where
  bx : Bx w G vs
  oa : Wk.Own w B 35 9 va ((wacts cl).map actCells)
  ol : ∀ n, n < 4 → Wk.Own w B 31 3 (vs n) ((looksL l n).map addrCells)
  aa : ∀ n, n < 4 → Apart va (vs n)
  al : ∀ n m, n < 4 → m < 4 → n ≠ m → Apart (vs n) (vs m)
  ga : ∀ k, va.ownBlock = some k → k ≠ G
  gl : ∀ n, n < 4 → ∀ k, (vs n).ownBlock = some k → k ≠ G
theorem Lks.below {B G : Nat} {w w' : World} {va : Value} {vs : Nat → Value} {cl l : List AskD} (h : Lks B G w va vs cl l) (hb : Below w.heap.size w w') : Lks B G w' va vs cl l :=
  ⟨h.bx.below hb, h.oa.below hb, fun n hn => (h.ol n hn).below hb, h.aa, h.al, h.ga, h.gl⟩
/-- An act more. -/
theorem Lks.act {B G : Nat} {w w' : World} {va v' : Value} {vs : Nat → Value} {l : List AskD} {x : AskD} (h : Lks B G w va vs l l) (hx : x.rd = false) (ho : Wk.Own w' B 35 9 v' ((wacts (l ++ [x])).map actCells)) (hg : w.grownBy w' va.ownBlock) (hat : v'.ownBlock = va.ownBlock ∨ v'.ownBlock = some w.heap.size) : Lks B G w' v' vs (l ++ [x]) (l ++ [x]) := by
  have e : ∀ n, looksL (l ++ [x]) n = looksL l n := fun n => by rw [looksL_snoc, if_neg (by rw [hx]; exact fun g => by cases g.1)]
  refine ⟨h.bx.kept hg.size (hg.block G h.bx.lt (fun e => h.ga _ e.symm rfl)), ho, fun n hn => by rw [e n]; exact ((h.aa n hn).symm).keeps (h.ol n hn) hg, fun n hn => (((h.aa n hn).symm).grown (h.ol n hn) hat).symm, h.al, fun k hk => ?_, h.gl⟩
  rcases hat with g | g
  · rw [g] at hk; exact h.ga k hk
  · rw [g] at hk
    cases hk
    exact fun e => by have := h.bx.lt; omega
/-- A look more: what it owns has grown, and is stored. -/
theorem Lks.look {B G : Nat} {w w' : World} {va v' : Value} {vs : Nat → Value} {l : List AskD} {x : AskD} (h : Lks B G w va vs l l) (hx : x.rd = true) (hn4 : x.n < 4) (ho : Wk.Own w' B 31 3 v' ((looksL l x.n).map addrCells ++ [addrCells x.ad])) (hg : w.grownBy w' (vs x.n).ownBlock) (hat : v'.ownBlock = (vs x.n).ownBlock ∨ v'.ownBlock = some w.heap.size) (hB : B ≤ G) : Lks B G (w'.setCell ⟨G, x.n, none⟩ v') va (up vs x.n v') (l ++ [x]) (l ++ [x]) := by
  have e1 : wacts (l ++ [x]) = wacts l := by rw [wacts_snoc, if_pos hx]
  have hb1 : Bx w' G vs := h.bx.kept hg.size (hg.block G h.bx.lt (fun e => h.gl _ hn4 _ e.symm rfl))
  have hv : ∀ k, v'.ownBlock = some k → k ≠ G := fun k hk => by
    rcases hat with g | g
    · rw [g] at hk; exact h.gl _ hn4 k hk
    · rw [g] at hk
      cases hk
      exact fun e => by have := h.bx.lt; omega
  have st : ∀ {e : TypeId} {sz : Nat} {u : Value} {xs : List (List Value)}, Wk.Own w' B e sz u xs → (∀ k, u.ownBlock = some k → k ≠ G) → Wk.Own (w'.setCell ⟨G, x.n, none⟩ v') B e sz u xs := fun ho hne => ho.kept (show w'.grownBy (w'.setCell ⟨G, x.n, none⟩ v') (Value.ownBlock (.slice (some ⟨G, 0, none⟩) 1 1)) from grown_store w' G x.n v') (fun _ he => hne G he rfl)
  refine ⟨hb1.set hn4 v', ?_, fun n hn => ?_, fun n hn => ?_, fun n m hn hm hne => ?_, h.ga, fun n hn k hk => ?_⟩
  · rw [e1]
    exact st ((h.aa _ hn4).keeps h.oa hg) h.ga
  · rw [looksL_snoc]
    by_cases e : n = x.n
    · rw [if_pos ⟨hx, e⟩, e, up_same, List.map_append]
      exact st ho hv
    · rw [if_neg (fun g => e g.2), up_other _ _ e]
      exact st ((h.al n x.n hn hn4 e).keeps (h.ol n hn) hg) (h.gl n hn)
  · by_cases e : n = x.n
    · rw [e, up_same]
      exact (h.aa _ hn4).grown h.oa hat
    · rw [up_other _ _ e]
      exact h.aa n hn
  · by_cases e : n = x.n
    · have e2 : m ≠ x.n := fun g => hne (e.trans g.symm)
      rw [e, up_same, up_other _ _ e2]
      exact ((h.al m x.n hm hn4 e2).grown (h.ol m hm) hat).symm
    · by_cases e2 : m = x.n
      · rw [e2, up_same, up_other _ _ e]
        exact (h.al n x.n hn hn4 e).grown (h.ol n hn) hat
      · rw [up_other _ _ e, up_other _ _ e2]
        exact h.al n m hn hm hne
  · by_cases e : n = x.n
    · rw [e, up_same] at hk
      exact hv k hk
    · rw [up_other _ _ e] at hk
      exact h.gl n hn k hk
theorem Lks.box {B G : Nat} {w w' : World} {va : Value} {vs : Nat → Value} {cl l : List AskD} (h : Lks B G w va vs cl l) {n : Nat} (hn : n < 4) (hg : w.grownBy w' (vs n).ownBlock) : Bx w' G vs :=
  h.bx.kept hg.size (hg.block G h.bx.lt (fun e => h.gl _ hn _ e.symm rfl))
theorem pasks_okR {al : List AskD} (h : (pasks al).ok 0) (n : Nat) : ∀ a ∈ looksL al n, Fits false a := h.rt n
def cntS (se : List SeenD) (i n : Nat) : Nat := ((se.take i).filter (fun y => y.rd == n)).length
theorem cntS_le (se : List SeenD) (i n : Nat) : cntS se i n ≤ i := by
  refine Nat.le_trans (List.length_filter_le _ _) ?_
  rw [List.length_take]
  exact Nat.min_le_left _ _
theorem cntS_succ {se : List SeenD} {i : Nat} {x : SeenD} (h : se[i]? = some x) : (fun n => Value.int .i64 ((cntS se (i + 1) n : Nat) : Int)) = up (fun n => Value.int .i64 ((cntS se i n : Nat) : Int)) x.rd (.int .i64 ((cntS se i x.rd + 1 : Nat) : Int)) := by
  funext n
  have e : cntS se (i + 1) n = cntS se i n + if x.rd == n then 1 else 0 := by
    unfold cntS
    rw [List.take_add_one, h]
    show ((se.take i ++ [x]).filter _).length = _
    rw [List.filter_append, List.length_append]
    congr 1
    by_cases g : (x.rd == n) = true
    · rw [if_pos g]; simp [g]
    · rw [if_neg g]; simp [g]
  by_cases g : n = x.rd
  · subst g
    rw [up_same, e, if_pos (by simp)]
  · rw [up_other _ _ g, e, if_neg (by simp; exact fun q => g q.symm), Nat.add_zero]

set_option maxRecDepth 100000 in
set_option maxHeartbeats 16000000 in
theorem pairTrue_walk (a0 : Option Addr) (len0 cap0 : Nat) (z0 : List RawJ) (a1 : Option Addr) (len1 cap1 : Nat) (z1 : List Int) (w : World) (h0 : IsJobs w a0 len0 cap0 z0) (h1 : IsRow .i64 w a1 len1 cap1 z1) :
    Calls Try.prog 16 #[.slice a0 len0 cap0, .slice a1 len1 cap1] w fun e w' => e = .returned (.bool true) ∧ Below w.heap.size w w' := by
  have H0 := Lib.hid h0
  have H1 := Lib.hid h1
  clear h0 h1
  go_enter Try.func16, Try.ntmps16
  go_wp2_with fail
  refine (asks_any a0 len0 cap0 z0 40 w H0.out (by decide)).mono ?_
  rintro e w1 ⟨v1, al, rfl, ho1, hok1, hl1, hb1⟩
  obtain ⟨aa, ac, rfl⟩ := ho1.shape
  rw [List.length_map] at ho1 ⊢
  have HA := Lib.hid ho1.sl
  have HOK := Lib.hid hok1
  have HW := Lib.hid hb1
  have ua := ho1.sl.lens.2.1
  have va := ho1.sl.lens.2.2
  clear ho1 hok1 hb1
  go_wp2_with fail
  refine (picks_any a1 len1 cap1 z1 200 w w1 H1.out HW.out (by decide)).mono ?_
  rintro e w2 ⟨v2, pl, rfl, ho2, hok2, hl2, hb2⟩
  obtain ⟨pa, pc, rfl⟩ := ho2.shape
  rw [List.length_map] at ho2 ⊢
  have HP := Lib.hid ho2.sl
  have HOP := Lib.hid hok2
  have ub := ho2.sl.lens.2.1
  have vb := ho2.sl.lens.2.2
  replace HA := Lib.hid (HA.out.below hb2)
  replace HW := Lib.hid (HW.out.trans (hb2.mono HW.out.size))
  clear ho2 hok2 hb2 H0 H1
  go_wp2_with fail
  refine (paired_any aa pa ac pc al pl w2 HA.out HP.out (by omega) (by omega) HOK.out HOP.out).mono ?_
  rintro e w3 ⟨v3, rfl, ho3, hb3⟩
  obtain ⟨sa, sc, rfl⟩ := ho3.shape
  rw [List.length_map] at ho3 ⊢
  have HS := Lib.hid ho3.sl
  replace HA := Lib.hid (HA.out.below hb3)
  replace HW := Lib.hid (HW.out.trans (hb3.mono HW.out.size))
  have us := ho3.sl.lens.2.1
  have vs := ho3.sl.lens.2.2
  have hns0 : (prun (pasks al) pl).se.length ≤ 200 := Nat.le_trans (by have := ((pasks_ok HOK.out).1.run pl).se; omega) hl2
  have HLAW := Lib.hid (fun k x (hx : (prun (pasks al) pl).se[k]? = some x) => true_law HOK.out HOP.out hx)
  have hleft := left_law HOK.out HOP.out
  clear ho3 hb3 HP
  obtain ⟨X, hX⟩ : ∃ X : World, X = w3 := ⟨_, rfl⟩
  subst hX
  obtain ⟨se, hse⟩ : ∃ se, se = (prun (pasks al) pl).se := ⟨_, rfl⟩
  rw [← hse] at HS HLAW us hns0 ⊢
  clear hse
  obtain ⟨ns, hns⟩ : ∃ n, n = se.length := ⟨_, rfl⟩
  rw [← hns] at HS us hns0 ⊢
  have HNS := Lib.hid hns
  clear hns
  obtain ⟨lf, hlf⟩ : ∃ n, n = (prun (pasks al) pl).wt.length := ⟨_, rfl⟩
  rw [← hlf] at hleft ⊢
  clear hlf
  have HLEFT := Lib.hid hleft
  clear hleft
  go_wp2_with fail
  have hG0 : (X.alloc (.cells #[.slice none 0 0, .slice none 0 0, .slice none 0 0, .slice none 0 0] 89)).heap.size = X.heap.size + 1 := by simp
  have HL0 : Hid (Lks X.heap.size X.heap.size (X.alloc (.cells #[.slice none 0 0, .slice none 0 0, .slice none 0 0, .slice none 0 0] 89)) (.slice none 0 0) (fun _ => .slice none 0 0) [] []) := Lib.hid ⟨⟨by simp, fun n hn => by
      rw [World.cell?_alloc_new]
      match n, hn with
      | 0, _ => rfl
      | 1, _ => rfl
      | 2, _ => rfl
      | 3, _ => rfl, fun n hn => by simp⟩, Wk.Own.nil _ _ _ _, fun n hn => Wk.Own.nil _ _ _ _, fun n hn => Apart.nil none _, fun n m _ _ _ => Apart.nil none _, fun k hk => (by simp [Value.ownBlock] at hk), fun n hn k hk => (by simp [Value.ownBlock] at hk)⟩
  have HBX0 : Hid (Below X.heap.size X (X.alloc (.cells #[.slice none 0 0, .slice none 0 0, .slice none 0 0, .slice none 0 0] 89))) := Lib.hid ((Below.refl _ _).alloc (Nat.le_refl _) _)
  generalize X.alloc (.cells #[.slice none 0 0, .slice none 0 0, .slice none 0 0, .slice none 0 0] 89) = W at *
  obtain ⟨G, hG⟩ : ∃ G, G = X.heap.size := ⟨_, rfl⟩
  have HGX := Lib.hid (show X.heap.size ≤ G by omega)
  have HL0' : Hid (Lks X.heap.size G W (.slice none 0 0) (fun _ => .slice none 0 0) [] []) := by rw [hG]; exact HL0
  rw [← hG]
  clear hG hG0 HL0
  go_loopw [9, 11] (fun va i wr => ∃ m : Nat, m ≤ al.length ∧ i = .int .i64 m ∧ (∃ vs, Hid (Lks X.heap.size G wr va vs (al.take m) (al.take m))) ∧ Hid (Below X.heap.size X wr)) (fun _ i _ => al.length - (intOf i).toNat)
  case atStart => exact ⟨0, Nat.zero_le _, rfl, ⟨_, HL0'⟩, HBX0⟩
  case round =>
    clear HL0' HBX0
    obtain ⟨m, hm, rfl, ⟨vs, HL⟩, HB⟩ := hrel
    have hzr := HB.out.size
    by_cases hlt : m < al.length
    · obtain ⟨x, hx⟩ : ∃ x, al[m]? = some x := ⟨_, List.getElem?_eq_getElem hlt⟩
      have hk := HOK.out x (List.mem_of_getElem? hx)
      have HT := Lib.hid (show al.take (m + 1) = al.take m ++ [x] by rw [List.take_add_one, hx]; rfl)
      have hwl := (pasks_len (al.take m)).2
      have hrl := (pasks_len (al.take m)).1 x.n
      rw [List.length_take] at hwl hrl
      have hwl2 : (wacts (al.take m)).length ≤ 40 := by unfold wacts; omega
      have hrl2 : (looksL (al.take m) x.n).length ≤ 40 := by unfold looksL; omega
      obtain ⟨b, off, rfl, hb, e0, e1, e2, e3, e4, e5, e6, e7, e8, e9, e10, e11, e12, e13⟩ := Sl.ask HA.out HB.out hx
      clear hwl hrl
      by_cases hr : x.rd = true
      · have hn4 : x.n < 4 := by
          rcases hk with h | h
          · exact h.2.1
          · rw [hr] at h; cases h.1
        have c1 : (askKind x == 2) = false := by unfold askKind; rw [if_pos hr]; rfl
        obtain ⟨b', off', hh, _, f0, f1, f2, f3, f4, _⟩ := Sl.ask HA.out (Below.refl _ _) hx
        cases hh
        have hcG := HL.out.bx.c x.n hn4
        have hfG := HL.out.bx.fz x.n hn4
        have hGl := HL.out.bx.lt
        have HLK := Lib.hid (fun (W1 : World) (hW : Below wr.heap.size wr W1) (w' : World) (v' : Value) ho hg hat => Lks.look (w' := w') (v' := v') (HL.out.below hW) hr hn4 ho hg hat HGX.out)
        have HBXC := Lib.hid (fun (W1 : World) (hW : Below wr.heap.size wr W1) (w' : World) hg => (HL.out.below hW).box (w' := w') hn4 hg)
        have HN4 := Lib.hid hn4
        have hOL := HL.out.ol x.n hn4
        obtain ⟨ll, hll⟩ : ∃ ll, ll = ((looksL (al.take m) x.n).map addrCells ++ [addrCells x.ad]).length := ⟨_, rfl⟩
        have HLLN := Lib.hid hll.symm
        clear hll
        have hbG : b < X.heap.size := hb
        have hGX := HGX.out
        have hi0 : (0 : Int) ≤ x.n := by omega
        have hi4 : (x.n : Int) < 4 := by omega
        clear hk hr hx e1 e2 e3 e4 e5 e6 e7 e8 e9 e10 e11 e12 e13
        go_upto_region 12 with fail
        have HGL := Lib.hid (HL.out.gl x.n hn4)
        have hBx := HB.out
        have hcG0 := hcG
        have hfG0 := hfG
        refine wp_region_held_drew (S := (fun w' => Below X.heap.size X w')) (by kernel_rfl) ?_ (fun hHeld => ?_)
        · ((try dsimp only); (repeat' (first | (with_reducible exact Below.refl _ _) | (with_reducible assumption) | (with_reducible refine Below.alloc ?_ ?_ _) | (with_reducible refine Below.drew ?_) | (with_reducible refine Below.stepG ?_ (by assumption) ?_) | (with_reducible refine Below.setCell ?_ ?_ _) | omega | (dsimp only; omega) | (simp; done) | (simp; omega))))
        (refine wpAnyH_take (i := 0) (oi := _) (v := ?_) (by simp only [List.getElem?_toArray, List.getElem?_cons_zero, List.getElem?_cons_succ]; rfl) (by kernel_rfl) (by decide +kernel) (by decide +kernel) (by exact fun _ _ _ h => h) (Or.inl ⟨by rfl, ?_⟩) (by assumption) ?_; rotate_left; (· ((intro w hSw); (have hSc := Below.cellAt hSw); clear hSw; go_simp; (try with_reducible rfl))); (try simp only [Act.put, List.setIfInBounds_toArray, List.set_cons_zero, List.set_cons_succ]))
        (refine wpAnyH_take (i := 1) (oi := _) (v := ?_) (by simp only [List.getElem?_toArray, List.getElem?_cons_zero, List.getElem?_cons_succ]; rfl) (by kernel_rfl) (by decide +kernel) (by decide +kernel) (by exact fun _ _ _ h => h) (Or.inl ⟨by rfl, ?_⟩) (by assumption) ?_; rotate_left; (· ((intro w hSw); (have hSc := Below.cellAt hSw); clear hSw; go_simp; (try with_reducible rfl))); (try simp only [Act.put, List.setIfInBounds_toArray, List.set_cons_zero, List.set_cons_succ]))
        (refine wpAnyH_take (i := 2) (oi := _) (v := ?_) (by simp only [List.getElem?_toArray, List.getElem?_cons_zero, List.getElem?_cons_succ]; rfl) (by kernel_rfl) (by decide +kernel) (by decide +kernel) (by exact fun _ _ _ h => h) (Or.inl ⟨by rfl, ?_⟩) (by assumption) ?_; rotate_left; (· ((intro w hSw); (have hSc := Below.cellAt hSw); clear hSw; go_simp; (try with_reducible rfl))); (try simp only [Act.put, List.setIfInBounds_toArray, List.set_cons_zero, List.set_cons_succ]))
        (refine wpAnyH_take (i := 3) (oi := _) (v := ?_) (by simp only [List.getElem?_toArray, List.getElem?_cons_zero, List.getElem?_cons_succ]; rfl) (by kernel_rfl) (by decide +kernel) (by decide +kernel) (by exact fun _ _ _ h => h) (Or.inl ⟨by rfl, ?_⟩) (by assumption) ?_; rotate_left; (· ((intro w hSw); (have hSc := Below.cellAt hSw); clear hSw; go_simp; (try with_reducible rfl))); (try simp only [Act.put, List.setIfInBounds_toArray, List.set_cons_zero, List.set_cons_succ]))
        (refine wpAnyH_take (i := 4) (oi := _) (v := ?_) (by simp only [List.getElem?_toArray, List.getElem?_cons_zero, List.getElem?_cons_succ]; rfl) (by kernel_rfl) (by decide +kernel) (by decide +kernel) (by exact fun _ _ _ h => h) (Or.inl ⟨by rfl, ?_⟩) (by assumption) ?_; rotate_left; (· ((intro w hSw); (have hSc := Below.cellAt hSw); clear hSw; go_simp; (try with_reducible rfl))); (try simp only [Act.put, List.setIfInBounds_toArray, List.set_cons_zero, List.set_cons_succ]))
        (refine wpAnyH_take (i := 5) (oi := _) (v := ?_) (by simp only [List.getElem?_toArray, List.getElem?_cons_zero, List.getElem?_cons_succ]; rfl) (by kernel_rfl) (by decide +kernel) (by decide +kernel) (by exact fun _ _ _ h => h) (Or.inl ⟨by rfl, ?_⟩) (by assumption) ?_; rotate_left; (· ((intro w hSw); (have hSc := Below.cellAt hSw); clear hSw; go_simp; (try with_reducible rfl))); (try simp only [Act.put, List.setIfInBounds_toArray, List.set_cons_zero, List.set_cons_succ]))
        (refine wpAnyH_take (i := 6) (oi := _) (v := ?_) (by simp only [List.getElem?_toArray, List.getElem?_cons_zero, List.getElem?_cons_succ]; rfl) (by kernel_rfl) (by decide +kernel) (by decide +kernel) (by exact fun _ _ _ h => h) (Or.inl ⟨by rfl, ?_⟩) (by assumption) ?_; rotate_left; (· ((intro w hSw); (have hSc := Below.cellAt hSw); clear hSw; go_simp; (try with_reducible rfl))); (try simp only [Act.put, List.setIfInBounds_toArray, List.set_cons_zero, List.set_cons_succ]))
        (refine wpAnyH_take (i := 7) (oi := _) (v := ?_) (by simp only [List.getElem?_toArray, List.getElem?_cons_zero, List.getElem?_cons_succ]; rfl) (by kernel_rfl) (by decide +kernel) (by decide +kernel) (by exact fun _ _ _ h => h) (Or.inl ⟨by rfl, ?_⟩) (by assumption) ?_; rotate_left; (· ((intro w hSw); (have hSc := Below.cellAt hSw); clear hSw; go_simp; (try with_reducible rfl))); (try simp only [Act.put, List.setIfInBounds_toArray, List.set_cons_zero, List.set_cons_succ]))
        (refine wpAnyH_take (i := 8) (oi := _) (v := ?_) (by simp only [List.getElem?_toArray, List.getElem?_cons_zero, List.getElem?_cons_succ]; rfl) (by kernel_rfl) (by decide +kernel) (by decide +kernel) (by exact fun _ _ _ h => h) (Or.inl ⟨by rfl, ?_⟩) (by assumption) ?_; rotate_left; (· ((intro w hSw); (have hSc := Below.cellAt hSw); clear hSw; go_simp; (try with_reducible rfl))); (try simp only [Act.put, List.setIfInBounds_toArray, List.set_cons_zero, List.set_cons_succ]))
        (refine wpAnyH_take (i := 9) (oi := _) (v := ?_) (by simp only [List.getElem?_toArray, List.getElem?_cons_zero, List.getElem?_cons_succ]; rfl) (by kernel_rfl) (by decide +kernel) (by decide +kernel) (by exact fun _ _ _ h => h) (Or.inl ⟨by rfl, ?_⟩) (by assumption) ?_; rotate_left; (· ((intro w hSw); (have hSc := Below.cellAt hSw); clear hSw; go_simp; (try with_reducible rfl))); (try simp only [Act.put, List.setIfInBounds_toArray, List.set_cons_zero, List.set_cons_succ]))
        (refine wpAnyH_take (i := 10) (oi := _) (v := ?_) (by simp only [List.getElem?_toArray, List.getElem?_cons_zero, List.getElem?_cons_succ]; rfl) (by kernel_rfl) (by decide +kernel) (by decide +kernel) (by exact fun _ _ _ h => h) (Or.inl ⟨by rfl, ?_⟩) (by assumption) ?_; rotate_left; (· ((intro w hSw); (have hSc := Below.cellAt hSw); clear hSw; go_simp; (try with_reducible rfl))); (try simp only [Act.put, List.setIfInBounds_toArray, List.set_cons_zero, List.set_cons_succ]))
        (refine wpAnyH_take (i := 12) (oi := _) (v := ?_) (by simp only [List.getElem?_toArray, List.getElem?_cons_zero, List.getElem?_cons_succ]; rfl) (by kernel_rfl) (by decide +kernel) (by decide +kernel) (by exact fun _ _ _ h => h) (Or.inl ⟨by rfl, ?_⟩) (by assumption) ?_; rotate_left; (· ((intro w hSw); (have hSc := Below.cellAt hSw); clear hSw; go_simp; (try with_reducible rfl))); (try simp only [Act.put, List.setIfInBounds_toArray, List.set_cons_zero, List.set_cons_succ]))
        (refine wpAnyH_take (i := 13) (oi := _) (v := ?_) (by simp only [List.getElem?_toArray, List.getElem?_cons_zero, List.getElem?_cons_succ]; rfl) (by kernel_rfl) (by decide +kernel) (by decide +kernel) (by exact fun _ _ _ h => h) (Or.inl ⟨by rfl, ?_⟩) (by assumption) ?_; rotate_left; (· ((intro w hSw); (have hSc := Below.cellAt hSw); clear hSw; go_simp; (try with_reducible rfl))); (try simp only [Act.put, List.setIfInBounds_toArray, List.set_cons_zero, List.set_cons_succ]))
        (refine wpAnyH_take (i := 14) (oi := _) (v := ?_) (by simp only [List.getElem?_toArray, List.getElem?_cons_zero, List.getElem?_cons_succ]; rfl) (by kernel_rfl) (by decide +kernel) (by decide +kernel) (by exact fun _ _ _ h => h) (Or.inl ⟨by rfl, ?_⟩) (by assumption) ?_; rotate_left; (· ((intro w hSw); (have hSc := Below.cellAt hSw); clear hSw; go_simp; (try with_reducible rfl))); (try simp only [Act.put, List.setIfInBounds_toArray, List.set_cons_zero, List.set_cons_succ]))
        (refine wpAnyH_take (i := 15) (oi := _) (v := ?_) (by simp only [List.getElem?_toArray, List.getElem?_cons_zero, List.getElem?_cons_succ]; rfl) (by kernel_rfl) (by decide +kernel) (by decide +kernel) (by exact fun _ _ _ h => h) (Or.inl ⟨by rfl, ?_⟩) (by assumption) ?_; rotate_left; (· ((intro w hSw); (have hSc := Below.cellAt hSw); clear hSw; go_simp; (try with_reducible rfl))); (try simp only [Act.put, List.setIfInBounds_toArray, List.set_cons_zero, List.set_cons_succ]))
        (refine wpAnyH_take (i := 16) (oi := _) (v := ?_) (by simp only [List.getElem?_toArray, List.getElem?_cons_zero, List.getElem?_cons_succ]; rfl) (by kernel_rfl) (by decide +kernel) (by decide +kernel) (by exact fun _ _ _ h => h) (Or.inl ⟨by rfl, ?_⟩) (by assumption) ?_; rotate_left; (· ((intro w hSw); (have hSc := Below.cellAt hSw); clear hSw; go_simp; (try with_reducible rfl))); (try simp only [Act.put, List.setIfInBounds_toArray, List.set_cons_zero, List.set_cons_succ]))
        repeat' (first
          | (refine wpAnyH_take (i := 19) (oi := _) (v := ?_) (by simp only [List.getElem?_toArray, List.getElem?_cons_zero, List.getElem?_cons_succ]; rfl) (by kernel_rfl) (by decide +kernel) (by decide +kernel) (by exact fun _ _ _ h => h) (Or.inl ⟨by rfl, ?_⟩) (by assumption) ?_; rotate_left; (· ((intro w hSw); (have hSc := Below.cellAt hSw); clear hSw; go_simp; (try with_reducible rfl))); (try simp only [Act.put, List.setIfInBounds_toArray, List.set_cons_zero, List.set_cons_succ]))
          | (refine wpAnyH_ready (rs := [11, 17]) (by decide +kernel) (by simp) (AllReadyH.cons (by simp only [List.getElem?_toArray, List.getElem?_cons_zero, List.getElem?_cons_succ]; rfl) (fun K hK => ?_) (AllReadyH.cons (by simp only [List.getElem?_toArray, List.getElem?_cons_zero, List.getElem?_cons_succ]; rfl) (fun K hK => ?_) AllReadyH.nil)); all_goals ((first | (refine step_append_at rfl (.tmp 60) (.tmp 66) 88 31 3 24 _ rfl eiAddr X.heap.size (vs x.n) ((looksL (al.take m) x.n).map addrCells) rfl ((hOL.dr).alloc _) (.slice (some ⟨_, 0, none⟩) 1 1) [addrCells x.ad] rfl (sl_new (c := addrCells x.ad) (by first | rfl | simp) rfl) (by intro c hc; simp at hc; subst hc; exact addrCells_one _) (by simp; omega) (by decide) (by simp; omega) (by simp) ?_; intro vC wC hownC hgC hbC hatC; have hLKC := HLK.out _ (by (repeat' (first | (with_reducible exact Below.refl _ _) | (with_reducible assumption) | (with_reducible refine Below.alloc ?_ ?_ _) | (with_reducible refine Below.drew ?_) | (with_reducible refine Below.stepG ?_ (by assumption) ?_) | (with_reducible refine Below.setCell ?_ ?_ _) | omega | (dsimp only; omega) | (simp; done) | (simp; omega)))) wC vC hownC hgC hatC; have hsC := hbC.size; (try simp at hsC); have hbxC := HBXC.out _ (by (repeat' (first | (with_reducible exact Below.refl _ _) | (with_reducible assumption) | (with_reducible refine Below.alloc ?_ ?_ _) | (with_reducible refine Below.drew ?_) | (with_reducible refine Below.stepG ?_ (by assumption) ?_) | (with_reducible refine Below.setCell ?_ ?_ _) | omega | (dsimp only; omega) | (simp; done) | (simp; omega)))) wC hgC; have cC := hbxC.c x.n HN4.out; have fC := hbxC.fz x.n HN4.out; have lC := hbxC.lt; clear hbxC; obtain ⟨aC, capC, hshC⟩ := hownC.shape; rw [HLLN.out] at hshC; subst hshC) | (refine step_append_at rfl (.tmp 60) (.tmp 66) 88 31 3 24 _ rfl eiAddr X.heap.size (vs x.n) ((looksL (al.take m) x.n).map addrCells) rfl ((hOL.alloc _).dr) (.slice (some ⟨_, 0, none⟩) 1 1) [addrCells x.ad] rfl (Sl.below (sl_new (c := addrCells x.ad) (by first | rfl | simp) rfl) (below_drewN (Below.refl _ _) 1)) (by intro c hc; simp at hc; subst hc; exact addrCells_one _) (by simp; omega) (by decide) (by simp; omega) (by simp) ?_; intro vC wC hownC hgC hbC hatC; have hLKC := HLK.out _ (by (repeat' (first | (with_reducible exact Below.refl _ _) | (with_reducible assumption) | (with_reducible refine Below.alloc ?_ ?_ _) | (with_reducible refine Below.drew ?_) | (with_reducible refine Below.stepG ?_ (by assumption) ?_) | (with_reducible refine Below.setCell ?_ ?_ _) | omega | (dsimp only; omega) | (simp; done) | (simp; omega)))) wC vC hownC hgC hatC; have hsC := hbC.size; (try simp at hsC); have hbxC := HBXC.out _ (by (repeat' (first | (with_reducible exact Below.refl _ _) | (with_reducible assumption) | (with_reducible refine Below.alloc ?_ ?_ _) | (with_reducible refine Below.drew ?_) | (with_reducible refine Below.stepG ?_ (by assumption) ?_) | (with_reducible refine Below.setCell ?_ ?_ _) | omega | (dsimp only; omega) | (simp; done) | (simp; omega)))) wC hgC; have cC := hbxC.c x.n HN4.out; have fC := hbxC.fz x.n HN4.out; have lC := hbxC.lt; clear hbxC; obtain ⟨aC, capC, hshC⟩ := hownC.shape; rw [HLLN.out] at hshC; subst hshC) | (go_simp; (first | fail | skip))); (refine hK.out _ _ ?_ (fun hHeld => ?_)); (· ((try dsimp only); (repeat' (first | (with_reducible exact Below.refl _ _) | (with_reducible assumption) | (with_reducible refine Below.alloc ?_ ?_ _) | (with_reducible refine Below.drew ?_) | (with_reducible refine Below.stepG ?_ (by assumption) ?_) | (with_reducible refine Below.setCell ?_ ?_ _) | omega | (dsimp only; omega) | (simp; done) | (simp; omega))))); (clear hK K; (try simp only [Act.put, List.setIfInBounds_toArray, List.set_cons_zero, List.set_cons_succ]))))
          | (refine wpAnyH_ready (rs := [11]) (by decide +kernel) (by simp) (AllReadyH.cons (by simp only [List.getElem?_toArray, List.getElem?_cons_zero, List.getElem?_cons_succ]; rfl) (fun K hK => ?_) AllReadyH.nil); all_goals ((first | (refine step_append_at rfl (.tmp 60) (.tmp 66) 88 31 3 24 _ rfl eiAddr X.heap.size (vs x.n) ((looksL (al.take m) x.n).map addrCells) rfl ((hOL.dr).alloc _) (.slice (some ⟨_, 0, none⟩) 1 1) [addrCells x.ad] rfl (sl_new (c := addrCells x.ad) (by first | rfl | simp) rfl) (by intro c hc; simp at hc; subst hc; exact addrCells_one _) (by simp; omega) (by decide) (by simp; omega) (by simp) ?_; intro vC wC hownC hgC hbC hatC; have hLKC := HLK.out _ (by (repeat' (first | (with_reducible exact Below.refl _ _) | (with_reducible assumption) | (with_reducible refine Below.alloc ?_ ?_ _) | (with_reducible refine Below.drew ?_) | (with_reducible refine Below.stepG ?_ (by assumption) ?_) | (with_reducible refine Below.setCell ?_ ?_ _) | omega | (dsimp only; omega) | (simp; done) | (simp; omega)))) wC vC hownC hgC hatC; have hsC := hbC.size; (try simp at hsC); have hbxC := HBXC.out _ (by (repeat' (first | (with_reducible exact Below.refl _ _) | (with_reducible assumption) | (with_reducible refine Below.alloc ?_ ?_ _) | (with_reducible refine Below.drew ?_) | (with_reducible refine Below.stepG ?_ (by assumption) ?_) | (with_reducible refine Below.setCell ?_ ?_ _) | omega | (dsimp only; omega) | (simp; done) | (simp; omega)))) wC hgC; have cC := hbxC.c x.n HN4.out; have fC := hbxC.fz x.n HN4.out; have lC := hbxC.lt; clear hbxC; obtain ⟨aC, capC, hshC⟩ := hownC.shape; rw [HLLN.out] at hshC; subst hshC) | (refine step_append_at rfl (.tmp 60) (.tmp 66) 88 31 3 24 _ rfl eiAddr X.heap.size (vs x.n) ((looksL (al.take m) x.n).map addrCells) rfl ((hOL.alloc _).dr) (.slice (some ⟨_, 0, none⟩) 1 1) [addrCells x.ad] rfl (Sl.below (sl_new (c := addrCells x.ad) (by first | rfl | simp) rfl) (below_drewN (Below.refl _ _) 1)) (by intro c hc; simp at hc; subst hc; exact addrCells_one _) (by simp; omega) (by decide) (by simp; omega) (by simp) ?_; intro vC wC hownC hgC hbC hatC; have hLKC := HLK.out _ (by (repeat' (first | (with_reducible exact Below.refl _ _) | (with_reducible assumption) | (with_reducible refine Below.alloc ?_ ?_ _) | (with_reducible refine Below.drew ?_) | (with_reducible refine Below.stepG ?_ (by assumption) ?_) | (with_reducible refine Below.setCell ?_ ?_ _) | omega | (dsimp only; omega) | (simp; done) | (simp; omega)))) wC vC hownC hgC hatC; have hsC := hbC.size; (try simp at hsC); have hbxC := HBXC.out _ (by (repeat' (first | (with_reducible exact Below.refl _ _) | (with_reducible assumption) | (with_reducible refine Below.alloc ?_ ?_ _) | (with_reducible refine Below.drew ?_) | (with_reducible refine Below.stepG ?_ (by assumption) ?_) | (with_reducible refine Below.setCell ?_ ?_ _) | omega | (dsimp only; omega) | (simp; done) | (simp; omega)))) wC hgC; have cC := hbxC.c x.n HN4.out; have fC := hbxC.fz x.n HN4.out; have lC := hbxC.lt; clear hbxC; obtain ⟨aC, capC, hshC⟩ := hownC.shape; rw [HLLN.out] at hshC; subst hshC) | (go_simp; (first | fail | skip))); (refine hK.out _ _ ?_ (fun hHeld => ?_)); (· ((try dsimp only); (repeat' (first | (with_reducible exact Below.refl _ _) | (with_reducible assumption) | (with_reducible refine Below.alloc ?_ ?_ _) | (with_reducible refine Below.drew ?_) | (with_reducible refine Below.stepG ?_ (by assumption) ?_) | (with_reducible refine Below.setCell ?_ ?_ _) | omega | (dsimp only; omega) | (simp; done) | (simp; omega))))); (clear hK K; (try simp only [Act.put, List.setIfInBounds_toArray, List.set_cons_zero, List.set_cons_succ]))))
          | (refine wpAnyH_ready (rs := [17]) (by decide +kernel) (by simp) (AllReadyH.cons (by simp only [List.getElem?_toArray, List.getElem?_cons_zero, List.getElem?_cons_succ]; rfl) (fun K hK => ?_) AllReadyH.nil); all_goals ((first | (refine step_append_at rfl (.tmp 60) (.tmp 66) 88 31 3 24 _ rfl eiAddr X.heap.size (vs x.n) ((looksL (al.take m) x.n).map addrCells) rfl ((hOL.dr).alloc _) (.slice (some ⟨_, 0, none⟩) 1 1) [addrCells x.ad] rfl (sl_new (c := addrCells x.ad) (by first | rfl | simp) rfl) (by intro c hc; simp at hc; subst hc; exact addrCells_one _) (by simp; omega) (by decide) (by simp; omega) (by simp) ?_; intro vC wC hownC hgC hbC hatC; have hLKC := HLK.out _ (by (repeat' (first | (with_reducible exact Below.refl _ _) | (with_reducible assumption) | (with_reducible refine Below.alloc ?_ ?_ _) | (with_reducible refine Below.drew ?_) | (with_reducible refine Below.stepG ?_ (by assumption) ?_) | (with_reducible refine Below.setCell ?_ ?_ _) | omega | (dsimp only; omega) | (simp; done) | (simp; omega)))) wC vC hownC hgC hatC; have hsC := hbC.size; (try simp at hsC); have hbxC := HBXC.out _ (by (repeat' (first | (with_reducible exact Below.refl _ _) | (with_reducible assumption) | (with_reducible refine Below.alloc ?_ ?_ _) | (with_reducible refine Below.drew ?_) | (with_reducible refine Below.stepG ?_ (by assumption) ?_) | (with_reducible refine Below.setCell ?_ ?_ _) | omega | (dsimp only; omega) | (simp; done) | (simp; omega)))) wC hgC; have cC := hbxC.c x.n HN4.out; have fC := hbxC.fz x.n HN4.out; have lC := hbxC.lt; clear hbxC; obtain ⟨aC, capC, hshC⟩ := hownC.shape; rw [HLLN.out] at hshC; subst hshC) | (refine step_append_at rfl (.tmp 60) (.tmp 66) 88 31 3 24 _ rfl eiAddr X.heap.size (vs x.n) ((looksL (al.take m) x.n).map addrCells) rfl ((hOL.alloc _).dr) (.slice (some ⟨_, 0, none⟩) 1 1) [addrCells x.ad] rfl (Sl.below (sl_new (c := addrCells x.ad) (by first | rfl | simp) rfl) (below_drewN (Below.refl _ _) 1)) (by intro c hc; simp at hc; subst hc; exact addrCells_one _) (by simp; omega) (by decide) (by simp; omega) (by simp) ?_; intro vC wC hownC hgC hbC hatC; have hLKC := HLK.out _ (by (repeat' (first | (with_reducible exact Below.refl _ _) | (with_reducible assumption) | (with_reducible refine Below.alloc ?_ ?_ _) | (with_reducible refine Below.drew ?_) | (with_reducible refine Below.stepG ?_ (by assumption) ?_) | (with_reducible refine Below.setCell ?_ ?_ _) | omega | (dsimp only; omega) | (simp; done) | (simp; omega)))) wC vC hownC hgC hatC; have hsC := hbC.size; (try simp at hsC); have hbxC := HBXC.out _ (by (repeat' (first | (with_reducible exact Below.refl _ _) | (with_reducible assumption) | (with_reducible refine Below.alloc ?_ ?_ _) | (with_reducible refine Below.drew ?_) | (with_reducible refine Below.stepG ?_ (by assumption) ?_) | (with_reducible refine Below.setCell ?_ ?_ _) | omega | (dsimp only; omega) | (simp; done) | (simp; omega)))) wC hgC; have cC := hbxC.c x.n HN4.out; have fC := hbxC.fz x.n HN4.out; have lC := hbxC.lt; clear hbxC; obtain ⟨aC, capC, hshC⟩ := hownC.shape; rw [HLLN.out] at hshC; subst hshC) | (go_simp; (first | fail | skip))); (refine hK.out _ _ ?_ (fun hHeld => ?_)); (· ((try dsimp only); (repeat' (first | (with_reducible exact Below.refl _ _) | (with_reducible assumption) | (with_reducible refine Below.alloc ?_ ?_ _) | (with_reducible refine Below.drew ?_) | (with_reducible refine Below.stepG ?_ (by assumption) ?_) | (with_reducible refine Below.setCell ?_ ?_ _) | omega | (dsimp only; omega) | (simp; done) | (simp; omega))))); (clear hK K; (try simp only [Act.put, List.setIfInBounds_toArray, List.set_cons_zero, List.set_cons_succ]))))
          | (refine wpAnyH_ready (rs := [18]) (by decide +kernel) (by simp) (AllReadyH.cons (by simp only [List.getElem?_toArray, List.getElem?_cons_zero, List.getElem?_cons_succ]; rfl) (fun K hK => ?_) AllReadyH.nil); all_goals ((first | (refine step_append_at rfl (.tmp 60) (.tmp 66) 88 31 3 24 _ rfl eiAddr X.heap.size (vs x.n) ((looksL (al.take m) x.n).map addrCells) rfl ((hOL.dr).alloc _) (.slice (some ⟨_, 0, none⟩) 1 1) [addrCells x.ad] rfl (sl_new (c := addrCells x.ad) (by first | rfl | simp) rfl) (by intro c hc; simp at hc; subst hc; exact addrCells_one _) (by simp; omega) (by decide) (by simp; omega) (by simp) ?_; intro vC wC hownC hgC hbC hatC; have hLKC := HLK.out _ (by (repeat' (first | (with_reducible exact Below.refl _ _) | (with_reducible assumption) | (with_reducible refine Below.alloc ?_ ?_ _) | (with_reducible refine Below.drew ?_) | (with_reducible refine Below.stepG ?_ (by assumption) ?_) | (with_reducible refine Below.setCell ?_ ?_ _) | omega | (dsimp only; omega) | (simp; done) | (simp; omega)))) wC vC hownC hgC hatC; have hsC := hbC.size; (try simp at hsC); have hbxC := HBXC.out _ (by (repeat' (first | (with_reducible exact Below.refl _ _) | (with_reducible assumption) | (with_reducible refine Below.alloc ?_ ?_ _) | (with_reducible refine Below.drew ?_) | (with_reducible refine Below.stepG ?_ (by assumption) ?_) | (with_reducible refine Below.setCell ?_ ?_ _) | omega | (dsimp only; omega) | (simp; done) | (simp; omega)))) wC hgC; have cC := hbxC.c x.n HN4.out; have fC := hbxC.fz x.n HN4.out; have lC := hbxC.lt; clear hbxC; obtain ⟨aC, capC, hshC⟩ := hownC.shape; rw [HLLN.out] at hshC; subst hshC) | (refine step_append_at rfl (.tmp 60) (.tmp 66) 88 31 3 24 _ rfl eiAddr X.heap.size (vs x.n) ((looksL (al.take m) x.n).map addrCells) rfl ((hOL.alloc _).dr) (.slice (some ⟨_, 0, none⟩) 1 1) [addrCells x.ad] rfl (Sl.below (sl_new (c := addrCells x.ad) (by first | rfl | simp) rfl) (below_drewN (Below.refl _ _) 1)) (by intro c hc; simp at hc; subst hc; exact addrCells_one _) (by simp; omega) (by decide) (by simp; omega) (by simp) ?_; intro vC wC hownC hgC hbC hatC; have hLKC := HLK.out _ (by (repeat' (first | (with_reducible exact Below.refl _ _) | (with_reducible assumption) | (with_reducible refine Below.alloc ?_ ?_ _) | (with_reducible refine Below.drew ?_) | (with_reducible refine Below.stepG ?_ (by assumption) ?_) | (with_reducible refine Below.setCell ?_ ?_ _) | omega | (dsimp only; omega) | (simp; done) | (simp; omega)))) wC vC hownC hgC hatC; have hsC := hbC.size; (try simp at hsC); have hbxC := HBXC.out _ (by (repeat' (first | (with_reducible exact Below.refl _ _) | (with_reducible assumption) | (with_reducible refine Below.alloc ?_ ?_ _) | (with_reducible refine Below.drew ?_) | (with_reducible refine Below.stepG ?_ (by assumption) ?_) | (with_reducible refine Below.setCell ?_ ?_ _) | omega | (dsimp only; omega) | (simp; done) | (simp; omega)))) wC hgC; have cC := hbxC.c x.n HN4.out; have fC := hbxC.fz x.n HN4.out; have lC := hbxC.lt; clear hbxC; obtain ⟨aC, capC, hshC⟩ := hownC.shape; rw [HLLN.out] at hshC; subst hshC) | (go_simp; (first | fail | skip))); (refine hK.out _ _ ?_ (fun hHeld => ?_)); (· ((try dsimp only); (repeat' (first | (with_reducible exact Below.refl _ _) | (with_reducible assumption) | (with_reducible refine Below.alloc ?_ ?_ _) | (with_reducible refine Below.drew ?_) | (with_reducible refine Below.stepG ?_ (by assumption) ?_) | (with_reducible refine Below.setCell ?_ ?_ _) | omega | (dsimp only; omega) | (simp; done) | (simp; omega))))); (clear hK K; (try simp only [Act.put, List.setIfInBounds_toArray, List.set_cons_zero, List.set_cons_succ]))))
          | (refine wpAnyH_ready (rs := [20]) (by decide +kernel) (by simp) (AllReadyH.cons (by simp only [List.getElem?_toArray, List.getElem?_cons_zero, List.getElem?_cons_succ]; rfl) (fun K hK => ?_) AllReadyH.nil); all_goals ((first | (refine step_append_at rfl (.tmp 60) (.tmp 66) 88 31 3 24 _ rfl eiAddr X.heap.size (vs x.n) ((looksL (al.take m) x.n).map addrCells) rfl ((hOL.dr).alloc _) (.slice (some ⟨_, 0, none⟩) 1 1) [addrCells x.ad] rfl (sl_new (c := addrCells x.ad) (by first | rfl | simp) rfl) (by intro c hc; simp at hc; subst hc; exact addrCells_one _) (by simp; omega) (by decide) (by simp; omega) (by simp) ?_; intro vC wC hownC hgC hbC hatC; have hLKC := HLK.out _ (by (repeat' (first | (with_reducible exact Below.refl _ _) | (with_reducible assumption) | (with_reducible refine Below.alloc ?_ ?_ _) | (with_reducible refine Below.drew ?_) | (with_reducible refine Below.stepG ?_ (by assumption) ?_) | (with_reducible refine Below.setCell ?_ ?_ _) | omega | (dsimp only; omega) | (simp; done) | (simp; omega)))) wC vC hownC hgC hatC; have hsC := hbC.size; (try simp at hsC); have hbxC := HBXC.out _ (by (repeat' (first | (with_reducible exact Below.refl _ _) | (with_reducible assumption) | (with_reducible refine Below.alloc ?_ ?_ _) | (with_reducible refine Below.drew ?_) | (with_reducible refine Below.stepG ?_ (by assumption) ?_) | (with_reducible refine Below.setCell ?_ ?_ _) | omega | (dsimp only; omega) | (simp; done) | (simp; omega)))) wC hgC; have cC := hbxC.c x.n HN4.out; have fC := hbxC.fz x.n HN4.out; have lC := hbxC.lt; clear hbxC; obtain ⟨aC, capC, hshC⟩ := hownC.shape; rw [HLLN.out] at hshC; subst hshC) | (refine step_append_at rfl (.tmp 60) (.tmp 66) 88 31 3 24 _ rfl eiAddr X.heap.size (vs x.n) ((looksL (al.take m) x.n).map addrCells) rfl ((hOL.alloc _).dr) (.slice (some ⟨_, 0, none⟩) 1 1) [addrCells x.ad] rfl (Sl.below (sl_new (c := addrCells x.ad) (by first | rfl | simp) rfl) (below_drewN (Below.refl _ _) 1)) (by intro c hc; simp at hc; subst hc; exact addrCells_one _) (by simp; omega) (by decide) (by simp; omega) (by simp) ?_; intro vC wC hownC hgC hbC hatC; have hLKC := HLK.out _ (by (repeat' (first | (with_reducible exact Below.refl _ _) | (with_reducible assumption) | (with_reducible refine Below.alloc ?_ ?_ _) | (with_reducible refine Below.drew ?_) | (with_reducible refine Below.stepG ?_ (by assumption) ?_) | (with_reducible refine Below.setCell ?_ ?_ _) | omega | (dsimp only; omega) | (simp; done) | (simp; omega)))) wC vC hownC hgC hatC; have hsC := hbC.size; (try simp at hsC); have hbxC := HBXC.out _ (by (repeat' (first | (with_reducible exact Below.refl _ _) | (with_reducible assumption) | (with_reducible refine Below.alloc ?_ ?_ _) | (with_reducible refine Below.drew ?_) | (with_reducible refine Below.stepG ?_ (by assumption) ?_) | (with_reducible refine Below.setCell ?_ ?_ _) | omega | (dsimp only; omega) | (simp; done) | (simp; omega)))) wC hgC; have cC := hbxC.c x.n HN4.out; have fC := hbxC.fz x.n HN4.out; have lC := hbxC.lt; clear hbxC; obtain ⟨aC, capC, hshC⟩ := hownC.shape; rw [HLLN.out] at hshC; subst hshC) | (go_simp; (first | fail | skip))); (refine hK.out _ _ ?_ (fun hHeld => ?_)); (· ((try dsimp only); (repeat' (first | (with_reducible exact Below.refl _ _) | (with_reducible assumption) | (with_reducible refine Below.alloc ?_ ?_ _) | (with_reducible refine Below.drew ?_) | (with_reducible refine Below.stepG ?_ (by assumption) ?_) | (with_reducible refine Below.setCell ?_ ?_ _) | omega | (dsimp only; omega) | (simp; done) | (simp; omega))))); (clear hK K; (try simp only [Act.put, List.setIfInBounds_toArray, List.set_cons_zero, List.set_cons_succ]))))
          | (refine wpAnyH_done (by decide +kernel) ?_ _)
          | fail)
        all_goals go_wp2_with fail
        all_goals exact ⟨⟨m + 1, by omega, by go_num, ⟨_, by rw [HT.out]; exact Lib.hid hLKC⟩, Lib.hid (by (repeat' (first | (with_reducible exact Below.refl _ _) | (with_reducible assumption) | (with_reducible refine Below.alloc ?_ ?_ _) | (with_reducible refine Below.drew ?_) | (with_reducible refine Below.stepG ?_ (by assumption) ?_) | (with_reducible refine Below.setCell ?_ ?_ _) | omega | (dsimp only; omega) | (simp; done) | (simp; omega))))⟩, by simp [intOf]; omega⟩
      · have hr0 : x.rd = false := by cases h : x.rd with
          | false => rfl
          | true => exact absurd h hr
        have c1 : (askKind x == 2) = true := by unfold askKind; rw [if_neg hr]; rfl
        clear hk hr hx
        go_wp2_with (at_builtin; refine wpList_append_at rfl _ _ 28 35 9 72 _ rfl eiAct X.heap.size _ ((wacts (al.take m)).map actCells) rfl (HL.out.oa.alloc _) _ [actCells x.act] rfl (sl_new (c := actCells x.act) (by simp) rfl) (by intro c hc; simp at hc; subst hc; exact actCells_one _) (by simp; omega) (by decide) (by simp; omega) (by simp) ?_; intro vB w6 hoB hgB hbB hatB; go_frame)
        have HL6 := Lib.hid (Lks.act (HL.out.below ((Below.refl _ _).alloc (Nat.le_refl _) _)) hr0 (by rw [wacts_snoc, if_neg (by rw [hr0]; decide), List.map_append]; exact hoB) hgB hatB)
        rw [← HT.out] at HL6
        have HB6 := Lib.hid ((HB.out.alloc hzr _).trans (hbB.mono (Nat.le_refl _)))
        clear hoB hgB hbB hatB
        go_roundw
        case rel => exact ⟨m + 1, by omega, by go_num, ⟨_, HL6⟩, HB6⟩
        case measure => simp [intOf]; omega
    · obtain rfl : m = al.length := by omega
      have et : al.take al.length = al := List.take_of_length_le (Nat.le_refl _)
      rw [et] at HL
      have hwl := (pasks_len al).2
      have HK40 := Lib.hid (show (wacts al).length ≤ 40 by unfold wacts; omega)
      replace HS := Lib.hid (HS.out.below HB.out)
      replace HW := Lib.hid (HW.out.trans (HB.out.mono HW.out.size))
      have HFIT := Lib.hid (show ∀ y ∈ wacts al, ActD.fit y from fun y hy => okA_fit ((pasks_ok HOK.out).1.wt y hy))
      have HOKR := Lib.hid (pasks_ok HOK.out).1
      clear et hwl HB HA HOK HOP
      obtain ⟨Y, hY⟩ : ∃ Y : World, Y = wr := ⟨_, rfl⟩
      subst hY
      have HL' := HL.out
      obtain ⟨ca, cc, hca⟩ := HL'.oa.shape
      subst hca
      rw [List.length_map] at HL' HL ⊢
      obtain ⟨K, hK⟩ : ∃ K, K = (wacts al).length := ⟨_, rfl⟩
      rw [← hK] at HL HL' HLAW HLEFT HK40 ⊢
      have HK := Lib.hid hK
      have hk40 := HK40.out
      have uc := HL'.oa.sl.lens.2.1
      have vc := HL'.oa.sl.lens.2.2
      clear hK
      go_wp2_with fail
      have hH0 : (Y.alloc (.cells #[.int .i64 0, .int .i64 0, .int .i64 0, .int .i64 0] 85)).heap.size = Y.heap.size + 1 := by simp
      have HX0 : Hid (Bx (Y.alloc (.cells #[.int .i64 0, .int .i64 0, .int .i64 0, .int .i64 0] 85)) Y.heap.size (fun n => .int .i64 ((cntS se 0 n : Nat) : Int))) := Lib.hid ⟨by simp, fun n hn => by
          rw [World.cell?_alloc_new]
          match n, hn with
          | 0, _ => rfl
          | 1, _ => rfl
          | 2, _ => rfl
          | 3, _ => rfl, fun n hn => by simp⟩
      have HBY0 : Hid (Below Y.heap.size Y (Y.alloc (.cells #[.int .i64 0, .int .i64 0, .int .i64 0, .int .i64 0] 85))) := Lib.hid ((Below.refl _ _).alloc (Nat.le_refl _) _)
      generalize Y.alloc (.cells #[.int .i64 0, .int .i64 0, .int .i64 0, .int .i64 0] 85) = V at *
      obtain ⟨H, hH⟩ : ∃ H, H = Y.heap.size := ⟨_, rfl⟩
      have HHY := Lib.hid (show Y.heap.size ≤ H by omega)
      rw [← hH] at HX0 ⊢
      clear hH hH0 HL'
      go_loopw [13] (fun i wr => ∃ m : Nat, m ≤ ns ∧ i = .int .i64 m ∧ Hid (Bx wr H (fun n => .int .i64 ((cntS se m n : Nat) : Int))) ∧ Hid (Below Y.heap.size Y wr)) (fun i _ => ns - (intOf i).toNat)
      case atStart => exact ⟨0, Nat.zero_le _, rfl, HX0, HBY0⟩
      case round =>
        clear HX0 HBY0
        obtain ⟨m, hm, rfl, HX, HB⟩ := hrel
        by_cases hlt : m < ns
        · obtain ⟨x, hx⟩ : ∃ x, se[m]? = some x := ⟨_, List.getElem?_eq_getElem (by have := HNS.out; omega)⟩
          obtain ⟨a1, a2, ad, a3, a4⟩ := HLAW.out m x hx
          have HCS := Lib.hid (cntS_succ hx)
          obtain ⟨bs, os, rfl, hbs, s0, s2, s4⟩ := Sl.seen HS.out HB.out hx
          have hq := cntS_le se m x.rd
          have HL2 := HL.out.below HB.out
          have hL := HL2.ol x.rd a2
          obtain ⟨la, lc, hla⟩ := hL.shape
          rw [List.length_map] at hla
          obtain ⟨ba, oa, hla2, hba, hca⟩ := Sl.at (i := cntS se m x.rd) (c := addrCells ad) (show Sl wr 3 (.slice la (looksL al x.rd).length lc) ((looksL al x.rd).map addrCells) by rw [← hla]; exact hL.sl) (by rw [List.getElem?_map]; unfold cntS; rw [a3]; rfl)
          subst hla2
          have d0 := hca 0 _ rfl
          have d1 := hca 1 _ rfl
          have d2 := hca 2 _ rfl
          rw [Nat.add_zero] at d0
          have cG := HL2.bx.c x.rd a2
          rw [hla] at cG
          have cH := HX.out.c x.rd a2
          have fH := HX.out.fz x.rd a2
          have lH := HX.out.lt
          have lG := HL2.bx.lt
          have hql : cntS se m x.rd < (looksL al x.rd).length := (List.getElem?_eq_some_iff.1 a3).1
          obtain ⟨htk, hsk⟩ := act_takeT HL2.oa x.acts a1
          have HROK := Lib.hid (tend_ok TabOk.nil (l := (wacts al).take x.acts) (fun y hy => HFIT.out y (List.mem_of_mem_take hy)))
          have HGOES := Lib.hid a4
          have hfad : Fits false ad := (pasks_okR HOKR.out x.rd) ad (List.mem_of_getElem? a3)
          have HFAD := Lib.hid hfad
          have HTL := Lib.hid (show ((wacts al).take x.acts).length = x.acts by rw [List.length_take]; have := HK.out; omega)
          obtain ⟨n, hn⟩ : ∃ n, n = x.rd := ⟨_, rfl⟩
          rw [← hn] at HCS s0 cG cH fH a2 d0 d1 d2 hq hql
          obtain ⟨q, hq0⟩ : ∃ q, q = cntS se m n := ⟨_, rfl⟩
          rw [← hq0] at cH hql hq d0 d1 d2
          obtain ⟨ln, hln⟩ : ∃ l, l = (looksL al n).length := ⟨_, rfl⟩
          rw [← hln] at cG hql
          obtain ⟨p, hp⟩ : ∃ p, p = x.acts := ⟨_, rfl⟩
          obtain ⟨hop, hhop⟩ : ∃ h, h = x.hop := ⟨_, rfl⟩
          have HQ0 := Lib.hid hq0
          rw [← hp] at htk hsk s4 a1 HROK HTL HGOES
          rw [← hhop] at s2 HGOES
          have hsm : ∀ k, k < 3 → oa + q * 3 + k = oa + q * 3 + k := fun _ _ => rfl
          have hn0 : (0 : Int) ≤ n := by omega
          have hn4 : (n : Int) < 4 := by omega
          have hd1 : decide ((n : Int) < 0) = false := decide_eq_false (by omega)
          have hd2 : decide ((4 : Int) ≤ (n : Int)) = false := decide_eq_false (by omega)
          have hd3 : decide ((ln : Int) ≤ (q : Int)) = false := decide_eq_false (by omega)
          have hd4 : decide ((p : Int) < 0) = false := decide_eq_false (by omega)
          have hd5 : decide ((K : Int) < (p : Int)) = false := decide_eq_false (by omega)
          have hd6 : ¬ ln ≤ q := by omega
          have hd7 : ¬ K < p := by omega
          have hbs2 : bs < wr.heap.size := Nat.lt_of_lt_of_le hbs HB.out.size
          have HA2 := Lib.hid a2
          have HSK := Lib.hid hsk
          have HHT := Lib.hid htk
          clear hx a3 a4 hfad hn hq0 hln hp hhop hca hla hL HL2 hsm hsk
          go_upto_region 18 with fail
          refine wp_region_qb (by kernel_rfl) (by kernel_rfl) (fun kq => ?_)
          repeat (first | go_big_quiet_step (fail) | quiet_step (fail))
          clear kq
          refine wpQuiet_nil ?_; intro w5 hb5; (repeat (with_reducible (replace hb5 := Below.undrew hb5))); obtain ⟨hc5, hf5⟩ := bcell hb5; have hz5 := hb5.size; (repeat (first | rw [World.size_alloc] at hz5 | rw [World.size_drew] at hz5 | rw [World.size_setCell] at hz5)); (try have : b < w5.heap.size := by omega); (try have : b < w5.heap.size + 1 := by omega); (try have : b < w5.heap.size + 1 + 1 := by omega); (try have : b < w5.heap.size + 1 + 1 + 1 := by omega); (try have : w.heap.size < w5.heap.size := by omega); (try have : w.heap.size < w5.heap.size + 1 := by omega); (try have : w.heap.size < w5.heap.size + 1 + 1 := by omega); (try have : w.heap.size < w5.heap.size + 1 + 1 + 1 := by omega); (try have : w1.heap.size < w5.heap.size := by omega); (try have : w1.heap.size < w5.heap.size + 1 := by omega); (try have : w1.heap.size < w5.heap.size + 1 + 1 := by omega); (try have : w1.heap.size < w5.heap.size + 1 + 1 + 1 := by omega); (try have : w2.heap.size < w5.heap.size := by omega); (try have : w2.heap.size < w5.heap.size + 1 := by omega); (try have : w2.heap.size < w5.heap.size + 1 + 1 := by omega); (try have : w2.heap.size < w5.heap.size + 1 + 1 + 1 := by omega); (try have : w3.heap.size < w5.heap.size := by omega); (try have : w3.heap.size < w5.heap.size + 1 := by omega); (try have : w3.heap.size < w5.heap.size + 1 + 1 := by omega); (try have : w3.heap.size < w5.heap.size + 1 + 1 + 1 := by omega); (try have : w3.heap.size + 1 < w5.heap.size := by omega); (try have : w3.heap.size + 1 < w5.heap.size + 1 := by omega); (try have : w3.heap.size + 1 < w5.heap.size + 1 + 1 := by omega); (try have : w3.heap.size + 1 < w5.heap.size + 1 + 1 + 1 := by omega); (try have : wr.heap.size < w5.heap.size := by omega); (try have : wr.heap.size < w5.heap.size + 1 := by omega); (try have : wr.heap.size < w5.heap.size + 1 + 1 := by omega); (try have : wr.heap.size < w5.heap.size + 1 + 1 + 1 := by omega)
          have HB5 := Lib.hid hb5
          have htk := HHT.out
          have s45 := (hb5.cell (p := ⟨bs, os + m * 5 + 4, none⟩) hbs2).trans s4
          have HD := Lib.hid (show ((wr.cell? ⟨ba, oa + q * 3, none⟩ = some (.bool false) ∧ wr.cell? ⟨ba, oa + q * 3 + 1, none⟩ = some (.int .u64 (hiOf false ad)) ∧ wr.cell? ⟨ba, oa + q * 3 + 2, none⟩ = some (.int .u64 (loOf ad))) ∧ wr.cell? ⟨G, n, none⟩ = some (.slice (some ⟨ba, oa, none⟩) ln lc) ∧ wr.cell? ⟨H, n, none⟩ = some (.int .i64 (q : Int)) ∧ wr.cell? ⟨bs, os + m * 5 + 2, none⟩ = some (.int .i64 (hop : Int))) from ⟨⟨d0, d1, d2⟩, cG, cH, s2⟩)
          have hbs5 : bs < w5.heap.size := Nat.lt_of_lt_of_le hbs2 hb5.size
          clear hc5 hf5 hz5 hd1 hd2 hd3 hd4 hd5 hd6 hd7 d0 d1 d2 cG cH s0 s4 s2 hb5
          go_wp2_with fail
          refine (routesOf_any ca cc p ((wacts al).take p) w5 HTL.out.symm (HSK.out.below HB5.out) (by rw [HTL.out]; omega) (fun y hy => HFIT.out y (List.mem_of_mem_take hy))).mono ?_
          rintro e w6 ⟨v6, rfl, ho6, hb6⟩
          have hb56 : Below wr.heap.size wr w6 := HB5.out.trans (hb6.mono HB5.out.size)
          obtain ⟨M, hM⟩ : ∃ M, M = tend [] ((wacts al).take p) := ⟨_, rfl⟩
          rw [← hM] at ho6 HROK HGOES
          clear hM
          obtain ⟨ra, rc, rfl⟩ := ho6.shape
          rw [List.length_map] at ho6 ⊢
          have HR := Lib.hid ho6.sl
          obtain ⟨⟨d0, d1, d2⟩, cG, cH, s2⟩ := HD.out
          have d0' := (hb56.cell (p := ⟨ba, oa + q * 3, none⟩) hba).trans d0
          have d1' := (hb56.cell (p := ⟨ba, oa + q * 3 + 1, none⟩) hba).trans d1
          have d2' := (hb56.cell (p := ⟨ba, oa + q * 3 + 2, none⟩) hba).trans d2
          have cG' := (hb56.cell (p := ⟨G, n, none⟩) lG).trans cG
          have cH' := (hb56.cell (p := ⟨H, n, none⟩) lH).trans cH
          have s2' := (hb56.cell (p := ⟨bs, os + m * 5 + 2, none⟩) hbs2).trans s2
          have hba6 : ba < w6.heap.size := Nat.lt_of_lt_of_le hba hb56.size
          have hbs6 : bs < w6.heap.size := Nat.lt_of_lt_of_le hbs2 hb56.size
          have lG6 : G < w6.heap.size := Nat.lt_of_lt_of_le lG hb56.size
          have lH6 : H < w6.heap.size := Nat.lt_of_lt_of_le lH hb56.size
          have HB56 := Lib.hid hb56
          have HGO := Lib.hid (fun d os => goesTo_any ra rc M.length ad M (grow (redrawn w6 d) os) rfl (HR.out.below (below_regrown _ _ _)) (RtOk.of_tab HROK.out) HFAD.out)
          rw [putAll_srt HROK.out, ← HGOES.out] at HGO
          obtain ⟨Z, hZ⟩ : ∃ Z : World, Z = w6 := ⟨_, rfl⟩
          subst hZ
          generalize M.length = ml at *
          clear ho6 hb6 hb56 d0 d1 d2 cG cH s2 HR HGOES HROK HD
          go_upto_region 21 with fail
          refine wp_region_qb (by kernel_rfl) (by kernel_rfl) (fun kq => ?_)
          repeat (first | go_big_quiet_step (with_reducible exact Calls.regrown_of (HGO.out _ _)) | quiet_step (with_reducible exact Calls.regrown_of (HGO.out _ _)))
          clear kq
          refine wpQuiet_nil ?_; intro w7 hb7; (repeat (with_reducible (replace hb7 := Below.undrew hb7))); obtain ⟨hc7, hf7⟩ := bcell hb7; have hz7 := hb7.size; (repeat (first | rw [World.size_alloc] at hz7 | rw [World.size_drew] at hz7 | rw [World.size_setCell] at hz7)); (try have : b < w7.heap.size := by omega); (try have : b < w7.heap.size + 1 := by omega); (try have : b < w7.heap.size + 1 + 1 := by omega); (try have : b < w7.heap.size + 1 + 1 + 1 := by omega); (try have : w.heap.size < w7.heap.size := by omega); (try have : w.heap.size < w7.heap.size + 1 := by omega); (try have : w.heap.size < w7.heap.size + 1 + 1 := by omega); (try have : w.heap.size < w7.heap.size + 1 + 1 + 1 := by omega); (try have : w1.heap.size < w7.heap.size := by omega); (try have : w1.heap.size < w7.heap.size + 1 := by omega); (try have : w1.heap.size < w7.heap.size + 1 + 1 := by omega); (try have : w1.heap.size < w7.heap.size + 1 + 1 + 1 := by omega); (try have : w2.heap.size < w7.heap.size := by omega); (try have : w2.heap.size < w7.heap.size + 1 := by omega); (try have : w2.heap.size < w7.heap.size + 1 + 1 := by omega); (try have : w2.heap.size < w7.heap.size + 1 + 1 + 1 := by omega); (try have : w3.heap.size < w7.heap.size := by omega); (try have : w3.heap.size < w7.heap.size + 1 := by omega); (try have : w3.heap.size < w7.heap.size + 1 + 1 := by omega); (try have : w3.heap.size < w7.heap.size + 1 + 1 + 1 := by omega); (try have : w3.heap.size + 1 < w7.heap.size := by omega); (try have : w3.heap.size + 1 < w7.heap.size + 1 := by omega); (try have : w3.heap.size + 1 < w7.heap.size + 1 + 1 := by omega); (try have : w3.heap.size + 1 < w7.heap.size + 1 + 1 + 1 := by omega); (try have : wr.heap.size < w7.heap.size := by omega); (try have : wr.heap.size < w7.heap.size + 1 := by omega); (try have : wr.heap.size < w7.heap.size + 1 + 1 := by omega); (try have : wr.heap.size < w7.heap.size + 1 + 1 + 1 := by omega)
          have HB57 := Lib.hid (HB56.out.trans (hb7.mono HB56.out.size))
          have HX7 := HX.out.below HB57.out
          have c7 := HX7.c n HA2.out
          rw [← HQ0.out] at c7
          have f7 := HX7.fz n HA2.out
          have l7 := HX7.lt
          have HX8 := Lib.hid (HX7.set HA2.out (.int .i64 ((q + 1 : Nat) : Int)))
          rw [HQ0.out, ← HCS.out] at HX8
          have HBY8 := Lib.hid (HB.out.trans (HB57.out.mono HB.out.size))
          have HQQ := Lib.hid HQ0.out
          clear hc7 hf7 hz7 hb7 HX7 d0' d1' d2' cG' cH' s2' HGO HCS
          go_wp2_with fail
          go_roundw
          case rel => exact ⟨m + 1, by omega, by go_num, Lib.hid (by have := HX8.out; rw [← HQQ.out] at this; exact this), Lib.hid (HBY8.out.setCell HHY.out _)⟩
          case measure => simp [intOf]; omega
        · obtain rfl : m = ns := by omega
          have hlf := HLEFT.out
          have hd1 : decide ((lf : Int) ≤ (K : Int)) = true := decide_eq_true (by omega)
          have hd2 : decide ((0 : Int) ≤ (lf : Int)) = true := decide_eq_true (by omega)
          go_wp2_with fail
          go_returns
          exact ⟨rfl, HW.out.trans (HB.out.mono HW.out.size)⟩
end Go.Proofs.Yteadfobfenopkaa
