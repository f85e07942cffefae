
/- Contract: offers.Best (up to its sort). -/
import Derived.Test.YtllemhknmleklaaOf5
import Derived.Test.YtllemhknmleklaaOfQ
set_option linter.unusedVariables false
set_option linter.unusedSimpArgs false
namespace Go.Proofs.Ytllemhknmleklaa
open Go.RowKit Go.Sort Wc Wk Go.WideShapes

/-- What is asked of the sort. -/
def SortOf : Prop := ∀ (B : Nat) (v : Value) (xs : List OfD) (w : World), xs.length ≤ 1000 → (∀ x ∈ xs, x.ok) → Own w B 84 8 v (xs.map ofCells) →
    Calls Try.prog 113 #[v, .func (.func 114) #[] #[]] w fun e w' => e = .returned (.tuple #[]) ∧ ∃ ys : List OfD, ys.Perm xs ∧ ys.Pairwise (fun a b => ¬ (b.n < a.n ∨ b.n = a.n ∧ b.k < a.k)) ∧ Own w' B 84 8 v (ys.map ofCells) ∧ w.grownBy w' v.ownBlock
theorem MpR.grown {P : Program} {k : TypeId} {b r n cnt : Nat} {f : Lit → Option Value} {left : Lit → Bool} {w w' : World} {row : Option Nat} (h : MpR w P k b r n f left cnt) (hg : w.grownBy w' row) (h1 : some b ≠ row) (h2 : some r ≠ row) : MpR w' P k b r n f left cnt := by
  have hl := h.lt
  obtain ⟨D, ⟨es, clock, since, seen, c0, hbb, F, hs, hD, hr, rest⟩, hm⟩ := h
  exact ⟨D, ⟨es, clock, since, seen, c0, (hg.block b hl.1 h1).trans hbb, F, hs, hD, (hg.block r hl.2 h2).trans hr, rest⟩, hm⟩
theorem ownO_past {w w' : World} {B sz R : Nat} {e : TypeId} {v : Value} {xs : List (List Value)} (ho : Own w B e sz v xs) (hg : w.grownBy w' (some R)) (hR : R < B) : Own w' B e sz v xs :=
  ⟨ho.1, ho.2.kept hg (.inr (fun he => by have := (ho.lt R he).1; omega))⟩
theorem ownO_less {w : World} {B B' : Nat} {e : TypeId} {sz : Nat} {v : Value} {xs : List (List Value)} (h : Wk.Own w B e sz v xs) (hB : B' ≤ B) : Wk.Own w B' e sz v xs := by
  refine ⟨h.1, h.2.1, ?_⟩
  rcases h.2.2 with hn | ⟨g, cap, cur, a, b, rest⟩
  · exact .inl hn
  · exact .inr ⟨g, cap, cur, a, Nat.le_trans hB b, rest⟩
theorem sl_of1 (o : OfD) {W : World} {b : Nat} (hb : b = W.heap.size) : Sl (W.alloc (.cells #[.bool false, .int .u64 (hiOf false o.n), .int .u64 (loOf o.n), .int .i64 o.k, .int .i64 o.src, .int .i64 o.peer, .int .i64 o.met, .int .i64 o.hop] 84)) 8 (.slice (some ⟨b, 0, none⟩) 1 1) ([o].map ofCells) := sl_new (c := ofCells o) hb rfl
theorem two_below (w : World) (a b : Obj) : Below w.heap.size w ((w.alloc a).alloc b) := ((Below.refl w.heap.size w).alloc (Nat.le_refl _) _).alloc (by simp) _
theorem zeroOf (w : World) : (zeroValue 84).run Try.prog w = .ok (.agg #[.bool false, .int .u64 0, .int .u64 0, .int .i64 0, .int .i64 0, .int .i64 0, .int .i64 0, .int .i64 0]) w := by kernel_rfl

/-- The state of the first loop. -/
def Lp1 (wr : World) (b r m n : Nat) (f : Lit → Option Value) (L : List OfD) : Prop := ∃ (left : Lit → Bool) (cnt nb : Nat) (M : List OfD) (g : Lit → Option Value),
  MpR wr Try.prog 222 b r n f left cnt ∧ MapM OfD.pl g M ∧ BestI L left M ∧ Mp wr Try.prog 29 m nb g ∧ nb + cnt ≤ n


set_option maxRecDepth 100000 in
set_option maxHeartbeats 4000000 in
theorem best_any0 (S : SortOf) (a : Option Addr) (cap : Nat) (l : List OfD) (w : World) (hs : Sl w 8 (.slice a l.length cap) (l.map ofCells)) (hlen : l.length ≤ 100) (hok : ∀ v ∈ l, v.ok) :
    Calls Try.prog 66 #[.slice a l.length cap] w fun e w' => ∃ v ys, e = .returned (.tuple #[v, .int .i64 0]) ∧ Own w' w.heap.size 84 8 v (ys.map ofCells) ∧ BestR (liveL l) ys ∧ ys.length ≤ 100 ∧ Below w.heap.size w w' := by
  have HL := Lib.hid (liveL_ok hok)
  have HD := Lib.hid (liveL_dist l hok)
  have hmk := fun (t : TypeId) (w : World) => run_makeMap0 (P := Try.prog) t w
  have LV := Lib.hid (live_any a cap l w hs hlen hok)
  clear hs hok
  go_enter Try.func66, Try.ntmps66
  go_wp2_with fail
  refine LV.out.mono ?_
  rintro e w1 ⟨b, f, rfl, HM, HF, hb, hb1⟩; (repeat (with_reducible (replace hb1 := Below.undrew hb1))); obtain ⟨hc1, hf1⟩ := bcell hb1; have hz1 := hb1.size; (repeat (first | rw [World.size_alloc] at hz1 | rw [World.size_drew] at hz1 | rw [World.size_setCell] at hz1)); (try have : w.heap.size < w1.heap.size := by omega); (try have : w.heap.size < w1.heap.size + 1 := by omega); (try have : w.heap.size < w1.heap.size + 1 + 1 := by omega); (try have : w.heap.size < w1.heap.size + 1 + 1 + 1 := by omega); (try have : w2.heap.size < w1.heap.size := by omega); (try have : w2.heap.size < w1.heap.size + 1 := by omega); (try have : w2.heap.size < w1.heap.size + 1 + 1 := by omega); (try have : w2.heap.size < w1.heap.size + 1 + 1 + 1 := by omega); (try have : w2.heap.size + 1 < w1.heap.size := by omega); (try have : w2.heap.size + 1 < w1.heap.size + 1 := by omega); (try have : w2.heap.size + 1 < w1.heap.size + 1 + 1 := by omega); (try have : w2.heap.size + 1 < w1.heap.size + 1 + 1 + 1 := by omega)
  have HM := Lib.hid HM
  have HF := Lib.hid HF
  have hbl := HM.out.lt
  clear LV
  go_wp2_with (at_range; refine wpList_mp_range _ rfl _ 217 rfl _ _ keyedKey Try.underlying217 _ _ _ rfl (HM.out.alloc _) ?_; intro w0 left0 cnt0 hr0 hl0 hb0 hs0)
  have HMB : Hid (Mp w0 Try.prog 29 w1.heap.size 0 (fun _ => none)) := (Mp.made w1 Try.prog 29).below hb0
  have hc0 := hr0.cnt_le
  simp only [World.size_alloc] at hr0 hb0 hs0 ⊢
  have HB0 := Lib.hid (hb1.trans (((Below.refl w.heap.size w1).alloc hz1 _).trans (hb0.mono (by omega))))
  generalize hmm : w1.heap.size = m at *
  have HL1 : Hid (Lp1 w0 b (m + 1) m l.length f (liveL l)) := ⟨left0, cnt0, 0, [], fun _ => none, hr0, MapM.none _, BestI.start HF.out hl0, HMB, by omega⟩
  clear hr0 hl0 hb0 hc1 hf1 hb1 HMB hmk HM
  go_frame
  (try go_wp2)
  go_loopw [] (fun wr => Hid (Lp1 wr b (m + 1) m l.length f (liveL l)) ∧ Hid (Below w.heap.size w wr) ∧ m + 2 ≤ wr.heap.size) (fun wr => wr.rangeLeft b (m + 1))
  case atStart => exact ⟨HL1, HB0, by omega⟩
  case round =>
    obtain ⟨HS, HBR, hzr⟩ := hrel
    obtain ⟨left, cnt, nb, M, g, hR, hg, hB, hMp, hcn⟩ := HS.out
    have HR := Lib.hid hR
    have HG := Lib.hid hg
    have HB := Lib.hid hB
    have HMp := Lib.hid hMp
    clear HS hR hg hB hMp
    go_wp2_with (at_next; refine wpList_mp_next _ rfl _ rfl _ keyedKey b (m + 1) l.length _ left cnt rfl HR.out ?_ ?_)
    · intro hl0
      have HBD := Lib.hid (HB.out.done HD.out hl0)
      have HMok := Lib.hid (fun o ho => HL.out o (HB.out.has o ho).1)
      have HMd := Lib.hid HB.out.one
      have HAL : Hid (∀ p ∈ liveL l, ∃ o ∈ M, SameP o p) := fun p hp => HB.out.all p hp (hl0 _)
      clear hl0 HB HR
      go_wp2_with (at_range; refine wpList_mp_range _ rfl _ 220 rfl _ _ keyedPfx Try.underlying220 _ _ _ rfl HMp.out ?_; intro wq leftq cntq hrq hlq hbq hsq)
      have hcq := hrq.cnt_le
      have HRQ := Lib.hid hrq
      have HCQ := Lib.hid (ColI.start HG.out hlq)
      have HBQ := Lib.hid (HBR.out.trans (hbq.mono (HBR.out.size)))
      generalize hrr : wr.heap.size = r at *
      clear hrq hlq HMp hbq
      go_frame
      (try go_wp2)
      go_loopw [11] (fun x wz => ∃ (left : Lit → Bool) (cnt : Nat) (xs : List OfD), Hid (MpR wz Try.prog 29 m r nb g left cnt) ∧ Hid (ColI M left xs) ∧ xs.length + cnt ≤ nb ∧ Hid (Own wz (r + 1) 84 8 x (xs.map ofCells)) ∧ Hid (Below w.heap.size w wz) ∧ r + 1 ≤ wz.heap.size) (fun _ wz => wz.rangeLeft m r)
      case atStart => exact ⟨leftq, cntq, [], HRQ, HCQ, by simpa using hcq, Own.nil _ _ _ _, HBQ, by omega⟩
      case round =>
        obtain ⟨left2, cnt2, xs, HR, HA, hcx, HO, hbz, hzz⟩ := hrel
        have hlr := HR.out.lt
        obtain ⟨a6, cap6, hv6, hcap6, hcap62⟩ := HO.out.sl.shape
        rw [List.length_map] at hv6 hcap6
        subst hv6
        go_wp2_with (at_next; refine wpList_mp_next _ rfl _ rfl _ keyedPfx m r nb _ left2 cnt2 rfl HR.out ?_ ?_)
        · intro hl0
          have HL0 := Lib.hid hl0
          clear hl0
          have SX := Lib.hid (S (r + 1) (.slice a6 xs.length cap6) xs wr (by omega) (fun x hx => HMok.out x (HA.out.has x hx).1) HO.out)
          go_wp2_with ((with_reducible refine SX.out.mono ?_); rintro e w2 ⟨rfl, ys, hp, hsr, ho2, hg2⟩)
          have hD := HA.out.done HL0.out hp hsr
          have hB2 : Below (r + 1) wr w2 := (Below.refl (r + 1) wr).grown hg2 hzz (fun k hk => (HO.out.lt k hk).1)
          have hw2 := Lib.hid (hbz.out.trans (hB2.mono (by omega)))
          have hR2 : Hid (BestR (liveL l) ys) := ⟨hD.1, fun o => (hD.2 o).trans (HBD.out o), fun p hp => by obtain ⟨o, ho, hs⟩ := HAL.out p hp; exact ⟨o, (hD.2 o).2 ho, hs⟩⟩
          have hl2 : ys.length ≤ 100 := by rw [hp.length_eq]; omega
          have ho3 := Lib.hid (ownO_less (B' := w.heap.size) ho2 (by omega))
          clear hD ho2 hp hsr hg2 HA HL0 SX hB2
          refine bodyPost_ret (v := .tuple #[.slice a6 xs.length cap6, .int .i64 0]) (by simp [results, Try.results66, go_sem, *]) rfl ⟨_, ys, rfl, ho3.out, hR2.out, hl2, hw2.out⟩
        · intro key v kl w2 cnt3 hkey hlk hfv hr2 hlt2 hg2 hs2 hen
          obtain ⟨o, ho, rfl, rfl⟩ := HG.out.2 kl v (keyedPfx.key hkey) hfv
          have HR2 := Lib.hid hr2
          have HO2 := Lib.hid (ownO_past HO.out hg2 (Nat.lt_succ_self r))
          have HY := Lib.hid (HA.out.step HMok.out HMd.out ho hlk)
          have hb2 := Lib.hid (hbz.out.trans ((Below.refl w.heap.size wr).grown hg2 (by omega) (fun k hk => by cases hk; omega)))
          have hen2 : (Instr.entry (.pointer (some ⟨r, 0, none⟩))).run Try.prog w2 = .ok (.tuple #[key, .agg #[.bool false, .int .u64 (hiOf false o.n), .int .u64 (loOf o.n), .int .i64 o.k, .int .i64 o.src, .int .i64 o.peer, .int .i64 o.met, .int .i64 o.hop]]) w2 := hen
          clear hen hr2 hkey hlk hfv hg2 ho
          go_wp2_with (at_builtin; refine stop_at ?_; intro G hG)
          rw [← hG.out]; clear hG G
          refine wpList_append_any rfl _ _ 79 84 8 64 _ rfl eiOf (r + 1) _ ((xs).map ofCells) rfl (((HO2.out.alloc _).alloc _)) _ (([o]).map ofCells) rfl (sl_of1 o (by (first | omega | (simp; done) | (simp; omega)))) (by intro c hc; obtain ⟨r, _, rfl⟩ := List.mem_map.1 hc; exact ofCells_one r) (by skip; first | omega | (simp; omega)) (by decide) (by first | omega | (simp; done) | (simp; omega)) ?_
          intro v4 w4 hown4 hb4
          rw [← List.map_append] at hown4
          obtain ⟨xs4, hxs4⟩ : ∃ x : List OfD, x = (xs) ++ ([o]) := ⟨_, rfl⟩
          rw [← hxs4] at hown4
          have hl4 : xs4.length = (xs).length + ([o]).length := by rw [hxs4, List.length_append]
          have HX4 := Lib.hid hxs4
          clear hxs4
          have HL4 := Lib.hid hl4
          clear hl4
          obtain ⟨a4, cap4, rfl⟩ := hown4.shape
          rw [List.length_map] at hown4 ⊢
          have HO4 := Lib.hid hown4
          clear hown4
          obtain ⟨hc4, hf4⟩ := bcellB hb4; have hz4 := hb4.size; (repeat (first | rw [World.size_alloc] at hz4 | rw [World.size_drew] at hz4 | rw [World.size_setCell] at hz4)); (try have : w.heap.size < w4.heap.size := by omega); (try have : w.heap.size < w4.heap.size + 1 := by omega); (try have : w.heap.size < w4.heap.size + 1 + 1 := by omega); (try have : w.heap.size < w4.heap.size + 1 + 1 + 1 := by omega); (try have : w2.heap.size < w4.heap.size := by omega); (try have : w2.heap.size < w4.heap.size + 1 := by omega); (try have : w2.heap.size < w4.heap.size + 1 + 1 := by omega); (try have : w2.heap.size < w4.heap.size + 1 + 1 + 1 := by omega); (try have : w2.heap.size + 1 < w4.heap.size := by omega); (try have : w2.heap.size + 1 < w4.heap.size + 1 := by omega); (try have : w2.heap.size + 1 < w4.heap.size + 1 + 1 := by omega); (try have : w2.heap.size + 1 < w4.heap.size + 1 + 1 + 1 := by omega)
          have B4 : Below (r + 1) w2 w4 := (((Below.refl (r + 1) w2).alloc (by omega) _).alloc (by simp; omega) _).trans hb4
          have HR4 := Lib.hid (HR2.out.kept B4 (by omega) (by omega))
          have HY4 : Hid (ColI M (fun z => left2 z && !z.sameKey o.pl) xs4) := by rw [HX4.out]; exact HY.out
          have h4 : xs4.length = xs.length + 1 := by have := HL4.out; simpa using this
          have hz4 := B4.size
          have hl4 : xs4.length + cnt3 ≤ nb := by omega
          have H4 := Lib.hid h4
          have HB4 := Lib.hid (hb2.out.trans (B4.mono (by omega)))
          clear h4 HX4 HL4 HR2 HY B4 hb2
          go_wp2
          go_roundw
          case rel => exact ⟨_, cnt3, xs4, HR4, HY4, hl4, HO4, HB4, by omega⟩
          case measure => rw [HR4.out.left_eq, HR.out.left_eq]; exact hlt2
    · intro key v kl w2 cnt2 hkey hlk hfv hr2 hlt2 hg2 hs2 hen
      obtain ⟨o, ho, rfl, rfl⟩ := HF.out.2 kl v (keyedKey.key hkey) hfv
      have hO := HL.out o ho
      have KP := Lib.hid hO.pfx
      have HMp2 := Lib.hid (HMp.out.grown hg2 (by simp))
      have HR2 := Lib.hid hr2
      have hb2 := Lib.hid (HBR.out.trans ((Below.refl w.heap.size wr).grown hg2 (by omega) (fun k hk => by cases hk; omega)))
      have hen2 : (Instr.entry (.pointer (some ⟨m + 1, 0, none⟩))).run Try.prog w2 = .ok (.tuple #[key, .agg #[.bool false, .int .u64 (hiOf false o.n), .int .u64 (loOf o.n), .int .i64 o.k, .int .i64 o.src, .int .i64 o.peer, .int .i64 o.met, .int .i64 o.hop]]) w2 := hen
      have HLT : Hid (cnt2 < wr.rangeLeft b (m + 1)) := by show _; rw [HR.out.left_eq]; exact hlt2
      have HTO := Lib.hid ho
      clear hen hr2 hkey hlk hfv hg2 ho HMp HR HBR
      cases hgo : g o.pl with
      | none =>
        have HB2 := Lib.hid (HB.out.put HL.out HD.out HTO.out (fun x hx hs => by
          have := HG.out.1 x hx
          rw [((HL.out x (HB.out.has x hx).1).pl_inj (HL.out o HTO.out)).2 hs, hgo] at this
          cases this))
        have HG2 := Lib.hid (MapM.put plKey HG.out o)
        clear HB HG
        go_wp2_with (first | (at_lookup; refine wpList_mp_look _ rfl _ _ 220 rfl _ _ keyedPfx Try.underlying220 (zeroOf _) _ _ _ rfl (Mp.alloc HMp2.out _) _ _ rfl KP.out ?_; rw [hgo]) | (at_mapUpdate; refine stop_at ?_; intro G hG))
        rw [← hG.out]; clear hG G
        refine wpList_mp_update _ rfl _ _ _ 220 rfl _ _ keyedPfx Try.underlying220 _ _ _ rfl ((HMp2.out.alloc _).alloc _) (by unfold maxLen; omega) _ (ofVal o) _ rfl rfl KP.out ?_
        intro w3 hmp3 hgr3
        have hl2 := HR2.out.lt
        have HR3 := Lib.hid (MpR.grown (HR2.out.kept (two_below w2 _ _) hl2.1 hl2.2) hgr3 (by simp; omega) (by simp))
        have hz3 := hgr3.size
        simp only [World.size_alloc] at hz3
        have HB3 := Lib.hid (hb2.out.trans (((two_below w2 _ _).mono (hb2.out.size)).trans (Below.grownMap hgr3 (by simp; omega) hz1)))
        have HM3 := Lib.hid hmp3
        clear hmp3 hgr3 HMp2 HR2 hb2
        go_frame
        (try go_wp2)
        go_roundw
        case rel => exact ⟨⟨_, cnt2, nb + 1, _, _, HR3.out, HG2.out, HB2.out, HM3.out, by omega⟩, HB3, by omega⟩
        case measure => rw [HR3.out.left_eq]; exact HLT.out
      | some u =>
        obtain ⟨x, hx, hpe, rfl⟩ := HG.out.2 _ u (plKey o) hgo
        have hgo2 : g o.pl = some (.agg #[.bool false, .int .u64 (hiOf false x.n), .int .u64 (loOf x.n), .int .i64 x.k, .int .i64 x.src, .int .i64 x.peer, .int .i64 x.met, .int .i64 x.hop]) := hgo
        have HPX : Hid (SameP x o) := ((HL.out x (HB.out.has x hx).1).pl_inj (HL.out o HTO.out)).1 hpe.symm
        have BT := Lib.hid (fun w => better_any o x w)
        have hbi := btr_iff o x
        have HX := Lib.hid hx
        clear hgo hpe hx
        generalize betterI o x = z at *
        by_cases hz : z < 0
        · have HB2 := Lib.hid (HB.out.put HL.out HD.out HTO.out (fun y hy hs => by
            rw [pair_eq HB.out.one SameP.symm hy HX.out (hs.trans HPX.out.symm)]
            exact hbi.1 hz))
          have HG2 := Lib.hid (MapM.put plKey HG.out o)
          have hd : decide (z < 0) = true := decide_eq_true hz
          clear HB HG hbi hz HX HPX
          go_wp2_with (first | (at_lookup; refine wpList_mp_look _ rfl _ _ 220 rfl _ _ keyedPfx Try.underlying220 (zeroOf _) _ _ _ rfl (Mp.alloc HMp2.out _) _ _ rfl KP.out ?_; rw [hgo2]) | ((with_reducible refine (BT.out _).mono ?_); rintro e w4 ⟨rfl, hb4⟩; (repeat (with_reducible (replace hb4 := Below.undrew hb4))); obtain ⟨hc4, hf4⟩ := bcell hb4; have hz4 := hb4.size; (repeat (first | rw [World.size_alloc] at hz4 | rw [World.size_drew] at hz4 | rw [World.size_setCell] at hz4)); (try have : w.heap.size < w4.heap.size := by omega); (try have : w.heap.size < w4.heap.size + 1 := by omega); (try have : w.heap.size < w4.heap.size + 1 + 1 := by omega); (try have : w.heap.size < w4.heap.size + 1 + 1 + 1 := by omega); (try have : w2.heap.size < w4.heap.size := by omega); (try have : w2.heap.size < w4.heap.size + 1 := by omega); (try have : w2.heap.size < w4.heap.size + 1 + 1 := by omega); (try have : w2.heap.size < w4.heap.size + 1 + 1 + 1 := by omega); (try have : w2.heap.size + 1 < w4.heap.size := by omega); (try have : w2.heap.size + 1 < w4.heap.size + 1 := by omega); (try have : w2.heap.size + 1 < w4.heap.size + 1 + 1 := by omega); (try have : w2.heap.size + 1 < w4.heap.size + 1 + 1 + 1 := by omega)) | (at_mapUpdate; refine stop_at ?_; intro G hG))
          rw [← hG.out]; clear hG G
          have hl2 := HR2.out.lt
          have h24 := Lib.hid ((two_below w2 _ _).trans (hb4.mono (by simp; omega)))
          clear hb4 hc4 hf4
          refine wpList_mp_update _ rfl _ _ _ 220 rfl _ _ keyedPfx Try.underlying220 _ _ _ rfl (HMp2.out.below h24.out) (by unfold maxLen; omega) _ (ofVal o) _ rfl rfl KP.out ?_
          intro w3 hmp3 hgr3
          have HR3 := Lib.hid (MpR.grown (HR2.out.kept h24.out hl2.1 hl2.2) hgr3 (by simp; omega) (by simp))
          have hz3 := hgr3.size
          have HB3 := Lib.hid (hb2.out.trans ((h24.out.mono (hb2.out.size)).trans (Below.grownMap hgr3 (by omega) hz1)))
          have HM3 := Lib.hid hmp3
          clear hmp3 hgr3 h24 HMp2 HR2 hb2
          go_frame
          (try go_wp2)
          go_roundw
          case rel => exact ⟨⟨_, cnt2, nb + 1, _, _, HR3.out, HG2.out, HB2.out, HM3.out, by omega⟩, HB3, by omega⟩
          case measure => rw [HR3.out.left_eq]; exact HLT.out
        · have HB2 := Lib.hid (HB.out.skip HL.out HD.out HTO.out HX.out HPX.out (fun h => hz (hbi.2 h)))
          have hd : decide (z < 0) = false := decide_eq_false hz
          clear HB hbi hz HX HPX
          go_wp2_with (first | (at_lookup; refine wpList_mp_look _ rfl _ _ 220 rfl _ _ keyedPfx Try.underlying220 (zeroOf _) _ _ _ rfl (Mp.alloc HMp2.out _) _ _ rfl KP.out ?_; rw [hgo2]) | ((with_reducible refine (BT.out _).mono ?_); rintro e w4 ⟨rfl, hb4⟩; (repeat (with_reducible (replace hb4 := Below.undrew hb4))); obtain ⟨hc4, hf4⟩ := bcell hb4; have hz4 := hb4.size; (repeat (first | rw [World.size_alloc] at hz4 | rw [World.size_drew] at hz4 | rw [World.size_setCell] at hz4)); (try have : w.heap.size < w4.heap.size := by omega); (try have : w.heap.size < w4.heap.size + 1 := by omega); (try have : w.heap.size < w4.heap.size + 1 + 1 := by omega); (try have : w.heap.size < w4.heap.size + 1 + 1 + 1 := by omega); (try have : w2.heap.size < w4.heap.size := by omega); (try have : w2.heap.size < w4.heap.size + 1 := by omega); (try have : w2.heap.size < w4.heap.size + 1 + 1 := by omega); (try have : w2.heap.size < w4.heap.size + 1 + 1 + 1 := by omega); (try have : w2.heap.size + 1 < w4.heap.size := by omega); (try have : w2.heap.size + 1 < w4.heap.size + 1 := by omega); (try have : w2.heap.size + 1 < w4.heap.size + 1 + 1 := by omega); (try have : w2.heap.size + 1 < w4.heap.size + 1 + 1 + 1 := by omega)) | (at_mapUpdate; refine stop_at ?_; intro G hG))
          have hl2 := HR2.out.lt
          have h24 := Lib.hid ((two_below w2 _ _).trans (hb4.mono (by simp; omega)))
          clear hb4 hc4 hf4
          have HR3 := Lib.hid (HR2.out.kept h24.out hl2.1 hl2.2)
          have HB3 := Lib.hid (hb2.out.trans (h24.out.mono (hb2.out.size)))
          have HM3 := Lib.hid (HMp2.out.below h24.out)
          clear h24 HMp2 HR2 hb2
          go_roundw
          case rel => exact ⟨⟨_, cnt2, nb, M, g, HR3.out, HG.out, HB2.out, HM3.out, by omega⟩, HB3, by omega⟩
          case measure => rw [HR3.out.left_eq]; exact HLT.out
end Go.Proofs.Ytllemhknmleklaa
