
/- Contract: fewest's give. -/
import Derived.Test.YtoecmoicaklbaaaFw6
set_option linter.unusedVariables false
set_option linter.unusedSimpArgs false
namespace Go.Proofs.Ytoecmoicaklbaaa
open Go Go.RowKit Go.Sort Wc Wk

/-- A slice of the call's own has come to another one, and all else stands. -/
structure Gr (w w' : World) (v v' : Value) : Prop where
  g : w.grownBy w' v.ownBlock
  at_ : ∀ k, v'.ownBlock = some k → v.ownBlock = some k ∨ w.heap.size ≤ k
theorem Gr.of_below {w w' : World} (v : Value) (hb : Below w.heap.size w w') : Gr w w' v v := ⟨⟨hb.os, hb.tape, hb.output, hb.size, fun k hk _ => hb.block k hk⟩, fun k h => .inl h⟩
theorem Gr.trans {w w1 w2 : World} {v v1 v2 : Value} (h : Gr w w1 v v1) (k : Gr w1 w2 v1 v2) : Gr w w2 v v2 := by
  refine ⟨⟨k.g.os.trans h.g.os, k.g.tape.trans h.g.tape, k.g.output.trans h.g.output, Nat.le_trans h.g.size k.g.size, fun b hb hne => ?_⟩, fun b hb => ?_⟩
  · refine (k.g.block b (Nat.lt_of_lt_of_le hb h.g.size) (fun e => ?_)).trans (h.g.block b hb hne)
    rcases h.at_ b e.symm with h1 | h1
    · exact hne h1.symm
    · omega
  · rcases k.at_ b hb with h1 | h1
    · exact h.at_ b h1
    · exact .inr (Nat.le_trans h.g.size h1)
theorem Gr.low {w w' : World} {v v' : Value} (h : Gr w w' v v') {B : Nat} (hB : B ≤ w.heap.size) (hv : ∀ k, v.ownBlock = some k → B ≤ k) : Below B w w' := Below.of_grown h.g hB hv
theorem Gr.rx {w w' : World} {v v' : Value} (h : Gr w w' v v') {b : Nat} {c : List Value} (r : RX w b c) (hv : ∀ k, v.ownBlock = some k → k ≠ b) : RX w' b c := r.grown h.g hv
def HT.hd (t : HT) : Nat := t.set.headD 0
def HT.top (t : HT) (a : Nat) : Nat := if a ∈ t.set then a else t.hd
def HT.own1 (t : HT) (n k a : Nat) : List (Nat × Nat × Nat) := if a ∈ t.set then [] else [(n, k, t.hd)]
/-- The routes of a tree below a prefix, where what stands above goes to a hop. -/
def HT.give : HT → Nat → Nat → Nat → List (Nat × Nat × Nat)
  | .leaf h, n, k, a => (HT.leaf h).own1 n k a
  | .node l r, n, k, a => (HT.node l r).own1 n k a ++ (l.give n (k + 1) ((HT.node l r).top a) ++ r.give (halfN 32 n k 1) (k + 1) ((HT.node l r).top a))
def HT.depth : HT → Nat
  | .leaf _ => 0
  | .node l r => max l.depth r.depth + 1
theorem own1_len (t : HT) (n k a : Nat) : (t.own1 n k a).length ≤ 1 := by unfold HT.own1; split <;> simp
theorem leaves_pos : ∀ t : HT, 1 ≤ t.leaves
  | .leaf _ => Nat.le_refl _
  | .node l r => by have := leaves_pos l; simp only [HT.leaves]; omega
theorem give_len : ∀ (t : HT) (n k a : Nat), (t.give n k a).length + 1 ≤ 2 * t.leaves
  | .leaf h, n, k, a => by have := own1_len (.leaf h) n k a; simp only [HT.give, HT.leaves]; omega
  | .node l r, n, k, a => by
    have h1 := give_len l n (k + 1) ((HT.node l r).top a)
    have h2 := give_len r (halfN 32 n k 1) (k + 1) ((HT.node l r).top a)
    have h3 := own1_len (.node l r) n k a
    simp only [HT.give, HT.leaves, List.length_append]
    omega
theorem set_hd (t : HT) : t.set[0]? = some t.hd := by
  unfold HT.hd
  have := HT.set_pos t
  cases h : t.set with
  | nil => rw [h] at this; simp at this
  | cons x xs => rfl
def FT.pv : FT → Value
  | .leaf _ _ => .pointer none
  | .node _ p _ _ _ => ptrN p
def FT.hop : FT → Nat
  | .leaf _ h => h
  | .node _ _ h _ _ => h
theorem Hd.rootx {w : World} {S : Nat → Value} : ∀ {t : FT}, Hd w (t.cells S) → RX w t.root (nodeC t.pv t.hop (S t.root))
  | .leaf b h, k => k.rx (b, nodeC (.pointer none) h (S b)) (by simp [FT.cells])
  | .node b p h l r, k => k.node.1
def GiveSays (w : World) (B : Nat) (v : Value) (O L : List (Nat × Nat × Nat)) (e : Ending) (w' : World) : Prop :=
  ∃ a c, e = .returned (.slice a (O ++ L).length c) ∧ Wk.Own w' B 49 5 (.slice a (O ++ L).length c) ((O ++ L).map routeCells) ∧ Gr w w' v (.slice a (O ++ L).length c)
def GiveP (w0 : World) (B' : Nat) (S : Nat → Value) (t : FT) : Prop :=
  ∀ (w : World) (n k ab : Nat) (va : Option Addr) (vc : Nat) (O : List (Nat × Nat × Nat)), Hd w0 (t.cells S) → SetsOk w0 B' S t → Below w0.heap.size w0 w → VP false n k → t.er.depth + k ≤ 32 → t.er.leaves ≤ 5000 → Wk.Own w w0.heap.size 49 5 (.slice va O.length vc) (O.map routeCells) → O.length + 2 * t.er.leaves ≤ 100000 →
    Calls Try.prog 56 #[ptrN t.root, Value.agg #[.bool false, .int .u64 (hiOf false n), .int .u64 (loOf n), .int .i64 k], .int .i64 (ab : Nat), .slice va O.length vc] w (GiveSays w w0.heap.size (.slice va O.length vc) O (t.er.give n k ab))

/-- What region after region reads. -/
structure Sev (w : World) (b p A n k : Nat) (u v x : Value) : Prop where
  e0 : w.cell? ⟨b, 0, none⟩ = some u
  e1 : w.cell? ⟨p, 0, none⟩ = some v
  e2 : w.cell? ⟨p, 1, none⟩ = some x
  ra : RX w A (preCells false n k)
  lb : b < w.heap.size
  lp : p < w.heap.size
theorem Sev.below {w w' : World} {b p A n k : Nat} {u v x : Value} (h : Sev w b p A n k u v x) (hb : Below w.heap.size w w') : Sev w' b p A n k u v x :=
  ⟨(hb.cell (p := ⟨b, 0, none⟩) h.lb).trans h.e0, (hb.cell (p := ⟨p, 0, none⟩) h.lp).trans h.e1, (hb.cell (p := ⟨p, 1, none⟩) h.lp).trans h.e2, h.ra.below hb, Nat.lt_of_lt_of_le h.lb hb.size, Nat.lt_of_lt_of_le h.lp hb.size⟩
theorem Sev.gr {w w' : World} {b p A n k : Nat} {u v x o o' : Value} (h : Sev w b p A n k u v x) (g : Gr w w' o o') (ho : ∀ z, o.ownBlock = some z → z ≠ b ∧ z ≠ p ∧ z ≠ A) : Sev w' b p A n k u v x :=
  ⟨(World.cell?_of_block (a := ⟨b, 0, none⟩) (g.g.block b h.lb (fun e => (ho b e.symm).1 rfl))).trans h.e0, (World.cell?_of_block (a := ⟨p, 0, none⟩) (g.g.block p h.lp (fun e => (ho p e.symm).2.1 rfl))).trans h.e1, (World.cell?_of_block (a := ⟨p, 1, none⟩) (g.g.block p h.lp (fun e => (ho p e.symm).2.1 rfl))).trans h.e2, g.rx h.ra (fun z hz => (ho z hz).2.2), Nat.lt_of_lt_of_le h.lb g.g.size, Nat.lt_of_lt_of_le h.lp g.g.size⟩
theorem Sev.say {w : World} {b p A n k : Nat} {u v x : Value} (h : Sev w b p A n k u v x) : w.cell? ⟨b, 0, none⟩ = some u ∧ w.cell? ⟨p, 0, none⟩ = some v ∧ w.cell? ⟨p, 1, none⟩ = some x ∧ w.cell? ⟨A, 0, none⟩ = some (.bool false) ∧ w.cell? ⟨A, 1, none⟩ = some (.int .u64 (hiOf false n)) ∧ w.cell? ⟨A, 2, none⟩ = some (.int .u64 (loOf n)) ∧ w.cell? ⟨A, 3, none⟩ = some (.int .i64 (k : Nat)) :=
  ⟨h.e0, h.e1, h.e2, h.ra.cell 0 _ rfl, h.ra.cell 1 _ rfl, h.ra.cell 2 _ rfl, h.ra.cell 3 _ rfl⟩

set_option maxRecDepth 100000 in
set_option maxHeartbeats 4000000 in
theorem give_step (w0 : World) (B' : Nat) (S : Nat → Value) (t : FT) (IH : ∀ b p h l r, t = .node b p h l r → GiveP w0 B' S l ∧ GiveP w0 B' S r) : GiveP w0 B' S t := by
  intro w n k ab va vc O hd hs hb hv hdep hlv ho hlen
  have hroot := hd.rootx
  have hrw := hroot.below hb
  obtain ⟨sa, sc, eS, hso⟩ := hs.top
  have c2 : w.cell? ⟨t.root, 2, none⟩ = some (S t.root) := hrw.cell 2 _ rfl
  rw [eS] at c2
  have lr := hrw.lt
  obtain ⟨rt, hrt⟩ : ∃ rt, rt = t.root := ⟨_, rfl⟩
  rw [← hrt] at c2 lr ⊢
  have HRT := Lib.hid hrt
  have hsw := hso.below hb
  have HSS := Lib.hid hsw.sl
  have hset := HT.set_len t.er
  have HHD := Lib.hid (set_hd t.er)
  have HB := Lib.hid hb
  have HV := Lib.hid hv
  have HDP := Lib.hid hdep
  have HLV := Lib.hid hlv
  have HO := Lib.hid ho
  have hol : O.length ≤ 100000 := by omega
  have HLN := Lib.hid hlen
  have HD := Lib.hid hd
  have HS := Lib.hid hs
  obtain ⟨q, hq⟩ : ∃ q, q = t.er.set.length := ⟨_, rfl⟩
  rw [← hq] at c2 HSS
  have HQ := Lib.hid hq
  have hq5 : q ≤ 5000 := by omega
  have CN : Hid (∀ W, Below w.heap.size w W → Calls Try.prog 96 #[.slice sa q sc, .int .i64 (ab : Nat)] W fun e w' => e = .returned (.bool (decide (ab ∈ t.er.set))) ∧ W = w') := fun W hW => by
    have h1 := HSS.out.below hW
    rw [HQ.out] at h1 ⊢
    exact containsN_any sa sc t.er.set ab W h1 (by rw [← HQ.out]; omega)
  obtain ⟨A, hA⟩ : ∃ A, A = w.heap.size := ⟨_, rfl⟩
  obtain ⟨V, hV⟩ : ∃ V, V = w.alloc (.cells (preCells false n k).toArray 30) := ⟨_, rfl⟩
  have hVB : Below w.heap.size w V := by rw [hV]; exact (Below.refl _ _).alloc (Nat.le_refl _) _
  have RA : Hid (RX V A (preCells false n k)) := by rw [hV, hA]; exact rx_new _ _
  have HAN := Lib.hid (show ∀ g, (Value.slice va O.length vc).ownBlock = some g → g ≠ A from fun g hg => by have := (ho.lt g hg).2; omega)
  have CV := Lib.hid (CN.out V hVB)
  clear hroot hrw eS hso hsw hset hb hv hdep hlv ho hlen hd hs hq CN hrt
  go_enter Try.func56, Try.ntmps56
  have hV' := hV
  simp only [preCells] at hV'
  go_wp2_with fail
  rw [← hV']
  clear hV hV'
  rw [← hA]
  have HAe := Lib.hid hA
  clear hA
  go_upto_if 15 with (with_reducible refine CV.out.mono ?_; rintro e w' ⟨rfl, rfl⟩)
  have HVB := Lib.hid hVB
  have lrV : rt < V.heap.size := Nat.lt_of_lt_of_le lr hVB.size
  have c2' : V.cell? ⟨rt, 2, none⟩ = some (.slice sa q sc) := (hVB.cell (p := ⟨rt, 2, none⟩) lr).trans c2
  have h1 := HSS.out.below hVB
  obtain ⟨g, off, rfl, hg, d0⟩ := Sl.nat h1 HHD.out
  have hq0 : 0 < q := by rw [HQ.out]; exact HT.set_pos _
  have a0 := RA.out.cell 0 _ rfl
  have a1 := RA.out.cell 1 _ rfl
  have a2 := RA.out.cell 2 _ rfl
  have a3 := RA.out.cell 3 _ rfl
  have la := RA.out.lt
  have HOV := Lib.hid (HO.out.below hVB)
  have hzV : w0.heap.size ≤ V.heap.size := Nat.le_trans HB.out.size hVB.size
  have HEG : Hid (HT.give t.er n k ab = t.er.own1 n k ab ++ (match t.er with | .leaf _ => [] | .node l r => l.give n (k + 1) (t.er.top ab) ++ r.give (halfN 32 n k 1) (k + 1) (t.er.top ab))) := by
    show _ = _
    cases t.er with
    | leaf h => simp [HT.give]
    | node l r => rfl
  obtain ⟨O2, hO2⟩ : ∃ O2, O2 = O ++ t.er.own1 n k ab := ⟨_, rfl⟩
  have HO2 := Lib.hid hO2
  have h2l : O2.length ≤ O.length + 1 := by rw [hO2, List.length_append]; have := own1_len t.er n k ab; omega
  rw [Nat.add_zero] at d0
  clear h1 hO2 hVB c2 CV
  go_cut [2, 3] (fun v2 v3 wx => v2 = .int .i64 (t.er.top ab : Nat) ∧ ∃ a c, v3 = .slice a O2.length c ∧ Hid (Wk.Own wx w0.heap.size 49 5 (.slice a O2.length c) (O2.map routeCells)) ∧ Hid (Gr V wx (.slice va O.length vc) (.slice a O2.length c)) ∧ Hid (RX wx A (preCells false n k)))
  case first =>
    by_cases hm : ab ∈ t.er.set
    · have e1 : t.er.top ab = ab := if_pos hm
      have e2 : O2 = O := by rw [HO2.out, HT.own1, if_pos hm, List.append_nil]
      rw [decide_eq_true hm]
      go_wp2_with fail
      go_meet
      rw [e1, e2]
      exact ⟨rfl, va, vc, rfl, HOV, Gr.of_below _ (Below.refl _ _), RA⟩
    · have e1 : t.er.top ab = t.er.hd := if_neg hm
      have e2 : O2 = O ++ [(n, k, t.er.hd)] := by rw [HO2.out, HT.own1, if_neg hm]
      have HE1 := Lib.hid e1
      have HE2 := Lib.hid e2
      clear e1 e2
      rw [decide_eq_false hm]
      generalize t.er.hd = hp at *
      go_wp2_with (at_builtin; refine stop_at ?_; intro G hG)
      rw [← hG.out]; clear hG G
      refine wpList_append_at rfl _ _ 43 49 5 40 _ rfl eiRoute w0.heap.size (.slice va O.length vc) (O.map routeCells) rfl (HOV.out.alloc _) _ [routeCells (n, k, hp)] rfl (sl_new (c := routeCells (n, k, hp)) (by simp) rfl) (by intro c hc; simp at hc; subst hc; exact routeCells_one _) (by simp; omega) (by decide) (by simp; omega) (by simp) ?_
      intro v7 w7 hown hgr hb7 hat
      rw [show O.map routeCells ++ [routeCells (n, k, hp)] = O2.map routeCells by rw [HE2.out, List.map_append]; rfl] at hown
      obtain ⟨a7, c7, rfl⟩ := hown.shape
      rw [List.length_map] at hown hat ⊢
      have HO7 := Lib.hid hown
      have hVal : Below V.heap.size V (V.alloc (.cells (routeCells (n, k, hp)).toArray 49)) := (Below.refl _ _).alloc (Nat.le_refl _) _
      have HG7 : Hid (Gr V w7 (.slice va O.length vc) (.slice a7 O2.length c7)) := (Gr.of_below _ hVal).trans ⟨hgr, fun z hz => hat.elim (fun e => .inl (e ▸ hz)) (fun e => by rw [hz] at e; cases e; exact .inr (Nat.le_refl _))⟩
      have RA7 := Lib.hid (HG7.out.rx RA.out HAN.out)
      clear hown hgr hb7 hat hVal
      go_wp2_with fail
      go_meet
      rw [HE1.out]
      exact ⟨rfl, _, _, rfl, HO7, HG7, RA7⟩
  case rest =>
    obtain ⟨rfl, a2', cc2, rfl, HO3, HG3, RA3⟩ := hcut
    have HNA3 := Lib.hid (show ∀ z, (Value.slice a2' O2.length cc2).ownBlock = some z → z ≠ A from fun z hz => (HG3.out.at_ z hz).elim (fun h1 => HAN.out z h1) (fun h1 => by omega))
    have HOB := Lib.hid (show ∀ z, (Value.slice va O.length vc).ownBlock = some z → w0.heap.size ≤ z from fun z hz => (HOV.out.lt z hz).1)
    have HBc := Lib.hid (HB.out.trans ((HVB.out.mono HB.out.size).trans (HG3.out.low hzV HOB.out)))
    have HGc := Lib.hid ((Gr.of_below (.slice va O.length vc) HVB.out).trans HG3.out)
    clear d0 a0 a1 a2 a3 la c2' HOV HSS HHD HQ hq0 hq5 hg lr lrV HG3 RA HOB HAN
    cases t with
    | leaf b h =>
      have hrw := HD.out.rootx.below HBc.out
      rw [← HRT.out] at hrw
      have c0 : wc.cell? ⟨rt, 0, none⟩ = some (.pointer none) := hrw.cell 0 _ rfl
      have lr := hrw.lt
      have HEE : Hid (O2 = O ++ (FT.leaf b h).er.give n k ab) := by show _ = _; rw [HO2.out]; rfl
      clear hrw
      go_wp2_with fail
      refine bodyPost_ret (v := .slice a2' O2.length cc2) (by simp [results, Try.results56, go_sem]) rfl ?_
      show GiveSays _ _ _ _ _ _ _
      unfold GiveSays
      rw [← HEE.out]
      exact ⟨_, _, rfl, HO3.out, HGc.out⟩
    | node b p h l r =>
      obtain ⟨IHl, IHr⟩ := IH b p h l r rfl
      have hrw := HD.out.rootx.below HBc.out
      rw [← HRT.out] at hrw
      obtain ⟨_, hpx, hdl, hdr, _⟩ := HD.out.node
      have hpw := hpx.below HBc.out
      have SV : Hid (Sev wc rt p A n k (ptrN p) (ptrN l.root) (ptrN r.root)) := ⟨hrw.cell 0 _ rfl, hpw.cell 0 _ rfl, hpw.cell 1 _ rfl, RA3.out, hrw.lt, hpw.lt⟩
      have hdp : l.er.depth + (k + 1) ≤ 32 ∧ r.er.depth + (k + 1) ≤ 32 := by
        have := HDP.out
        simp only [FT.er, HT.depth] at this
        omega
      have hlv2 : l.er.leaves + r.er.leaves ≤ 5000 := HLV.out
      have hk32 : k < 32 := by omega
      have hvp := half_vp HV.out (show k < wd false from hk32)
      have HF1 : Hid (∀ w, Calls Try.prog 72 #[Value.agg #[.bool false, .int .u64 (hiOf false n), .int .u64 (loOf n), .int .i64 k], .int .i64 0] w fun e w' => e = .returned (Value.agg #[.bool false, .int .u64 (hiOf false n), .int .u64 (loOf n), .int .i64 ((k : Int) + 1)]) ∧ Below w.heap.size w w') := fun w => half_low false n k w (by omega)
      have HF2 : Hid (∀ w, Calls Try.prog 72 #[Value.agg #[.bool false, .int .u64 (hiOf false n), .int .u64 (loOf n), .int .i64 k], .int .i64 1] w fun e w' => e = .returned (Value.agg #[.bool false, .int .u64 (hiOf false (halfN 32 n k 1)), .int .u64 (loOf (halfN 32 n k 1)), .int .i64 ((k : Int) + 1)]) ∧ Below w.heap.size w w') := fun w => half_high false n k w HV.out hk32
      have hln := HLN.out
      have hl1 := leaves_pos l.er
      have hr1 := leaves_pos r.er
      have L1 : Hid (∀ (W : World), Below wc.heap.size wc W → Calls Try.prog 56 #[ptrN l.root, Value.agg #[.bool false, .int .u64 (hiOf false n), .int .u64 (loOf n), .int .i64 ((k : Int) + 1)], .int .i64 ((FT.node b p h l r).er.top ab : Nat), .slice a2' O2.length cc2] W (GiveSays W w0.heap.size (.slice a2' O2.length cc2) O2 (l.er.give n (k + 1) ((FT.node b p h l r).er.top ab)))) := (fun (W : World) (hW : Below wc.heap.size wc W) => IHl W n (k + 1) ((FT.node b p h l r).er.top ab) a2' cc2 O2 hdl HS.out.2.1 (HBc.out.trans (hW.mono HBc.out.size)) hvp.1 hdp.1 (by omega) (HO3.out.below hW) (by simp only [FT.er, HT.leaves] at hln; omega))
      have hrt0 : rt < w0.heap.size := by rw [HRT.out]; exact HD.out.top
      have hp0 : p < w0.heap.size := hpx.lt
      have HOX := Lib.hid (show ∀ z, (Value.slice a2' O2.length cc2).ownBlock = some z → z ≠ rt ∧ z ≠ p ∧ z ≠ A from fun z hz => by
        have := (HO3.out.lt z hz).1
        exact ⟨by omega, by omega, HNA3.out z hz⟩)
      have L2 : Hid (∀ (w4 : World) (a4 : Option Addr) (c4 : Nat) (O4 : List (Nat × Nat × Nat)) (hB4 : Below w0.heap.size w0 w4) (hO4 : Wk.Own w4 w0.heap.size 49 5 (.slice a4 O4.length c4) (O4.map routeCells)) (h4 : O4.length + 1 ≤ O2.length + 2 * l.er.leaves) (W : World) (hW : Below w4.heap.size w4 W), Calls Try.prog 56 #[ptrN r.root, Value.agg #[.bool false, .int .u64 (hiOf false (halfN 32 n k 1)), .int .u64 (loOf (halfN 32 n k 1)), .int .i64 ((k : Int) + 1)], .int .i64 ((FT.node b p h l r).er.top ab : Nat), .slice a4 O4.length c4] W (GiveSays W w0.heap.size (.slice a4 O4.length c4) O4 (r.er.give (halfN 32 n k 1) (k + 1) ((FT.node b p h l r).er.top ab)))) := (fun (w4 : World) (a4 : Option Addr) (c4 : Nat) (O4 : List (Nat × Nat × Nat)) (hB4 : Below w0.heap.size w0 w4) (hO4 : Wk.Own w4 w0.heap.size 49 5 (.slice a4 O4.length c4) (O4.map routeCells)) (h4 : O4.length + 1 ≤ O2.length + 2 * l.er.leaves) (W : World) (hW : Below w4.heap.size w4 W) =>
        IHr W (halfN 32 n k 1) (k + 1) ((FT.node b p h l r).er.top ab) a4 c4 O4 hdr HS.out.2.2 (hB4.trans (hW.mono hB4.size)) hvp.2 hdp.2 (by omega) (hO4.below hW) (by simp only [FT.er, HT.leaves] at hln; omega))
      have HEE : Hid ((O2 ++ l.er.give n (k + 1) ((FT.node b p h l r).er.top ab)) ++ r.er.give (halfN 32 n k 1) (k + 1) ((FT.node b p h l r).er.top ab) = O ++ (FT.node b p h l r).er.give n k ab) := by
        show _ = _
        rw [HEG.out, HO2.out, List.append_assoc, List.append_assoc]
        rfl
      have HGL := Lib.hid (give_len l.er n (k + 1) ((FT.node b p h l r).er.top ab))
      have h2l' : O2.length ≤ 100001 := by omega
      obtain ⟨s0, s1, s2, s3, s4, s5, s6⟩ := SV.out.say
      have lrt := SV.out.lb
      have lpp := SV.out.lp
      have lA := RA3.out.lt
      clear hrw hpx hdl hdr hpw hvp hln hl1 hr1 IH IHl IHr hdp hlv2 HLV HLN HDP HEG HD HS HV HO2 HNA3 h2l
      generalize (FT.node b p h l r).er.top ab = tp at *
      go_wp2_with fail
      refine wp_region_held_drew (S := (fun w' => w'.cell? ⟨rt, 0, none⟩ = some (ptrN p) ∧ w'.cell? ⟨p, 0, none⟩ = some (ptrN l.root) ∧ w'.cell? ⟨p, 1, none⟩ = some (ptrN r.root) ∧ w'.cell? ⟨A, 0, none⟩ = some (.bool false) ∧ w'.cell? ⟨A, 1, none⟩ = some (.int .u64 (hiOf false n)) ∧ w'.cell? ⟨A, 2, none⟩ = some (.int .u64 (loOf n)) ∧ w'.cell? ⟨A, 3, none⟩ = some (.int .i64 (k : Nat)))) (by kernel_rfl) ?_ (fun hHeld => ?_)
      · ((try dsimp only); (first | (first | (go_simp; done) | (simp [*, go_sem, World.cell?_alloc_past]; done) | (simp [*, go_sem, World.cell?_alloc_past, World.cell?_setCell_far]; done)) | exact SV4.out.say | exact SV2.out.say | trivial))
      (refine wpAnyH_take (i := 0) (oi := _) (v := ?_) (by simp only [List.getElem?_toArray, List.getElem?_cons_zero, List.getElem?_cons_succ]; rfl) (by kernel_rfl) (by decide +kernel) (by decide +kernel) (by exact fun _ _ _ h => h) (Or.inl ⟨by rfl, ?_⟩) (by assumption) ?_; rotate_left; (· ((intro w hSw); (try dsimp only at hSw); go_simp; (try with_reducible rfl))); (try simp only [Act.put, List.setIfInBounds_toArray, List.set_cons_zero, List.set_cons_succ]))
      (refine wpAnyH_take (i := 1) (oi := _) (v := ?_) (by simp only [List.getElem?_toArray, List.getElem?_cons_zero, List.getElem?_cons_succ]; rfl) (by kernel_rfl) (by decide +kernel) (by decide +kernel) (by exact fun _ _ _ h => h) (Or.inl ⟨by rfl, ?_⟩) (by assumption) ?_; rotate_left; (· ((intro w hSw); (try dsimp only at hSw); go_simp; (try with_reducible rfl))); (try simp only [Act.put, List.setIfInBounds_toArray, List.set_cons_zero, List.set_cons_succ]))
      (refine wpAnyH_take (i := 2) (oi := _) (v := ?_) (by simp only [List.getElem?_toArray, List.getElem?_cons_zero, List.getElem?_cons_succ]; rfl) (by kernel_rfl) (by decide +kernel) (by decide +kernel) (by exact fun _ _ _ h => h) (Or.inl ⟨by rfl, ?_⟩) (by assumption) ?_; rotate_left; (· ((intro w hSw); (try dsimp only at hSw); go_simp; (try with_reducible rfl))); (try simp only [Act.put, List.setIfInBounds_toArray, List.set_cons_zero, List.set_cons_succ]))
      (refine wpAnyH_take (i := 3) (oi := _) (v := ?_) (by simp only [List.getElem?_toArray, List.getElem?_cons_zero, List.getElem?_cons_succ]; rfl) (by kernel_rfl) (by decide +kernel) (by decide +kernel) (by exact fun _ _ _ h => h) (Or.inl ⟨by rfl, ?_⟩) (by assumption) ?_; rotate_left; (· ((intro w hSw); (try dsimp only at hSw); go_simp; (try with_reducible rfl))); (try simp only [Act.put, List.setIfInBounds_toArray, List.set_cons_zero, List.set_cons_succ]))
      (refine wpAnyH_take (i := 4) (oi := _) (v := ?_) (by simp only [List.getElem?_toArray, List.getElem?_cons_zero, List.getElem?_cons_succ]; rfl) (by kernel_rfl) (by decide +kernel) (by decide +kernel) (by exact fun _ _ _ h => h) (Or.inl ⟨by rfl, ?_⟩) (by assumption) ?_; rotate_left; (· ((intro w hSw); (try dsimp only at hSw); go_simp; (try with_reducible rfl))); (try simp only [Act.put, List.setIfInBounds_toArray, List.set_cons_zero, List.set_cons_succ]))
      (refine wpAnyH_take (i := 5) (oi := _) (v := ?_) (by simp only [List.getElem?_toArray, List.getElem?_cons_zero, List.getElem?_cons_succ]; rfl) (by kernel_rfl) (by decide +kernel) (by decide +kernel) (by exact fun _ _ _ h => h) (Or.inl ⟨by rfl, ?_⟩) (by assumption) ?_; rotate_left; (· ((intro w hSw); (try dsimp only at hSw); go_simp; (try with_reducible rfl))); (try simp only [Act.put, List.setIfInBounds_toArray, List.set_cons_zero, List.set_cons_succ]))
      (refine wpAnyH_take (i := 6) (oi := _) (v := ?_) (by simp only [List.getElem?_toArray, List.getElem?_cons_zero, List.getElem?_cons_succ]; rfl) (by kernel_rfl) (by decide +kernel) (by decide +kernel) (by exact fun _ _ _ h => h) (Or.inl ⟨by rfl, ?_⟩) (by assumption) ?_; rotate_left; (· ((intro w hSw); (try dsimp only at hSw); go_simp; (try with_reducible rfl))); (try simp only [Act.put, List.setIfInBounds_toArray, List.set_cons_zero, List.set_cons_succ]))
      (refine wpAnyH_take (i := 7) (oi := _) (v := ?_) (by simp only [List.getElem?_toArray, List.getElem?_cons_zero, List.getElem?_cons_succ]; rfl) (by kernel_rfl) (by decide +kernel) (by decide +kernel) (by exact fun _ _ _ h => h) (Or.inl ⟨by rfl, ?_⟩) (by assumption) ?_; rotate_left; (· ((intro w hSw); (try dsimp only at hSw); go_simp; (try with_reducible rfl))); (try simp only [Act.put, List.setIfInBounds_toArray, List.set_cons_zero, List.set_cons_succ]))
      (refine wpAnyH_take (i := 9) (oi := _) (v := ?_) (by simp only [List.getElem?_toArray, List.getElem?_cons_zero, List.getElem?_cons_succ]; rfl) (by kernel_rfl) (by decide +kernel) (by decide +kernel) (by exact fun _ _ _ h => h) (Or.inl ⟨by rfl, ?_⟩) (by assumption) ?_; rotate_left; (· ((intro w hSw); (try dsimp only at hSw); go_simp; (try with_reducible rfl))); (try simp only [Act.put, List.setIfInBounds_toArray, List.set_cons_zero, List.set_cons_succ]))
      (refine wpAnyH_take (i := 10) (oi := _) (v := ?_) (by simp only [List.getElem?_toArray, List.getElem?_cons_zero, List.getElem?_cons_succ]; rfl) (by kernel_rfl) (by decide +kernel) (by decide +kernel) (by exact fun _ _ _ h => h) (Or.inl ⟨by rfl, ?_⟩) (by assumption) ?_; rotate_left; (· ((intro w hSw); (try dsimp only at hSw); go_simp; (try with_reducible rfl))); (try simp only [Act.put, List.setIfInBounds_toArray, List.set_cons_zero, List.set_cons_succ]))
      repeat' (first
        | (refine wpAnyH_take (i := 12) (oi := _) (v := ?_) (by simp only [List.getElem?_toArray, List.getElem?_cons_zero, List.getElem?_cons_succ]; rfl) (by kernel_rfl) (by decide +kernel) (by decide +kernel) (by exact fun _ _ _ h => h) (Or.inl ⟨by rfl, ?_⟩) (by assumption) ?_; rotate_left; (· ((intro w hSw); (try dsimp only at hSw); go_simp; (try with_reducible rfl))); (try simp only [Act.put, List.setIfInBounds_toArray, List.set_cons_zero, List.set_cons_succ]))
        | (refine wpAnyH_ready (rs := [8]) (by decide +kernel) (by simp) (AllReadyH.cons (by simp only [List.getElem?_toArray, List.getElem?_cons_zero, List.getElem?_cons_succ]; rfl) (fun K hK => ?_) AllReadyH.nil); all_goals ((first | fail | (go_simp; (first | ((with_reducible refine (HF1.out _).mono ?_); rintro e w2 ⟨rfl, hb2⟩; (have SV2 := Lib.hid ((SV.out.below (Below.drew (Below.refl _ _))).below hb2)); (have hW2 : Below wc.heap.size wc w2 := (Below.drew (Below.refl _ _)).trans hb2)) | ((with_reducible refine (L1.out _ hW2).mono ?_); rintro e w4 ⟨a4, c4, rfl, ho4, hg4⟩; (have SV4 := Lib.hid (SV2.out.gr hg4 HOX.out)); obtain ⟨O4, hO4⟩ : ∃ O4, O4 = O2 ++ l.er.give n (k + 1) tp := ⟨_, rfl⟩; rw [← hO4] at ho4 hg4 ⊢; have HO4E := Lib.hid hO4; clear hO4) | skip))); (refine hK.out _ _ ?_ (fun hHeld => ?_)); (· ((try dsimp only); (first | (first | (go_simp; done) | (simp [*, go_sem, World.cell?_alloc_past]; done) | (simp [*, go_sem, World.cell?_alloc_past, World.cell?_setCell_far]; done)) | exact SV4.out.say | exact SV2.out.say | trivial))); (clear hK K; (try simp only [Act.put, List.setIfInBounds_toArray, List.set_cons_zero, List.set_cons_succ]))))
        | (refine wpAnyH_ready (rs := [11]) (by decide +kernel) (by simp) (AllReadyH.cons (by simp only [List.getElem?_toArray, List.getElem?_cons_zero, List.getElem?_cons_succ]; rfl) (fun K hK => ?_) AllReadyH.nil); all_goals ((first | fail | (go_simp; (first | ((with_reducible refine (HF1.out _).mono ?_); rintro e w2 ⟨rfl, hb2⟩; (have SV2 := Lib.hid ((SV.out.below (Below.drew (Below.refl _ _))).below hb2)); (have hW2 : Below wc.heap.size wc w2 := (Below.drew (Below.refl _ _)).trans hb2)) | ((with_reducible refine (L1.out _ hW2).mono ?_); rintro e w4 ⟨a4, c4, rfl, ho4, hg4⟩; (have SV4 := Lib.hid (SV2.out.gr hg4 HOX.out)); obtain ⟨O4, hO4⟩ : ∃ O4, O4 = O2 ++ l.er.give n (k + 1) tp := ⟨_, rfl⟩; rw [← hO4] at ho4 hg4 ⊢; have HO4E := Lib.hid hO4; clear hO4) | skip))); (refine hK.out _ _ ?_ (fun hHeld => ?_)); (· ((try dsimp only); (first | (first | (go_simp; done) | (simp [*, go_sem, World.cell?_alloc_past]; done) | (simp [*, go_sem, World.cell?_alloc_past, World.cell?_setCell_far]; done)) | exact SV4.out.say | exact SV2.out.say | trivial))); (clear hK K; (try simp only [Act.put, List.setIfInBounds_toArray, List.set_cons_zero, List.set_cons_succ]))))
        | (refine wpAnyH_done (by decide +kernel) ?_ _)
        | fail)
      go_goals
      have hz2 := hW2.size
      have HBW := Lib.hid (HBc.out.trans (hW2.mono HBc.out.size))
      have HB4 := Lib.hid (HBW.out.trans (hg4.low HBW.out.size (fun z hz => (HO3.out.lt z hz).1)))
      have HG4 := Lib.hid (HGc.out.trans ((Gr.of_below _ hW2).trans hg4))
      have HOX4 := Lib.hid (show ∀ z, (Value.slice a4 O4.length c4).ownBlock = some z → z ≠ rt ∧ z ≠ p ∧ z ≠ A from fun z hz => (hg4.at_ z hz).elim (fun h1 => HOX.out z h1) (fun h1 => by omega))
      have h4 : O4.length + 1 ≤ O2.length + 2 * l.er.leaves := by rw [HO4E.out, List.length_append]; have := HGL.out; omega
      have HO4 := Lib.hid ho4
      have L3 := Lib.hid (L2.out w4 a4 c4 O4 HB4.out ho4 h4)
      have hz4 := hg4.g.size
      clear hHeld hb2 hW2 ho4 hg4 s0 s1 s2 s3 s4 s5 s6 SV SV2 HBW HBc HGc HOX HO3 RA3 HF1 L1 L2 h4 HGL
      obtain ⟨s0, s1, s2, s3, s4, s5, s6⟩ := SV4.out.say
      have lrt := SV4.out.lb
      have lpp := SV4.out.lp
      have lA := SV4.out.ra.lt
      go_wp2_with fail
      refine wp_region_held_drew (S := (fun w' => w'.cell? ⟨rt, 0, none⟩ = some (ptrN p) ∧ w'.cell? ⟨p, 0, none⟩ = some (ptrN l.root) ∧ w'.cell? ⟨p, 1, none⟩ = some (ptrN r.root) ∧ w'.cell? ⟨A, 0, none⟩ = some (.bool false) ∧ w'.cell? ⟨A, 1, none⟩ = some (.int .u64 (hiOf false n)) ∧ w'.cell? ⟨A, 2, none⟩ = some (.int .u64 (loOf n)) ∧ w'.cell? ⟨A, 3, none⟩ = some (.int .i64 (k : Nat)))) (by kernel_rfl) ?_ (fun hHeld => ?_)
      · ((try dsimp only); (first | (first | (go_simp; done) | (simp [*, go_sem, World.cell?_alloc_past]; done) | (simp [*, go_sem, World.cell?_alloc_past, World.cell?_setCell_far]; done)) | exact SV6.out.say | exact SV5.out.say | trivial))
      (refine wpAnyH_take (i := 0) (oi := _) (v := ?_) (by simp only [List.getElem?_toArray, List.getElem?_cons_zero, List.getElem?_cons_succ]; rfl) (by kernel_rfl) (by decide +kernel) (by decide +kernel) (by exact fun _ _ _ h => h) (Or.inl ⟨by rfl, ?_⟩) (by assumption) ?_; rotate_left; (· ((intro w hSw); (try dsimp only at hSw); go_simp; (try with_reducible rfl))); (try simp only [Act.put, List.setIfInBounds_toArray, List.set_cons_zero, List.set_cons_succ]))
      (refine wpAnyH_take (i := 1) (oi := _) (v := ?_) (by simp only [List.getElem?_toArray, List.getElem?_cons_zero, List.getElem?_cons_succ]; rfl) (by kernel_rfl) (by decide +kernel) (by decide +kernel) (by exact fun _ _ _ h => h) (Or.inl ⟨by rfl, ?_⟩) (by assumption) ?_; rotate_left; (· ((intro w hSw); (try dsimp only at hSw); go_simp; (try with_reducible rfl))); (try simp only [Act.put, List.setIfInBounds_toArray, List.set_cons_zero, List.set_cons_succ]))
      (refine wpAnyH_take (i := 2) (oi := _) (v := ?_) (by simp only [List.getElem?_toArray, List.getElem?_cons_zero, List.getElem?_cons_succ]; rfl) (by kernel_rfl) (by decide +kernel) (by decide +kernel) (by exact fun _ _ _ h => h) (Or.inl ⟨by rfl, ?_⟩) (by assumption) ?_; rotate_left; (· ((intro w hSw); (try dsimp only at hSw); go_simp; (try with_reducible rfl))); (try simp only [Act.put, List.setIfInBounds_toArray, List.set_cons_zero, List.set_cons_succ]))
      (refine wpAnyH_take (i := 3) (oi := _) (v := ?_) (by simp only [List.getElem?_toArray, List.getElem?_cons_zero, List.getElem?_cons_succ]; rfl) (by kernel_rfl) (by decide +kernel) (by decide +kernel) (by exact fun _ _ _ h => h) (Or.inl ⟨by rfl, ?_⟩) (by assumption) ?_; rotate_left; (· ((intro w hSw); (try dsimp only at hSw); go_simp; (try with_reducible rfl))); (try simp only [Act.put, List.setIfInBounds_toArray, List.set_cons_zero, List.set_cons_succ]))
      (refine wpAnyH_take (i := 4) (oi := _) (v := ?_) (by simp only [List.getElem?_toArray, List.getElem?_cons_zero, List.getElem?_cons_succ]; rfl) (by kernel_rfl) (by decide +kernel) (by decide +kernel) (by exact fun _ _ _ h => h) (Or.inl ⟨by rfl, ?_⟩) (by assumption) ?_; rotate_left; (· ((intro w hSw); (try dsimp only at hSw); go_simp; (try with_reducible rfl))); (try simp only [Act.put, List.setIfInBounds_toArray, List.set_cons_zero, List.set_cons_succ]))
      (refine wpAnyH_take (i := 5) (oi := _) (v := ?_) (by simp only [List.getElem?_toArray, List.getElem?_cons_zero, List.getElem?_cons_succ]; rfl) (by kernel_rfl) (by decide +kernel) (by decide +kernel) (by exact fun _ _ _ h => h) (Or.inl ⟨by rfl, ?_⟩) (by assumption) ?_; rotate_left; (· ((intro w hSw); (try dsimp only at hSw); go_simp; (try with_reducible rfl))); (try simp only [Act.put, List.setIfInBounds_toArray, List.set_cons_zero, List.set_cons_succ]))
      (refine wpAnyH_take (i := 6) (oi := _) (v := ?_) (by simp only [List.getElem?_toArray, List.getElem?_cons_zero, List.getElem?_cons_succ]; rfl) (by kernel_rfl) (by decide +kernel) (by decide +kernel) (by exact fun _ _ _ h => h) (Or.inl ⟨by rfl, ?_⟩) (by assumption) ?_; rotate_left; (· ((intro w hSw); (try dsimp only at hSw); go_simp; (try with_reducible rfl))); (try simp only [Act.put, List.setIfInBounds_toArray, List.set_cons_zero, List.set_cons_succ]))
      (refine wpAnyH_take (i := 7) (oi := _) (v := ?_) (by simp only [List.getElem?_toArray, List.getElem?_cons_zero, List.getElem?_cons_succ]; rfl) (by kernel_rfl) (by decide +kernel) (by decide +kernel) (by exact fun _ _ _ h => h) (Or.inl ⟨by rfl, ?_⟩) (by assumption) ?_; rotate_left; (· ((intro w hSw); (try dsimp only at hSw); go_simp; (try with_reducible rfl))); (try simp only [Act.put, List.setIfInBounds_toArray, List.set_cons_zero, List.set_cons_succ]))
      (refine wpAnyH_take (i := 9) (oi := _) (v := ?_) (by simp only [List.getElem?_toArray, List.getElem?_cons_zero, List.getElem?_cons_succ]; rfl) (by kernel_rfl) (by decide +kernel) (by decide +kernel) (by exact fun _ _ _ h => h) (Or.inl ⟨by rfl, ?_⟩) (by assumption) ?_; rotate_left; (· ((intro w hSw); (try dsimp only at hSw); go_simp; (try with_reducible rfl))); (try simp only [Act.put, List.setIfInBounds_toArray, List.set_cons_zero, List.set_cons_succ]))
      (refine wpAnyH_take (i := 10) (oi := _) (v := ?_) (by simp only [List.getElem?_toArray, List.getElem?_cons_zero, List.getElem?_cons_succ]; rfl) (by kernel_rfl) (by decide +kernel) (by decide +kernel) (by exact fun _ _ _ h => h) (Or.inl ⟨by rfl, ?_⟩) (by assumption) ?_; rotate_left; (· ((intro w hSw); (try dsimp only at hSw); go_simp; (try with_reducible rfl))); (try simp only [Act.put, List.setIfInBounds_toArray, List.set_cons_zero, List.set_cons_succ]))
      repeat' (first
        | (refine wpAnyH_take (i := 12) (oi := _) (v := ?_) (by simp only [List.getElem?_toArray, List.getElem?_cons_zero, List.getElem?_cons_succ]; rfl) (by kernel_rfl) (by decide +kernel) (by decide +kernel) (by exact fun _ _ _ h => h) (Or.inl ⟨by rfl, ?_⟩) (by assumption) ?_; rotate_left; (· ((intro w hSw); (try dsimp only at hSw); go_simp; (try with_reducible rfl))); (try simp only [Act.put, List.setIfInBounds_toArray, List.set_cons_zero, List.set_cons_succ]))
        | (refine wpAnyH_ready (rs := [8]) (by decide +kernel) (by simp) (AllReadyH.cons (by simp only [List.getElem?_toArray, List.getElem?_cons_zero, List.getElem?_cons_succ]; rfl) (fun K hK => ?_) AllReadyH.nil); all_goals ((first | fail | (go_simp; (first | ((with_reducible refine (HF2.out _).mono ?_); rintro e w5 ⟨rfl, hb5⟩; (have SV5 := Lib.hid ((SV4.out.below (Below.drew (Below.refl _ _))).below hb5)); (have hW5 : Below w4.heap.size w4 w5 := (Below.drew (Below.refl _ _)).trans hb5)) | ((with_reducible refine (L3.out _ hW5).mono ?_); rintro e w6 ⟨a6, c6, rfl, ho6, hg6⟩; (have SV6 := Lib.hid (SV5.out.gr hg6 HOX4.out)); obtain ⟨O6, hO6⟩ : ∃ O6, O6 = O4 ++ r.er.give (halfN 32 n k 1) (k + 1) tp := ⟨_, rfl⟩; rw [← hO6] at ho6 hg6 ⊢; have HO6E := Lib.hid hO6; clear hO6) | skip))); (refine hK.out _ _ ?_ (fun hHeld => ?_)); (· ((try dsimp only); (first | (first | (go_simp; done) | (simp [*, go_sem, World.cell?_alloc_past]; done) | (simp [*, go_sem, World.cell?_alloc_past, World.cell?_setCell_far]; done)) | exact SV6.out.say | exact SV5.out.say | trivial))); (clear hK K; (try simp only [Act.put, List.setIfInBounds_toArray, List.set_cons_zero, List.set_cons_succ]))))
        | (refine wpAnyH_ready (rs := [11]) (by decide +kernel) (by simp) (AllReadyH.cons (by simp only [List.getElem?_toArray, List.getElem?_cons_zero, List.getElem?_cons_succ]; rfl) (fun K hK => ?_) AllReadyH.nil); all_goals ((first | fail | (go_simp; (first | ((with_reducible refine (HF2.out _).mono ?_); rintro e w5 ⟨rfl, hb5⟩; (have SV5 := Lib.hid ((SV4.out.below (Below.drew (Below.refl _ _))).below hb5)); (have hW5 : Below w4.heap.size w4 w5 := (Below.drew (Below.refl _ _)).trans hb5)) | ((with_reducible refine (L3.out _ hW5).mono ?_); rintro e w6 ⟨a6, c6, rfl, ho6, hg6⟩; (have SV6 := Lib.hid (SV5.out.gr hg6 HOX4.out)); obtain ⟨O6, hO6⟩ : ∃ O6, O6 = O4 ++ r.er.give (halfN 32 n k 1) (k + 1) tp := ⟨_, rfl⟩; rw [← hO6] at ho6 hg6 ⊢; have HO6E := Lib.hid hO6; clear hO6) | skip))); (refine hK.out _ _ ?_ (fun hHeld => ?_)); (· ((try dsimp only); (first | (first | (go_simp; done) | (simp [*, go_sem, World.cell?_alloc_past]; done) | (simp [*, go_sem, World.cell?_alloc_past, World.cell?_setCell_far]; done)) | exact SV6.out.say | exact SV5.out.say | trivial))); (clear hK K; (try simp only [Act.put, List.setIfInBounds_toArray, List.set_cons_zero, List.set_cons_succ]))))
        | (refine wpAnyH_done (by decide +kernel) ?_ _)
        | fail)
      go_goals
      have HG6 := Lib.hid (HG4.out.trans ((Gr.of_below _ hW5).trans hg6))
      have HO6 := Lib.hid ho6
      have HEE6 : Hid (O6 = O ++ (FT.node b p h l r).er.give n k ab) := by show _ = _; rw [← HEE.out, HO6E.out, HO4E.out]
      clear hHeld hb5 hW5 ho6 hg6 s0 s1 s2 s3 s4 s5 s6 SV4 SV5 SV6 HG4 HOX4 L3 HEE
      go_wp2_with fail
      refine bodyPost_ret (v := .slice a6 O6.length c6) (by simp [results, Try.results56, go_sem]) rfl ?_
      unfold GiveSays
      rw [← HEE6.out]
      exact ⟨_, _, rfl, HO6.out, HG6.out⟩
theorem give_any (w0 : World) (B' : Nat) (S : Nat → Value) : ∀ t : FT, GiveP w0 B' S t
  | .leaf b h => give_step w0 B' S _ (fun _ _ _ _ _ e => by cases e)
  | .node b p h l r => give_step w0 B' S _ (fun _ _ _ _ _ e => by cases e; exact ⟨give_any w0 B' S l, give_any w0 B' S r⟩)
end Go.Proofs.Ytoecmoicaklbaaa
