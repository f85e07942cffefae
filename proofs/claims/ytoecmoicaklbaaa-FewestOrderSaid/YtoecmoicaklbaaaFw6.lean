
/- Contract: fewest's choose. -/
import Derived.Test.YtoecmoicaklbaaaFw5
set_option linter.unusedVariables false
set_option linter.unusedSimpArgs false
namespace Go.Proofs.Ytoecmoicaklbaaa
open Go Go.RowKit Go.Sort Wc Wk

theorem own_lit1 (w : World) (x : Nat) (E : TypeId) (hE : E = 3) : Wk.Own (w.alloc (.cells #[.int .i64 (x : Nat)] E)) w.heap.size 3 1 (.slice (some ⟨w.heap.size, 0, none⟩) 1 1) ([x].map nR) := by
  subst hE
  refine ⟨fun c hc => by simp at hc; subst hc; rfl, rfl, .inr ⟨w.heap.size, 1, #[.int .i64 (x : Nat)], rfl, Nat.le_refl _, heap_newN w _ _, Nat.le_refl _, by unfold maxLen; decide, rfl, rfl⟩⟩
theorem hd_other {w w2 : World} {ts : List (Nat × List Value)} {ls : List Nat} (h : Hd w ts) (c : Chg w w2 (fun x _ => x ∈ ls)) (d : ∀ x ∈ ts.map Prod.fst, x ∉ ls) : Hd w2 ts :=
  ⟨fun x hx => (h.rx x hx).chg c (fun _ hl => d x.1 (List.mem_map.2 ⟨x, hx, rfl⟩) hl), h.nd⟩
def Three (w : World) (b p : Nat) (u v x : Value) : Prop := w.cell? ⟨b, 0, none⟩ = some u ∧ w.cell? ⟨p, 0, none⟩ = some v ∧ w.cell? ⟨p, 1, none⟩ = some x
theorem Three.chg {w w2 : World} {b p : Nat} {u v x : Value} {ls : List Nat} (h : Three w b p u v x) (lb : b < w.heap.size) (lp : p < w.heap.size) (k : Chg w w2 (fun x _ => x ∈ ls)) (hb : b ∉ ls) (hp : p ∉ ls) : Three w2 b p u v x :=
  ⟨(k.cell b 0 lb hb).trans h.1, (k.cell p 0 lp hp).trans h.2.1, (k.cell p 1 lp hp).trans h.2.2⟩
theorem rx_low {w w' : World} {b B : Nat} {c : List Value} (h : RX w b c) (hb : Below B w w') (hlt : b < B) : RX w' b c :=
  ⟨Nat.lt_of_lt_of_le h.lt hb.size, fun j u hu => (hb.cell (p := ⟨b, j, none⟩) hlt).trans (h.cell j u hu), fun j => (hb.frozen (p := ⟨b, j, none⟩) hlt).trans (h.fz j)⟩
theorem chg_low {w w1 w2 : World} {F : Nat → Nat → Prop} (c : Chg w w1 F) (hb : Below w.heap.size w1 w2) : Chg w w2 F :=
  ⟨hb.os.trans c.os, hb.tape.trans c.tape, hb.output.trans c.output, Nat.le_trans c.size hb.size, fun k hk hf => (hb.block k hk).trans (c.block k hk hf), fun k x hk hf => (hb.cell (p := ⟨k, x, none⟩) hk).trans (c.cell k x hk hf), fun k x hk => (hb.frozen (p := ⟨k, x, none⟩) hk).trans (c.froz k x hk)⟩
theorem Joined.below {w w3 w4 : World} {b p h : Nat} {l r : FT} {va vb : Value} {S : Nat → Value} (J : Joined w w3 b p h l r va vb S) (hb : Below w3.heap.size w3 w4) : Joined w w4 b p h l r va vb S :=
  ⟨J.hd.below hb, J.sb, J.sl.chg (Chg.of_below hb (fun _ _ => False)) (fun _ _ h => h.elim), J.sr.chg (Chg.of_below hb (fun _ _ => False)) (fun _ _ h => h.elim), J.ch.trans (Chg.of_below hb _) (fun _ _ _ h => h), J.ea, J.eb⟩
theorem HasN.own {w : World} {B : Nat} {a : Option Addr} {n c : Nat} {xs : List Nat} (h : HasN w B (.slice a n c) xs) : n = xs.length ∧ Wk.Own w B 3 1 (.slice a n c) (xs.map nR) := by
  obtain ⟨a', c', e, ho⟩ := h
  cases e
  exact ⟨rfl, ho⟩
theorem filt_snoc {la lb : List Nat} {j x : Nat} (hx : la[j]? = some x) : (la.take (j + 1)).filter (fun x => decide (x ∈ lb)) = (la.take j).filter (fun x => decide (x ∈ lb)) ++ (if x ∈ lb then [x] else []) := by
  rw [List.take_add_one, hx, List.filter_append]
  by_cases h : x ∈ lb <;> simp [h]
/-- Where choose's loop stands. -/
structure ChSt (w3 wr : World) (b p h : Nat) (la lb : List Nat) (j : Nat) (v : Value) : Prop where
  rx : RX wr b (nodeC (ptrN p) h v)
  ch : Chg w3 wr (fun x _ => x = b)
  ow : HasN wr w3.heap.size v ((la.take j).filter (fun x => decide (x ∈ lb)))
  ni : (la.take j).filter (fun x => decide (x ∈ lb)) = [] → v = nilS

set_option maxRecDepth 100000 in
set_option maxHeartbeats 4000000 in
theorem choose_any : ∀ (t : FT) (w : World), Hd w (t.cells (fun _ => nilS)) → t.er.leaves ≤ 5000 → Calls Try.prog 55 #[ptrN t.root] w (ChooseSays w t)
  | .leaf b h, w, hd, _ => by
    have hx : RX w b (nodeC (.pointer none) h nilS) := hd.rx (b, nodeC (.pointer none) h nilS) (by simp [FT.cells])
    have c0 : w.cell? ⟨b, 0, none⟩ = some (.pointer none) := hx.cell 0 _ rfl
    have c1 : w.cell? ⟨b, 1, none⟩ = some (.int .i64 (h : Nat)) := hx.cell 1 _ rfl
    have c2 : w.cell? ⟨b, 2, none⟩ = some nilS := hx.cell 2 _ rfl
    have f0 := hx.fz
    have hb := hx.lt
    have HX := Lib.hid hx
    have hb1 : b < w.heap.size + 1 := by omega
    clear hx hd
    show Calls Try.prog 55 #[ptrN b] w _
    go_enter Try.func55, Try.ntmps55
    obtain ⟨r1, r2⟩ := rx_one HX.out (j := 2) (by simp [nodeC]) (.slice (some ⟨w.heap.size, 0, none⟩) 1 1)
    have R1 := Lib.hid r1
    have R2 := Lib.hid r2
    clear r1 r2
    go_wp2_with fail
    refine bodyPost_ret (v := .slice (some ⟨w.heap.size, 0, none⟩) 1 1) (by simp [results, Try.results55, go_sem]) rfl ?_
    have hs : (w.setCell ⟨b, 2, none⟩ (.slice (some ⟨w.heap.size, 0, none⟩) 1 1)).heap.size = w.heap.size := by simp
    have r1 := R1.out
    have r2 := R2.out
    clear R1 R2 c0 c1 c2 f0
    generalize w.setCell ⟨b, 2, none⟩ (.slice (some ⟨w.heap.size, 0, none⟩) 1 1) = W1 at r1 r2 hs ⊢
    have hW : Below W1.heap.size W1 (W1.alloc (.cells #[.int .i64 (h : Nat)] 3)) := (Below.refl _ _).alloc (Nat.le_refl _) _
    refine ⟨fun _ => .slice (some ⟨w.heap.size, 0, none⟩) 1 1, rfl, ⟨fun x hx => ?_, by simp [FT.cells]⟩, ⟨some ⟨w.heap.size, 0, none⟩, 1, rfl, ?_⟩, (r2.mono (fun b' _ e => by simp [FT.blocks, e])).trans (Chg.of_below hW _) (fun _ _ _ h => h)⟩
    · simp only [FT.cells, List.mem_singleton] at hx
      subst hx
      exact r1.below hW
    · rw [← hs]
      exact own_lit1 W1 h _ rfl
  | .node b p h l r, w, hd, hle => by
    obtain ⟨hx, hp, hl, hr, hne⟩ := hd.node
    have c0 : w.cell? ⟨b, 0, none⟩ = some (ptrN p) := hx.cell 0 _ rfl
    have q0 : w.cell? ⟨p, 0, none⟩ = some (ptrN l.root) := hp.cell 0 _ rfl
    have q1 : w.cell? ⟨p, 1, none⟩ = some (ptrN r.root) := hp.cell 1 _ rfl
    have lb := hx.lt
    have lp := hp.lt
    have nd := hd.nd
    rw [FT.fst_cells] at nd
    simp only [FT.blocks, List.nodup_cons, List.mem_cons, List.mem_append, not_or] at nd
    have HND := Lib.hid nd
    have hlv : l.er.leaves + r.er.leaves ≤ 5000 := hle
    have IL := Lib.hid (fun w h => choose_any l w h (by omega))
    have IR := Lib.hid (fun w h => choose_any r w h (by omega))
    have HL := Lib.hid hl
    have HR := Lib.hid hr
    have HD := Lib.hid hd
    have sl1 := HT.set_len l.er
    have sl2 := HT.set_len r.er
    clear hx hp hl hr hd nd hle hne
    show Calls Try.prog 55 #[ptrN b] w _
    go_enter Try.func55, Try.ntmps55
    go_wp2_with fail
    have HRD : Hid (∀ x ∈ (r.cells (fun _ => nilS)).map Prod.fst, x ∉ l.blocks) := fun x hx hl => by
      rw [FT.fst_cells] at hx
      exact (List.nodup_append.1 HND.out.2.2).2.2 x hl x hx rfl
    refine wp_region_held_drew (S := (fun w' => w'.cell? ⟨b, 0, none⟩ = some (ptrN p) ∧ w'.cell? ⟨p, 0, none⟩ = some (ptrN l.root) ∧ w'.cell? ⟨p, 1, none⟩ = some (ptrN r.root))) (by kernel_rfl) ?_ (fun hHeld => ?_)
    · ((try dsimp only); (first | (first | (go_simp; done) | (simp [*, go_sem, World.cell?_alloc_past]; done) | (simp [*, go_sem, World.cell?_alloc_past, World.cell?_setCell_far]; done)) | exact K2 | exact K1 | trivial))
    (refine wpAnyH_take (i := 0) (oi := _) (v := ?_) (by simp only [List.getElem?_toArray, List.getElem?_cons_zero, List.getElem?_cons_succ]; rfl) (by kernel_rfl) (by decide +kernel) (by decide +kernel) (by exact fun _ _ _ h => h) (Or.inl ⟨by rfl, ?_⟩) (by assumption) ?_; rotate_left; (· ((intro w hSw); (try dsimp only at hSw); go_simp; (try with_reducible rfl))); (try simp only [Act.put, List.setIfInBounds_toArray, List.set_cons_zero, List.set_cons_succ]))
    (refine wpAnyH_take (i := 1) (oi := _) (v := ?_) (by simp only [List.getElem?_toArray, List.getElem?_cons_zero, List.getElem?_cons_succ]; rfl) (by kernel_rfl) (by decide +kernel) (by decide +kernel) (by exact fun _ _ _ h => h) (Or.inl ⟨by rfl, ?_⟩) (by assumption) ?_; rotate_left; (· ((intro w hSw); (try dsimp only at hSw); go_simp; (try with_reducible rfl))); (try simp only [Act.put, List.setIfInBounds_toArray, List.set_cons_zero, List.set_cons_succ]))
    (refine wpAnyH_take (i := 2) (oi := _) (v := ?_) (by simp only [List.getElem?_toArray, List.getElem?_cons_zero, List.getElem?_cons_succ]; rfl) (by kernel_rfl) (by decide +kernel) (by decide +kernel) (by exact fun _ _ _ h => h) (Or.inl ⟨by rfl, ?_⟩) (by assumption) ?_; rotate_left; (· ((intro w hSw); (try dsimp only at hSw); go_simp; (try with_reducible rfl))); (try simp only [Act.put, List.setIfInBounds_toArray, List.set_cons_zero, List.set_cons_succ]))
    (refine wpAnyH_take (i := 3) (oi := _) (v := ?_) (by simp only [List.getElem?_toArray, List.getElem?_cons_zero, List.getElem?_cons_succ]; rfl) (by kernel_rfl) (by decide +kernel) (by decide +kernel) (by exact fun _ _ _ h => h) (Or.inl ⟨by rfl, ?_⟩) (by assumption) ?_; rotate_left; (· ((intro w hSw); (try dsimp only at hSw); go_simp; (try with_reducible rfl))); (try simp only [Act.put, List.setIfInBounds_toArray, List.set_cons_zero, List.set_cons_succ]))
    (refine wpAnyH_take (i := 4) (oi := _) (v := ?_) (by simp only [List.getElem?_toArray, List.getElem?_cons_zero, List.getElem?_cons_succ]; rfl) (by kernel_rfl) (by decide +kernel) (by decide +kernel) (by exact fun _ _ _ h => h) (Or.inl ⟨by rfl, ?_⟩) (by assumption) ?_; rotate_left; (· ((intro w hSw); (try dsimp only at hSw); go_simp; (try with_reducible rfl))); (try simp only [Act.put, List.setIfInBounds_toArray, List.set_cons_zero, List.set_cons_succ]))
    (refine wpAnyH_take (i := 5) (oi := _) (v := ?_) (by simp only [List.getElem?_toArray, List.getElem?_cons_zero, List.getElem?_cons_succ]; rfl) (by kernel_rfl) (by decide +kernel) (by decide +kernel) (by exact fun _ _ _ h => h) (Or.inl ⟨by rfl, ?_⟩) (by assumption) ?_; rotate_left; (· ((intro w hSw); (try dsimp only at hSw); go_simp; (try with_reducible rfl))); (try simp only [Act.put, List.setIfInBounds_toArray, List.set_cons_zero, List.set_cons_succ]))
    (refine wpAnyH_take (i := 6) (oi := _) (v := ?_) (by simp only [List.getElem?_toArray, List.getElem?_cons_zero, List.getElem?_cons_succ]; rfl) (by kernel_rfl) (by decide +kernel) (by decide +kernel) (by exact fun _ _ _ h => h) (Or.inl ⟨by rfl, ?_⟩) (by assumption) ?_; rotate_left; (· ((intro w hSw); (try dsimp only at hSw); go_simp; (try with_reducible rfl))); (try simp only [Act.put, List.setIfInBounds_toArray, List.set_cons_zero, List.set_cons_succ]))
    (refine wpAnyH_take (i := 8) (oi := _) (v := ?_) (by simp only [List.getElem?_toArray, List.getElem?_cons_zero, List.getElem?_cons_succ]; rfl) (by kernel_rfl) (by decide +kernel) (by decide +kernel) (by exact fun _ _ _ h => h) (Or.inl ⟨by rfl, ?_⟩) (by assumption) ?_; rotate_left; (· ((intro w hSw); (try dsimp only at hSw); go_simp; (try with_reducible rfl))); (try simp only [Act.put, List.setIfInBounds_toArray, List.set_cons_zero, List.set_cons_succ]))
    (refine wpAnyH_take (i := 9) (oi := _) (v := ?_) (by simp only [List.getElem?_toArray, List.getElem?_cons_zero, List.getElem?_cons_succ]; rfl) (by kernel_rfl) (by decide +kernel) (by decide +kernel) (by exact fun _ _ _ h => h) (Or.inl ⟨by rfl, ?_⟩) (by assumption) ?_; rotate_left; (· ((intro w hSw); (try dsimp only at hSw); go_simp; (try with_reducible rfl))); (try simp only [Act.put, List.setIfInBounds_toArray, List.set_cons_zero, List.set_cons_succ]))
    (refine wpAnyH_take (i := 10) (oi := _) (v := ?_) (by simp only [List.getElem?_toArray, List.getElem?_cons_zero, List.getElem?_cons_succ]; rfl) (by kernel_rfl) (by decide +kernel) (by decide +kernel) (by exact fun _ _ _ h => h) (Or.inl ⟨by rfl, ?_⟩) (by assumption) ?_; rotate_left; (· ((intro w hSw); (try dsimp only at hSw); go_simp; (try with_reducible rfl))); (try simp only [Act.put, List.setIfInBounds_toArray, List.set_cons_zero, List.set_cons_succ]))
    (refine wpAnyH_take (i := 11) (oi := _) (v := ?_) (by simp only [List.getElem?_toArray, List.getElem?_cons_zero, List.getElem?_cons_succ]; rfl) (by kernel_rfl) (by decide +kernel) (by decide +kernel) (by exact fun _ _ _ h => h) (Or.inl ⟨by rfl, ?_⟩) (by assumption) ?_; rotate_left; (· ((intro w hSw); (try dsimp only at hSw); go_simp; (try with_reducible rfl))); (try simp only [Act.put, List.setIfInBounds_toArray, List.set_cons_zero, List.set_cons_succ]))
    (refine wpAnyH_take (i := 12) (oi := _) (v := ?_) (by simp only [List.getElem?_toArray, List.getElem?_cons_zero, List.getElem?_cons_succ]; rfl) (by kernel_rfl) (by decide +kernel) (by decide +kernel) (by exact fun _ _ _ h => h) (Or.inl ⟨by rfl, ?_⟩) (by assumption) ?_; rotate_left; (· ((intro w hSw); (try dsimp only at hSw); go_simp; (try with_reducible rfl))); (try simp only [Act.put, List.setIfInBounds_toArray, List.set_cons_zero, List.set_cons_succ]))
    (refine wpAnyH_take (i := 13) (oi := _) (v := ?_) (by simp only [List.getElem?_toArray, List.getElem?_cons_zero, List.getElem?_cons_succ]; rfl) (by kernel_rfl) (by decide +kernel) (by decide +kernel) (by exact fun _ _ _ h => h) (Or.inl ⟨by rfl, ?_⟩) (by assumption) ?_; rotate_left; (· ((intro w hSw); (try dsimp only at hSw); go_simp; (try with_reducible rfl))); (try simp only [Act.put, List.setIfInBounds_toArray, List.set_cons_zero, List.set_cons_succ]))
    (refine wpAnyH_take (i := 14) (oi := _) (v := ?_) (by simp only [List.getElem?_toArray, List.getElem?_cons_zero, List.getElem?_cons_succ]; rfl) (by kernel_rfl) (by decide +kernel) (by decide +kernel) (by exact fun _ _ _ h => h) (Or.inl ⟨by rfl, ?_⟩) (by assumption) ?_; rotate_left; (· ((intro w hSw); (try dsimp only at hSw); go_simp; (try with_reducible rfl))); (try simp only [Act.put, List.setIfInBounds_toArray, List.set_cons_zero, List.set_cons_succ]))
    repeat' (first
      | (refine wpAnyH_take (i := 16) (oi := _) (v := ?_) (by simp only [List.getElem?_toArray, List.getElem?_cons_zero, List.getElem?_cons_succ]; rfl) (by kernel_rfl) (by decide +kernel) (by decide +kernel) (by exact fun _ _ _ h => h) (Or.inl ⟨by rfl, ?_⟩) (by assumption) ?_; rotate_left; (· ((intro w hSw); (try dsimp only at hSw); go_simp; (try with_reducible rfl))); (try simp only [Act.put, List.setIfInBounds_toArray, List.set_cons_zero, List.set_cons_succ]))
      | (refine wpAnyH_take (i := 17) (oi := _) (v := ?_) (by simp only [List.getElem?_toArray, List.getElem?_cons_zero, List.getElem?_cons_succ]; rfl) (by kernel_rfl) (by decide +kernel) (by decide +kernel) (by exact fun _ _ _ h => h) (Or.inl ⟨by rfl, ?_⟩) (by assumption) ?_; rotate_left; (· ((intro w hSw); (try dsimp only at hSw); go_simp; (try with_reducible rfl))); (try simp only [Act.put, List.setIfInBounds_toArray, List.set_cons_zero, List.set_cons_succ]))
      | (refine wpAnyH_ready (rs := [7]) (by decide +kernel) (by simp) (AllReadyH.cons (by simp only [List.getElem?_toArray, List.getElem?_cons_zero, List.getElem?_cons_succ]; rfl) (fun K hK => ?_) AllReadyH.nil); all_goals ((first | fail | (go_simp; (first | ((with_reducible refine (IL.out _ (by first | exact HL.out | exact HL.out.below (Below.drew (Below.refl _ _)))).mono ?_); rintro e w2 ⟨S1, rfl, ha2, hs2, k2⟩; obtain ⟨aA, cA, eA, hoA⟩ := hs2.top; obtain ⟨nA, hnA⟩ : ∃ n, n = l.er.set.length := ⟨_, rfl⟩; rw [← hnA] at eA; rw [eA]; have HNA := Lib.hid hnA; clear hnA; have EA := Lib.hid eA; clear eA; (have K1 : Three w2 b p (ptrN p) (ptrN l.root) (ptrN r.root) := Three.chg hHeld (by simpa using lb) (by simpa using lp) k2 HND.out.1.2.1 HND.out.2.1.1); (have HR2 := Lib.hid (hd_other (HR.out.below (Below.drew (Below.refl _ _))) k2 HRD.out))) | ((with_reducible refine (IR.out _ (by first | exact HR2.out | exact HR2.out.below (Below.drew (Below.refl _ _)))).mono ?_); rintro e w3 ⟨S2, rfl, ha3, hs3, k3⟩; obtain ⟨aB, cB, eB, hoB⟩ := hs3.top; obtain ⟨nB, hnB⟩ : ∃ n, n = r.er.set.length := ⟨_, rfl⟩; rw [← hnB] at eB; rw [eB]; have HNB := Lib.hid hnB; clear hnB; have EB := Lib.hid eB; clear eB; (have K2 : Three w3 b p (ptrN p) (ptrN l.root) (ptrN r.root) := Three.chg hHeld (by have := k2.size; simp at this ⊢; omega) (by have := k2.size; simp at this ⊢; omega) k3 HND.out.1.2.2 HND.out.2.1.2)) | skip))); (refine hK.out _ _ ?_ (fun hHeld => ?_)); (· ((try dsimp only); (first | (first | (go_simp; done) | (simp [*, go_sem, World.cell?_alloc_past]; done) | (simp [*, go_sem, World.cell?_alloc_past, World.cell?_setCell_far]; done)) | exact K2 | exact K1 | trivial))); (clear hK K; (try simp only [Act.put, List.setIfInBounds_toArray, List.set_cons_zero, List.set_cons_succ]))))
      | (refine wpAnyH_ready (rs := [15]) (by decide +kernel) (by simp) (AllReadyH.cons (by simp only [List.getElem?_toArray, List.getElem?_cons_zero, List.getElem?_cons_succ]; rfl) (fun K hK => ?_) AllReadyH.nil); all_goals ((first | fail | (go_simp; (first | ((with_reducible refine (IL.out _ (by first | exact HL.out | exact HL.out.below (Below.drew (Below.refl _ _)))).mono ?_); rintro e w2 ⟨S1, rfl, ha2, hs2, k2⟩; obtain ⟨aA, cA, eA, hoA⟩ := hs2.top; obtain ⟨nA, hnA⟩ : ∃ n, n = l.er.set.length := ⟨_, rfl⟩; rw [← hnA] at eA; rw [eA]; have HNA := Lib.hid hnA; clear hnA; have EA := Lib.hid eA; clear eA; (have K1 : Three w2 b p (ptrN p) (ptrN l.root) (ptrN r.root) := Three.chg hHeld (by simpa using lb) (by simpa using lp) k2 HND.out.1.2.1 HND.out.2.1.1); (have HR2 := Lib.hid (hd_other (HR.out.below (Below.drew (Below.refl _ _))) k2 HRD.out))) | ((with_reducible refine (IR.out _ (by first | exact HR2.out | exact HR2.out.below (Below.drew (Below.refl _ _)))).mono ?_); rintro e w3 ⟨S2, rfl, ha3, hs3, k3⟩; obtain ⟨aB, cB, eB, hoB⟩ := hs3.top; obtain ⟨nB, hnB⟩ : ∃ n, n = r.er.set.length := ⟨_, rfl⟩; rw [← hnB] at eB; rw [eB]; have HNB := Lib.hid hnB; clear hnB; have EB := Lib.hid eB; clear eB; (have K2 : Three w3 b p (ptrN p) (ptrN l.root) (ptrN r.root) := Three.chg hHeld (by have := k2.size; simp at this ⊢; omega) (by have := k2.size; simp at this ⊢; omega) k3 HND.out.1.2.2 HND.out.2.1.2)) | skip))); (refine hK.out _ _ ?_ (fun hHeld => ?_)); (· ((try dsimp only); (first | (first | (go_simp; done) | (simp [*, go_sem, World.cell?_alloc_past]; done) | (simp [*, go_sem, World.cell?_alloc_past, World.cell?_setCell_far]; done)) | exact K2 | exact K1 | trivial))); (clear hK K; (try simp only [Act.put, List.setIfInBounds_toArray, List.set_cons_zero, List.set_cons_succ]))))
      | (refine wpAnyH_done (by decide +kernel) ?_ _)
      | fail)
    go_goals
    have k2' : Chg w w2 (fun x _ => x ∈ l.blocks) := by first | exact k2 | exact (Chg.of_below (Below.drew (Below.refl _ _)) _).trans k2 (fun _ _ _ h => h)
    have k3' : Chg w2 w3 (fun x _ => x ∈ r.blocks) := by first | exact k3 | exact (Chg.of_below (Below.drew (Below.refl _ _)) _).trans k3 (fun _ _ _ h => h)
    obtain ⟨S, hJ⟩ := joined HD.out k2' ha2 (by first | exact hs2 | simpa using hs2) k3' ha3 (by first | exact hs3 | simpa using hs3)
    have HJ3 := Lib.hid hJ
    clear hJ k2 k3 k2' k3' ha2 ha3 hs2 hs3 hHeld K1 K2 HR2 hoA hoB IL IR HL HR HRD c0 q0 q1 HD
    obtain ⟨X, hX⟩ : ∃ X, X = w3 := ⟨_, rfl⟩
    subst hX
    have hzX := HJ3.out.ch.size
    have HA : Hid (HasN X w.heap.size (.slice aA nA cA) l.er.set) := by
      show HasN _ _ _ _
      rw [← EA.out, HJ3.out.ea]
      exact HJ3.out.sl.top
    have HB : Hid (HasN X w.heap.size (.slice aB nB cB) r.er.set) := by
      show HasN _ _ _ _
      rw [← EB.out, HJ3.out.eb]
      exact HJ3.out.sr.top
    have HSE := Lib.hid (show (HT.node l.er r.er).set = if l.er.set.filter (fun x => decide (x ∈ r.er.set)) = [] then l.er.set ++ r.er.set else l.er.set.filter (fun x => decide (x ∈ r.er.set)) from rfl)
    have hnA := HNA.out
    have hnB := HNB.out
    have HNA := Lib.hid hnA
    have HNB := Lib.hid hnB
    have hA5 : nA ≤ 5000 := by omega
    have hB5 : nB ≤ 5000 := by omega
    have hA0 : 0 < nA := by have := HT.set_pos l.er; omega
    have HDN := Lib.hid (fun (w4 : World) (v : Value) (c : Chg X w4 (fun x _ => x = b)) (hr : RX w4 b (nodeC (ptrN p) h v)) (hh : HasN w4 w.heap.size v (HT.node l.er r.er).set) => HJ3.out.done lb c hr hh)
    have R0 : Hid (RX X b (nodeC (ptrN p) h nilS)) := by
      have := HJ3.out.hd.rx (b, nodeC (ptrN p) h (S b)) (by simp [FT.cells])
      rw [HJ3.out.sb] at this
      exact this
    rw [HSE.out] at HDN
    clear hnA hnB HJ3 EA EB HSE sl1 sl2 hlv HND
    generalize l.er.set = la at *
    generalize r.er.set = lb' at *
    have hbX : b < X.heap.size := R0.out.lt
    go_wp2_with fail
    go_loopw [42] (fun i wr => ∃ (j : Nat) (v : Value), j ≤ nA ∧ i = .int .i64 j ∧ Hid (ChSt X wr b p h la lb' j v)) (fun i _ => nA - (intOf i).toNat)
    case atStart => exact ⟨0, nilS, Nat.zero_le _, rfl, ⟨R0.out, Chg.refl _ _, ⟨none, 0, rfl, Wk.Own.nil _ _ _ _⟩, fun _ => rfl⟩⟩
    case round =>
      obtain ⟨j, v, hj, rfl, HI⟩ := hrel
      have cF : ∀ x (_ : Nat), x = b → x < w.heap.size := fun x _ e => by omega
      have HAr := Lib.hid ((HA.out.chg HI.out.ch cF).own)
      have HBr := Lib.hid ((HB.out.chg HI.out.ch cF).own)
      have hzr := HI.out.ch.size
      have hbr := HI.out.rx.lt
      clear cF
      by_cases hlt : j < nA
      · obtain ⟨x, hx⟩ : ∃ x, la[j]? = some x := ⟨_, List.getElem?_eq_getElem (by have := HNA.out; omega)⟩
        obtain ⟨g, off, rfl, hg, d0⟩ := Sl.nat HAr.out.2.sl hx
        have HFS := Lib.hid (filt_snoc (lb := lb') hx)
        have CN : Hid (Calls Try.prog 96 #[.slice aB nB cB, .int .i64 (x : Nat)] wr fun e w' => e = .returned (.bool (decide (x ∈ lb'))) ∧ wr = w') := by
          have hs := HBr.out.2.sl
          have e := HBr.out.1
          show Calls _ _ _ _ _
          rw [e] at hs ⊢
          exact containsN_any aB cB lb' x wr hs (by rw [← e]; omega)
        clear hx
        by_cases hxb : x ∈ lb'
        · rw [decide_eq_true hxb] at CN
          rw [if_pos hxb] at HFS
          obtain ⟨av, cv, rfl, ho⟩ := HI.out.ow
          have HO := Lib.hid ho
          have c2 := HI.out.rx.cell 2 _ rfl
          have fz := HI.out.rx.fz
          have hfl : ((la.take j).filter (fun x => decide (x ∈ lb'))).length ≤ 5000 := by
            have h1 := List.length_filter_le (fun x => decide (x ∈ lb')) (la.take j)
            rw [List.length_take] at h1
            omega
          generalize (la.take j).filter (fun x => decide (x ∈ lb')) = F at *
          clear ho
          go_wp2_with (first | (with_reducible refine CN.out.mono ?_; rintro e w' ⟨rfl, rfl⟩) | (at_builtin; refine stop_at ?_; intro G hG))
          rw [← hG.out]; clear hG G
          refine wpList_append_at rfl _ _ 25 3 1 8 _ rfl eiN X.heap.size (.slice av F.length cv) (F.map nR) rfl (HO.out.alloc _) _ [nR x] rfl (sl_new (c := nR x) (by simp) rfl) (by intro c hc; simp at hc; subst hc; exact nR_one _) (by simp; omega) (by decide) (by simp; omega) (by simp) ?_
          intro v7 w7 hown hgr hb7 hat
          rw [show F.map nR ++ [nR x] = (F ++ [x]).map nR by rw [List.map_append]; rfl] at hown
          obtain ⟨a7, c7, rfl⟩ := hown.shape
          rw [List.length_map] at hown ⊢
          have B7 : Below X.heap.size wr w7 := ((Below.refl _ _).alloc hzr _).trans hb7
          have R7 := rx_low HI.out.rx B7 hbX
          have C7 := chg_low HI.out.ch B7
          have c2' := R7.cell 2 _ rfl
          have fz' := R7.fz
          have hb7l := R7.lt
          obtain ⟨r1, r2⟩ := rx_one R7 (j := 2) (by simp [nodeC]) (.slice a7 (F ++ [x]).length c7)
          have HI7 : Hid (ChSt X (w7.setCell ⟨b, 2, none⟩ (.slice a7 (F ++ [x]).length c7)) b p h la lb' (j + 1) (.slice a7 (F ++ [x]).length c7)) :=
            ⟨r1, C7.trans r2 (fun _ _ _ h => h), by rw [HFS.out]; exact ⟨a7, c7, rfl, own_chgs hown r2 (fun k _ e => by omega)⟩, fun e => by rw [HFS.out] at e; exact absurd e (by simp)⟩
          clear hown hgr hb7 hat r1 r2 R7 C7 B7 HI c2 fz HO hfl
          generalize (F ++ [x]).length = q at *
          go_wp2_with fail
          go_roundw
          case rel => exact ⟨j + 1, _, by omega, by go_num, HI7⟩
          case measure => simp [intOf]; omega
        · rw [decide_eq_false hxb] at CN
          rw [if_neg hxb, List.append_nil] at HFS
          have HI7 : Hid (ChSt X wr b p h la lb' (j + 1) v) := ⟨HI.out.rx, HI.out.ch, by rw [HFS.out]; exact HI.out.ow, by rw [HFS.out]; exact HI.out.ni⟩
          clear HI
          go_wp2_with (with_reducible refine CN.out.mono ?_; rintro e w' ⟨rfl, rfl⟩)
          go_roundw
          case rel => exact ⟨j + 1, v, by omega, by go_num, HI7⟩
          case measure => simp [intOf]; omega
      · obtain rfl : j = nA := by omega
        have HTK : Hid (la.take j = la) := List.take_of_length_le (by have := HNA.out; omega)
        have HOW : Hid (HasN wr X.heap.size v (la.filter (fun x => decide (x ∈ lb')))) := by have := HI.out.ow; rw [HTK.out] at this; exact this
        have HNI : Hid (la.filter (fun x => decide (x ∈ lb')) = [] → v = nilS) := by have := HI.out.ni; rw [HTK.out] at this; exact this
        have c2 := HI.out.rx.cell 2 _ rfl
        have fz := HI.out.rx.fz
        by_cases hI : la.filter (fun x => decide (x ∈ lb')) = []
        · rw [if_pos hI] at HDN
          have hv := HNI.out hI
          subst hv
          have HLL := Lib.hid (show la.length = j ∧ lb'.length = nB from ⟨HNA.out.symm, HNB.out.symm⟩)
          have SA : Hid (Sl wr 1 (.slice aA la.length cA) (la.map nR)) := by have h1 := HAr.out.2.sl; rw [HAr.out.1] at h1; exact h1
          have SB : Hid (Sl wr 1 (.slice aB lb'.length cB) (lb'.map nR)) := by have h1 := HBr.out.2.sl; rw [HBr.out.1] at h1; exact h1
          have CC : Hid (Calls Try.prog 97 #[.slice (some ⟨wr.heap.size, 0, none⟩) 2 2] (wr.alloc (.cells #[.slice aA j cA, .slice aB nB cB] 25)) fun e w' => ∃ a c, e = .returned (.slice a (la ++ lb').length c) ∧ Wk.Own w' wr.heap.size 3 1 (.slice a (la ++ lb').length c) ((la ++ lb').map nR) ∧ Below wr.heap.size wr w') := by
            have hW : Below wr.heap.size wr (wr.alloc (.cells #[.slice aA j cA, .slice aB nB cB] 25)) := (Below.refl _ _).alloc (Nat.le_refl _) _
            have eF : flatN [(aA, cA, la), (aB, cB, lb')] = la ++ lb' := by simp [flatN]
            have h := concatN_any wr.heap.size 2 [(aA, cA, la), (aB, cB, lb')] (wr.alloc (.cells #[.slice aA j cA, .slice aB nB cB] 25)) (by simp) (fun i q hq => by
              match i, hq with
              | 0, hq => simp at hq; subst hq; exact ⟨by simp [HLL.out.1], SA.out.below hW, by have := HLL.out.1; dsimp only; omega⟩
              | 1, hq => simp at hq; subst hq; exact ⟨by simp [HLL.out.2], SB.out.below hW, by have := HLL.out.2; dsimp only; omega⟩
              | i + 2, hq => simp at hq) (by simp) (by rw [eF, List.length_append]; have := HLL.out.1; omega)
            rw [eF] at h
            refine h.mono ?_
            rintro e w' ⟨a, c, rfl, ho, hb⟩
            exact ⟨a, c, rfl, ho.base hW.size, hW.trans (hb.mono hW.size)⟩
          clear HOW HNI HAr HBr SA SB
          have EQ : ∀ W : World, (binOp .eql 25 nilS (.slice none 0 0)).run Try.prog W = .ok (.bool true) W := fun W => Lib.run_eql_slice_nil W _ _ _ _ _ _ _ eiN.1
          go_wp2_with fail
          refine CC.out.mono ?_
          rintro e w5 ⟨a5, c5, rfl, ho5, hb5⟩
          have R5 := HI.out.rx.below hb5
          have C5 := chg_low HI.out.ch (hb5.mono hzr)
          have c2' := R5.cell 2 _ rfl
          have fz' := R5.fz
          have hb5l := R5.lt
          obtain ⟨r1, r2⟩ := rx_one R5 (j := 2) (by simp [nodeC]) (.slice a5 (la ++ lb').length c5)
          have HF := Lib.hid (HDN.out (w5.setCell ⟨b, 2, none⟩ (.slice a5 (la ++ lb').length c5)) (.slice a5 (la ++ lb').length c5) (C5.trans r2 (fun _ _ _ h => h)) r1 ⟨a5, c5, rfl, own_chgs (ho5.base (Nat.le_trans hzX hzr)) r2 (fun k _ e => by omega)⟩)
          clear ho5 hb5 R5 C5 r1 r2 HDN HI c2 fz CC
          generalize (la ++ lb').length = q at *
          go_wp2_with fail
          exact bodyPost_ret (v := .slice a5 q c5) (by simp [results, Try.results55, go_sem]) rfl HF.out
        · rw [if_neg hI] at HDN
          obtain ⟨av, cv, rfl, ho⟩ := HOW.out
          obtain ⟨x, hx⟩ : ∃ x, (la.filter (fun x => decide (x ∈ lb')))[0]? = some x := ⟨_, List.getElem?_eq_getElem (List.length_pos_iff.2 hI)⟩
          obtain ⟨g, off, rfl, hg, _⟩ := Sl.nat ho.sl hx
          have HF := Lib.hid (HDN.out wr _ HI.out.ch HI.out.rx ⟨_, _, rfl, ho.base hzX⟩)
          clear ho hx HOW HNI HDN HAr HBr HI HTK
          generalize (la.filter (fun x => decide (x ∈ lb'))).length = q at *
          have EQ : ∀ W : World, (binOp .eql 25 (.slice (some ⟨g, off, none⟩) q cv) (.slice none 0 0)).run Try.prog W = .ok (.bool false) W := fun W => Lib.run_eql_slice_nil W _ _ _ _ _ _ _ eiN.1
          go_wp2_with fail
          exact bodyPost_ret (v := .slice (some ⟨g, off, none⟩) q cv) (by simp [results, Try.results55, go_sem]) rfl HF.out
end Go.Proofs.Ytoecmoicaklbaaa
