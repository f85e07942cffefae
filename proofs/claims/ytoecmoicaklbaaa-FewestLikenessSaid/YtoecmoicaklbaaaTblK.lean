
/- Contracts of package table: Put. -/
import Derived.Test.YtoecmoicaklbaaaTblF
import Derived.Test.YtoecmoicaklbaaaTblW
set_option linter.unusedVariables false
namespace Go.Proofs.Ytoecmoicaklbaaa
open Go Go.RowKit Go.Sort Wc Wk

/-- What a Put does: what it returns, the list behind it, what it leaves alone. -/
def PutSaysT (w : World) (tb n k hop : Nat) (L : List (Nat × Nat × Nat)) (F : Nat → Prop) (e : Ending) (w' : World) : Prop :=
  ∃ (was : Nat) (L' : List (Nat × Nat × Nat)), e = .returned (.int .i64 was) ∧ Has L n k was ∧ (∀ x, x ∈ L' ↔ x = (n, k, hop) ∨ (x ∈ L ∧ ¬ (x.1 = n ∧ x.2.1 = k))) ∧ L'.length ≤ L.length + 1 ∧
    Tab w' tb L' (fun b => F b ∨ w.heap.size ≤ b) ∧ Chg w w' (fun b _ => F b)

theorem set_alloc' (w : World) (b x : Nat) (u : Value) (o : Obj) (hb : b < w.heap.size) : (w.alloc o).setCell ⟨b, x, none⟩ u = (w.setCell ⟨b, x, none⟩ u).alloc o := by
  unfold World.alloc World.setCell
  simp only [World.mk.injEq, and_true]
  apply Array.ext
  · simp
  · intro i h1 h2
    simp only [Array.getElem_modify, Array.getElem_push]
    by_cases hi : i < w.heap.size
    · simp [hi]
    · have : i ≠ b := by omega
      simp [hi, this.symm]
theorem put_fin {w Y : World} {tb n k hop : Nat} {T t t' : BT} {c : List Fr} {F : Nat → Prop} (hc : T = plug c t) (hw : T.wf) (ho : onPath c n k) (hp : VP false n k) (hs : Stop t n k) (ok : PutOk c t t' n k hop) (hF : ∀ b ∈ tb :: T.blocks, F b)
    {cnt : Nat} (hY : TabR Y tb (plug c t') cnt) (hcnt : cnt = T.list.length + (if exactH t n k = 0 then 1 else 0)) (hb : ∀ b ∈ (plug c t').blocks, b ∈ T.blocks ∨ w.heap.size ≤ b) (hch : Chg w Y (fun b _ => F b)) :
    PutSaysT w tb n k hop T.list F (.returned (.int .i64 (exactH t n k : Nat))) Y := by
  subst hc
  obtain ⟨p1, p2, p3⟩ := put_says hw ho hp ok
  refine ⟨_, (plug c t').list, rfl, fun h' hh => get_says hw ho hp hs h' hh, p2, ?_, ⟨plug c t', by rw [p3, ← hcnt]; exact hY, p1, rfl, fun b hbm => ?_⟩, hch⟩
  · rw [p3]; split <;> omega
  · rcases List.mem_cons.1 hbm with rfl | hbm
    · exact .inl (hF _ List.mem_cons_self)
    · exact (hb b hbm).imp (fun h => hF b (List.mem_cons_of_mem _ h)) id
theorem blocks_of {c : List Fr} {t : BT} {b : Nat} : b ∈ (plug c t).blocks ↔ b ∈ cblocks c ∨ b ∈ t.blocks := by
  rw [(plug_blocks c t).mem_iff, List.mem_append]
theorem slot_in {tb : Nat} {c : List Fr} {t : BT} : slotB tb c ∈ tb :: (plug c t).blocks := by
  rcases slot_blk tb c with h | h
  · rw [h]; exact List.mem_cons_self
  · exact List.mem_cons_of_mem _ (blocks_of.2 (.inl h))
/-- A place that was empty: a new node is hung there, and counted. -/
theorem put_new {w w1 : World} {tb n k hop N : Nat} {c : List Fr} {F : Nat → Prop} {T : BT} (E : TypeId) (hc : T = plug c .nil) (hw : T.wf) (ho : onPath c n k) (hp : VP false n k) (hh : hop ≠ 0) (hF : ∀ b ∈ tb :: T.blocks, F b) (hN : T.list.length = N)
    (tc : TabC w1 tb c none N) (hn : (tb :: (cblocks c ++ BT.nil.blocks)).Nodup) (hbl : Below w.heap.size w w1) :
    ∃ X, X = (w1.setCell ⟨slotB tb c, slotO c, none⟩ (.pointer (some ⟨w1.heap.size, 0, none⟩))).alloc (.cells #[.bool false, .int .u64 (hiOf false n), .int .u64 (loOf n), .int .i64 k, .int .i64 hop, .pointer none, .pointer none] E) ∧
      X.cell? ⟨tb, 2, none⟩ = some (.int .i64 N) ∧ X.frozen? ⟨tb, 2, none⟩ = false ∧ tb < X.heap.size ∧ PutSaysT w tb n k hop T.list F (.returned (.int .i64 0)) (X.setCell ⟨tb, 2, none⟩ (.int .i64 ((N + 1 : Nat) : Int))) := by
  have hal : Below w1.heap.size w1 (w1.alloc (.cells #[.bool false, .int .u64 (hiOf false n), .int .u64 (loOf n), .int .i64 k, .int .i64 hop, .pointer none, .pointer none] E)) := (Below.refl _ _).alloc (Nat.le_refl _) _
  have tn := tn_new w1 n k hop E
  have hlt : ∀ b ∈ tb :: cblocks c, b < w1.heap.size := fun b hb => by
    rcases List.mem_cons.1 hb with rfl | hb
    · exact tc.lt
    · exact crep_lt tc.rep b hb
  simp only [BT.blocks, List.append_nil] at hn
  have hn' : (tb :: (cblocks c ++ (BT.node w1.heap.size n k hop .nil .nil).blocks)).Nodup := by
    refine nodup_join hn (fun h => ?_) (fun x hx hxc => ?_) (by simp [BT.blocks])
    · simp [BT.blocks] at h
      have := hlt tb List.mem_cons_self; omega
    · simp [BT.blocks] at hx
      have := hlt x (List.mem_cons_of_mem _ hxc); omega
  obtain ⟨h1, h2⟩ := hang (t := .node w1.heap.size n k hop .nil .nil) (tc.below hal) ⟨tn, trivial, trivial⟩ hn'
  have hsl : slotB tb c < w1.heap.size := (tc.at_slot).1
  refine ⟨_, rfl, ?_⟩
  rw [← set_alloc' _ _ _ _ _ hsl]
  obtain ⟨k1, k2⟩ := count_set h1 (N + 1)
  refine ⟨h1.tab.r2, h1.tab.fz 2 (by decide), h1.tab.lt, ?_⟩
  have hpo := put_nil (b := w1.heap.size) ho hp hh
  have := put_fin (Y := _) (w := w) hc hw ho hp trivial hpo hF k1 (by rw [hN]; simp [exactH]) (fun b hb => ?_) ?_
  · exact this
  · rw [blocks_of] at hb
    rcases hb with hb | hb
    · rw [hc, blocks_of]; exact .inl (.inl hb)
    · simp [BT.blocks] at hb
      have := hbl.size
      exact .inr (by omega)
  · have hsF : F (slotB tb c) := hF _ (by rw [hc]; exact slot_in)
    have htF : F tb := hF _ List.mem_cons_self
    have c1 : Chg w w1 (fun b _ => F b) := Chg.of_below hbl _
    have c2 := c1.trans (Chg.of_below hal (fun b (_ : Nat) => F b)) (fun _ _ _ h => h)
    have c3 := c2.trans h2 (fun b x _ e => by rw [e]; exact hsF)
    exact c3.trans k2 (fun b x _ e => by rw [e]; exact htF)

/-- A place that holds the prefix: its hop is set. -/
theorem put_old {w w1 : World} {tb b n k h hop N : Nat} {l r : BT} {c : List Fr} {F : Nat → Prop} {T : BT} (hc : T = plug c (.node b n k h l r)) (hw : T.wf) (ho : onPath c n k) (hp : VP false n k) (hh : hop ≠ 0) (hF : ∀ b ∈ tb :: T.blocks, F b) (hN : T.list.length = N)
    (tc : TabC w1 tb c (some (b, 0)) N) (rt : BRep w1 (.node b n k h l r)) (hn : (tb :: (cblocks c ++ (BT.node b n k h l r).blocks)).Nodup) (hbl : Below w.heap.size w w1) :
    (h ≠ 0 → PutSaysT w tb n k hop T.list F (.returned (.int .i64 h)) (w1.setCell ⟨b, 4, none⟩ (.int .i64 hop))) ∧
    (h = 0 → (w1.setCell ⟨b, 4, none⟩ (.int .i64 hop)).cell? ⟨tb, 2, none⟩ = some (.int .i64 N) ∧ (w1.setCell ⟨b, 4, none⟩ (.int .i64 hop)).frozen? ⟨tb, 2, none⟩ = false ∧
      PutSaysT w tb n k hop T.list F (.returned (.int .i64 0)) ((w1.setCell ⟨b, 4, none⟩ (.int .i64 hop)).setCell ⟨tb, 2, none⟩ (.int .i64 ((N + 1 : Nat) : Int)))) := by
  have TR : TabR w1 tb (plug c (.node b n k h l r)) N := tab_plug.2 ⟨tc, rt, hn⟩
  obtain ⟨h1, h2⟩ := hop_set TR hop
  obtain ⟨k1, k2⟩ := count_set h1 (N + 1)
  have hbF : F b := hF _ (by rw [hc]; exact List.mem_cons_of_mem _ (blocks_of.2 (.inr (by simp [BT.blocks]))))
  have htF : F tb := hF _ List.mem_cons_self
  have c1 : Chg w w1 (fun b _ => F b) := Chg.of_below hbl _
  have c2 := c1.trans h2 (fun x y _ e => by rw [e]; exact hbF)
  have c3 := c2.trans k2 (fun x y _ e => by rw [e]; exact htF)
  have hwp : (plug c (.node b n k h l r)).wf := by rw [← hc]; exact hw
  have ok : PutOk c (.node b n k h l r) (.node b n k hop l r) n k hop := put_same hwp hh
  have eb : ∀ x ∈ (plug c (.node b n k hop l r)).blocks, x ∈ T.blocks ∨ w.heap.size ≤ x := fun x hx => by
    rw [blocks_of] at hx
    rw [hc, blocks_of]
    exact .inl hx
  have st : Stop (.node b n k h l r) n k := .inl ⟨rfl, rfl⟩
  have ex : exactH (.node b n k h l r) n k = h := by simp [exactH]
  refine ⟨fun h0 => ?_, fun h0 => ⟨h1.tab.r2, h1.tab.fz 2 (by decide), ?_⟩⟩
  · have := put_fin (Y := _) (w := w) hc hw ho hp st ok hF h1 (by rw [hN, ex, if_neg h0]; rfl) eb c2
    rw [ex] at this
    exact this
  · have := put_fin (Y := _) (w := w) hc hw ho hp st ok hF k1 (by rw [hN, ex, if_pos h0]) eb c3
    rw [ex, h0] at this
    exact this

/-- A fork that lies aside, with the old node in it, is hung into the place. -/
theorem put_forked {w wz : World} {tb b n' k' h n k hop N M : Nat} {l r : BT} {c : List Fr} {F : Nat → Prop} {T : BT} (f : Fr) (hc : T = plug c (.node b n' k' h l r)) (hw : T.wf) (ho : onPath c n k) (hp : VP false n k) (hs : ¬ cov false n' k' n k) (hF : ∀ b ∈ tb :: T.blocks, F b) (hN : T.list.length = N)
    (tc : TabC wz tb c (some (b, 0)) N) (rf : BRep wz (f.fill (.node b n' k' h l r))) (hn : (tb :: (cblocks c ++ (BT.node b n' k' h l r).blocks)).Nodup) (old : ∀ x ∈ tb :: (cblocks c ++ (BT.node b n' k' h l r).blocks), x < M) (hM : w.heap.size ≤ M)
    (fresh : ∀ x ∈ f.b :: f.sib.blocks, M ≤ x) (fn : (f.b :: f.sib.blocks).Nodup) (ok : PutOk c (.node b n' k' h l r) (f.fill (.node b n' k' h l r)) n k hop) (hbl : Below w.heap.size w wz) :
    (wz.setCell ⟨slotB tb c, slotO c, none⟩ (.pointer (some ⟨f.b, 0, none⟩))).cell? ⟨tb, 2, none⟩ = some (.int .i64 N) ∧ (wz.setCell ⟨slotB tb c, slotO c, none⟩ (.pointer (some ⟨f.b, 0, none⟩))).frozen? ⟨tb, 2, none⟩ = false ∧
      PutSaysT w tb n k hop T.list F (.returned (.int .i64 0)) ((wz.setCell ⟨slotB tb c, slotO c, none⟩ (.pointer (some ⟨f.b, 0, none⟩))).setCell ⟨tb, 2, none⟩ (.int .i64 ((N + 1 : Nat) : Int))) := by
  obtain ⟨n1, n2, n3, n4⟩ := nodup_parts hn
  have hfb := fill_blocks f (.node b n' k' h l r)
  have mem : ∀ x, x ∈ (f.fill (.node b n' k' h l r)).blocks ↔ (x ∈ f.b :: f.sib.blocks) ∨ x ∈ (BT.node b n' k' h l r).blocks := fun x => by
    rw [hfb.mem_iff, List.mem_cons, List.mem_append, List.mem_cons, or_assoc]
  have hn' : (tb :: (cblocks c ++ (f.fill (.node b n' k' h l r)).blocks)).Nodup := by
    refine nodup_join n1 (fun hx => ?_) (fun x hx hxc => ?_) ?_
    · rcases (mem _).1 hx with hx | hx
      · have := fresh _ hx
        have := old tb List.mem_cons_self
        omega
      · exact n2 hx
    · rcases (mem _).1 hx with hx | hx
      · have := fresh _ hx
        have := old x (List.mem_cons_of_mem _ (List.mem_append.2 (.inl hxc)))
        omega
      · exact n3 x hx hxc
    · rw [hfb.nodup_iff, ← List.cons_append, List.nodup_append]
      refine ⟨fn, n4, fun x hx y hy e => ?_⟩
      have := fresh _ hx
      have := old y (List.mem_cons_of_mem _ (List.mem_append.2 (.inr hy)))
      omega
  obtain ⟨h1, h2⟩ := hang (t := f.fill (.node b n' k' h l r)) tc rf hn'
  rw [fill_ptr] at h1 h2
  obtain ⟨k1, k2⟩ := count_set h1 (N + 1)
  refine ⟨h1.tab.r2, h1.tab.fz 2 (by decide), ?_⟩
  have hne : ¬ (n' = n ∧ k' = k) := fun e => hs (by rw [e.1, e.2]; exact cov_refl hp)
  have ex : exactH (.node b n' k' h l r) n k = 0 := by simp [exactH, hne]
  have := put_fin (Y := _) (w := w) hc hw ho hp (t := .node b n' k' h l r) (.inr hs) ok hF k1 (by rw [hN, ex]; simp) (fun x hx => ?_) ?_
  · rw [ex] at this
    exact this
  · rw [blocks_of] at hx
    rcases hx with hx | hx
    · rw [hc, blocks_of]; exact .inl (.inl hx)
    · rcases (mem _).1 hx with hx | hx
      · have := fresh _ hx
        exact .inr (by omega)
      · rw [hc, blocks_of]; exact .inl (.inr hx)
  · have hsF : F (slotB tb c) := hF _ (by rw [hc]; exact slot_in)
    have htF : F tb := hF _ List.mem_cons_self
    have c1 : Chg w wz (fun b _ => F b) := Chg.of_below hbl _
    have c3 := c1.trans h2 (fun b x _ e => by rw [e]; exact hsF)
    exact c3.trans k2 (fun b x _ e => by rw [e]; exact htF)


set_option maxRecDepth 100000 in
set_option maxHeartbeats 2000000 in
theorem put_core (tb n k hop : Nat) (T : BT) (w : World) (F : Nat → Prop) (ht : TabR w tb T T.list.length) (hw : T.wf) (hF : ∀ b ∈ tb :: T.blocks, F b) (hlen : T.list.length ≤ 1000000) (hp : VP false n k) (hh : hop ≠ 0) (hh2 : hop ≤ 1000000) :
    Calls Try.prog 85 #[.pointer (some ⟨tb, 0, none⟩), Value.agg #[.bool false, .int .u64 (hiOf false n), .int .u64 (loOf n), .int .i64 k], .int .i64 hop] w (PutSaysT w tb n k hop T.list F) := by
  have HT := Lib.hid ht
  have PL := Lib.hid (fun w ht => place_nil tb T.list.length n k T w ht hw hp)
  have HW := Lib.hid hw
  have HP := Lib.hid hp
  have HF := Lib.hid hF
  clear ht hw hp hF
  go_enter Try.func85, Try.ntmps85
  go_wp2_with fail
  refine (PL.out _ (HT.out.below (by (repeat' (first | (with_reducible exact Below.refl _ _) | (with_reducible assumption) | (with_reducible refine Below.alloc ?_ ?_ _) | (with_reducible refine Below.drew ?_) | (with_reducible refine Below.stepG ?_ (by assumption) ?_) | (with_reducible refine Below.setCell ?_ ?_ _) | omega | (dsimp only; omega) | (simp; done) | (simp; omega)))))).mono ?_
  rintro e w1 ⟨c, t, hc, ho, hs, rfl, hb1⟩; (repeat (with_reducible (replace hb1 := Below.undrew hb1))); obtain ⟨hc1, hf1⟩ := bcell hb1; have hz1 := hb1.size; (repeat (first | rw [World.size_alloc] at hz1 | rw [World.size_drew] at hz1 | rw [World.size_setCell] at hz1)); (try have : b < w1.heap.size := by omega); (try have : b < w1.heap.size + 1 := by omega); (try have : b < w1.heap.size + 1 + 1 := by omega); (try have : b < w1.heap.size + 1 + 1 + 1 := by omega); (try have : cb < w1.heap.size := by omega); (try have : cb < w1.heap.size + 1 := by omega); (try have : cb < w1.heap.size + 1 + 1 := by omega); (try have : cb < w1.heap.size + 1 + 1 + 1 := by omega); (try have : fb < w1.heap.size := by omega); (try have : fb < w1.heap.size + 1 := by omega); (try have : fb < w1.heap.size + 1 + 1 := by omega); (try have : fb < w1.heap.size + 1 + 1 + 1 := by omega); (try have : w.heap.size < w1.heap.size := by omega); (try have : w.heap.size < w1.heap.size + 1 := by omega); (try have : w.heap.size < w1.heap.size + 1 + 1 := by omega); (try have : w.heap.size < w1.heap.size + 1 + 1 + 1 := by omega)
  have F0 : w1.cell? ⟨w.heap.size, 0, none⟩ = some (.bool false) := by rw [hc1 _ _ (by simp)]; simp
  have F1 : w1.cell? ⟨w.heap.size, 1, none⟩ = some (.int .u64 (hiOf false n)) := by rw [hc1 _ _ (by simp)]; simp
  have F2 : w1.cell? ⟨w.heap.size, 2, none⟩ = some (.int .u64 (loOf n)) := by rw [hc1 _ _ (by simp)]; simp
  have F3 : w1.cell? ⟨w.heap.size, 3, none⟩ = some (.int .i64 k) := by rw [hc1 _ _ (by simp)]; simp
  have TT := HT.out.below (w' := w1) (by (repeat' (first | (with_reducible exact Below.refl _ _) | (with_reducible assumption) | (with_reducible refine Below.alloc ?_ ?_ _) | (with_reducible refine Below.drew ?_) | (with_reducible refine Below.stepG ?_ (by assumption) ?_) | (with_reducible refine Below.setCell ?_ ?_ _) | omega | (dsimp only; omega) | (simp; done) | (simp; omega))))
  have HC := Lib.hid hc
  have HO := Lib.hid ho
  have HST := Lib.hid hs
  have hbl : Below w.heap.size w w1 := by (repeat' (first | (with_reducible exact Below.refl _ _) | (with_reducible assumption) | (with_reducible refine Below.alloc ?_ ?_ _) | (with_reducible refine Below.drew ?_) | (with_reducible refine Below.stepG ?_ (by assumption) ?_) | (with_reducible refine Below.setCell ?_ ?_ _) | omega | (dsimp only; omega) | (simp; done) | (simp; omega)))
  generalize hN : T.list.length = N at *
  have HN := Lib.hid hN
  rw [hc] at TT
  obtain ⟨t1, t2, t3⟩ := tab_plug.1 TT
  obtain ⟨sl, sc, sf⟩ := t1.at_slot
  have tl := t1.lt
  have tc2 := t1.r2
  have tf2 := t1.fz 2 (by decide)
  have HTC := Lib.hid t1
  have HRT := Lib.hid t2
  have HND := Lib.hid t3
  have HWP : Hid (plug c t).wf := by show (plug c t).wf; rw [← hc]; exact HW.out
  have ewN : wrap64 ((N : Int) + 1) = (N : Int) + 1 := wrap64_in (by omega) (by omega)
  have HBL := Lib.hid hbl
  have HWT := Lib.hid HW.out
  clear TT t1 t2 t3 hc1 hf1 hc ho hs HT PL hb1 hN HW
  generalize hsb : slotB tb c = sb at *
  generalize hso : slotO c = so at *
  have HSB := Lib.hid hsb
  have HSO := Lib.hid hso
  clear hsb hso
  cases t with
  | nil =>
    have sc' : w1.cell? ⟨sb, so, none⟩ = some (.pointer none) := sc
    clear sc
    obtain ⟨X, hX, x2, xf, xl, XF⟩ := put_new (w := w) 155 HC.out HWT.out HO.out HP.out hh HF.out HN.out HTC.out HND.out HBL.out
    rw [HSB.out, HSO.out] at hX
    rw [hX] at x2 xf xl XF
    have HXF := Lib.hid XF
    clear XF hX
    have eN : ((N + 1 : Nat) : Int) = (N : Int) + 1 := by omega
    have EN := Lib.hid eN
    clear eN
    go_wp2
    go_returns
    first | exact HXF.out | (rw [← set_alloc' _ _ _ _ _ (by simpa using tl)]; exact HXF.out)
  | node b n' k' h l r =>
    have sc' : w1.cell? ⟨sb, so, none⟩ = some (.pointer (some ⟨b, 0, none⟩)) := sc
    clear sc
    obtain ⟨⟨ltb, d0, d1, d2, d3, d4, d5, d6, fz⟩, _, _⟩ := HRT.out
    have hwt := (plug_wf HWP.out).1
    by_cases hex : n' = n ∧ k' = k
    · obtain ⟨rfl, rfl⟩ := hex
      go_wp2_with fail
      refine wp_region_qb (by kernel_rfl) (by kernel_rfl) (fun kq => ?_)
      repeat (quiet_step (fail))
      clear kq
      refine wpQuiet_nil ?_; intro w2 hb2; (repeat (with_reducible (replace hb2 := Below.undrew hb2))); obtain ⟨hc2, hf2⟩ := bcell hb2; have hz2 := hb2.size; (repeat (first | rw [World.size_alloc] at hz2 | rw [World.size_drew] at hz2 | rw [World.size_setCell] at hz2)); (try have : b < w2.heap.size := by omega); (try have : b < w2.heap.size + 1 := by omega); (try have : b < w2.heap.size + 1 + 1 := by omega); (try have : b < w2.heap.size + 1 + 1 + 1 := by omega); (try have : cb < w2.heap.size := by omega); (try have : cb < w2.heap.size + 1 := by omega); (try have : cb < w2.heap.size + 1 + 1 := by omega); (try have : cb < w2.heap.size + 1 + 1 + 1 := by omega); (try have : fb < w2.heap.size := by omega); (try have : fb < w2.heap.size + 1 := by omega); (try have : fb < w2.heap.size + 1 + 1 := by omega); (try have : fb < w2.heap.size + 1 + 1 + 1 := by omega); (try have : w.heap.size < w2.heap.size := by omega); (try have : w.heap.size < w2.heap.size + 1 := by omega); (try have : w.heap.size < w2.heap.size + 1 + 1 := by omega); (try have : w.heap.size < w2.heap.size + 1 + 1 + 1 := by omega); (try have : w1.heap.size < w2.heap.size := by omega); (try have : w1.heap.size < w2.heap.size + 1 := by omega); (try have : w1.heap.size < w2.heap.size + 1 + 1 := by omega); (try have : w1.heap.size < w2.heap.size + 1 + 1 + 1 := by omega); (try have : wa.heap.size < w2.heap.size := by omega); (try have : wa.heap.size < w2.heap.size + 1 := by omega); (try have : wa.heap.size < w2.heap.size + 1 + 1 := by omega); (try have : wa.heap.size < w2.heap.size + 1 + 1 + 1 := by omega)
      have D4 := (hc2 b 4 ltb).trans d4
      have D4f := (hf2 b 4 ltb).trans (fz 4 (by decide))
      have bl2 : Below w.heap.size w w2 := HBL.out.trans (hb2.mono HBL.out.size)
      obtain ⟨O1, O2⟩ := put_old HC.out HWT.out HO.out HP.out hh HF.out HN.out (HTC.out.below hb2) (HRT.out.below hb2) HND.out bl2
      have hl2 : b < w2.heap.size := by omega
      have tl2 : tb < w2.heap.size := by omega
      clear hc2 hf2 d0 d1 d2 d3 d4 d5 d6 fz sf tc2 tf2
      by_cases h0 : h = 0
      · obtain ⟨x2, xf, XF⟩ := O2 h0
        have HXF := Lib.hid XF
        have eN : ((N + 1 : Nat) : Int) = (N : Int) + 1 := by omega
        clear XF O1 O2 eN
        subst h0
        go_wp2
        go_returns
        first | exact HXF.out
      · have HXF := Lib.hid (O1 h0)
        have h0' : ((h : Int) == 0) = false := by rw [beq_eq_false_iff_ne]; omega
        clear O1 O2
        go_wp2
        go_returns
        first | exact HXF.out
    · have hs : ¬ cov false n' k' n k := HST.out.resolve_left hex
      go_upto_region 12 with fail
      go_cut [76] (fun v wx => v = .bool false ∧ Hid (Below w1.heap.size w1 wx))
      case first =>
        by_cases hkk : k' = k
        · have hne : ¬ n' = n := fun e => hex ⟨e, hkk⟩
          have hl : ¬ loOf n' = loOf n := fun e => hne (by
            rw [loOf_false hwt.1.1, loOf_false HP.out.1] at e
            omega)
          subst hkk
          clear hex hne
          refine wp_region_qb (by kernel_rfl) (by kernel_rfl) (fun kq => ?_)
          repeat (quiet_step (fail))
          clear kq
          refine wpQuiet_nil ?_; intro w2 hb2; (repeat (with_reducible (replace hb2 := Below.undrew hb2))); obtain ⟨hc2, hf2⟩ := bcell hb2; have hz2 := hb2.size; (repeat (first | rw [World.size_alloc] at hz2 | rw [World.size_drew] at hz2 | rw [World.size_setCell] at hz2)); (try have : b < w2.heap.size := by omega); (try have : b < w2.heap.size + 1 := by omega); (try have : b < w2.heap.size + 1 + 1 := by omega); (try have : b < w2.heap.size + 1 + 1 + 1 := by omega); (try have : cb < w2.heap.size := by omega); (try have : cb < w2.heap.size + 1 := by omega); (try have : cb < w2.heap.size + 1 + 1 := by omega); (try have : cb < w2.heap.size + 1 + 1 + 1 := by omega); (try have : fb < w2.heap.size := by omega); (try have : fb < w2.heap.size + 1 := by omega); (try have : fb < w2.heap.size + 1 + 1 := by omega); (try have : fb < w2.heap.size + 1 + 1 + 1 := by omega); (try have : w.heap.size < w2.heap.size := by omega); (try have : w.heap.size < w2.heap.size + 1 := by omega); (try have : w.heap.size < w2.heap.size + 1 + 1 := by omega); (try have : w.heap.size < w2.heap.size + 1 + 1 + 1 := by omega); (try have : w1.heap.size < w2.heap.size := by omega); (try have : w1.heap.size < w2.heap.size + 1 := by omega); (try have : w1.heap.size < w2.heap.size + 1 + 1 := by omega); (try have : w1.heap.size < w2.heap.size + 1 + 1 + 1 := by omega); (try have : wa.heap.size < w2.heap.size := by omega); (try have : wa.heap.size < w2.heap.size + 1 := by omega); (try have : wa.heap.size < w2.heap.size + 1 + 1 := by omega); (try have : wa.heap.size < w2.heap.size + 1 + 1 + 1 := by omega)
          go_wp2_with fail
          go_meet
          exact ⟨rfl, hb2⟩
        · have hki : ¬ ((k' : Int) = k) := by omega
          clear hex
          refine wp_region_qb (by kernel_rfl) (by kernel_rfl) (fun kq => ?_)
          repeat (quiet_step (fail))
          clear kq
          refine wpQuiet_nil ?_; intro w2 hb2; (repeat (with_reducible (replace hb2 := Below.undrew hb2))); obtain ⟨hc2, hf2⟩ := bcell hb2; have hz2 := hb2.size; (repeat (first | rw [World.size_alloc] at hz2 | rw [World.size_drew] at hz2 | rw [World.size_setCell] at hz2)); (try have : b < w2.heap.size := by omega); (try have : b < w2.heap.size + 1 := by omega); (try have : b < w2.heap.size + 1 + 1 := by omega); (try have : b < w2.heap.size + 1 + 1 + 1 := by omega); (try have : cb < w2.heap.size := by omega); (try have : cb < w2.heap.size + 1 := by omega); (try have : cb < w2.heap.size + 1 + 1 := by omega); (try have : cb < w2.heap.size + 1 + 1 + 1 := by omega); (try have : fb < w2.heap.size := by omega); (try have : fb < w2.heap.size + 1 := by omega); (try have : fb < w2.heap.size + 1 + 1 := by omega); (try have : fb < w2.heap.size + 1 + 1 + 1 := by omega); (try have : w.heap.size < w2.heap.size := by omega); (try have : w.heap.size < w2.heap.size + 1 := by omega); (try have : w.heap.size < w2.heap.size + 1 + 1 := by omega); (try have : w.heap.size < w2.heap.size + 1 + 1 + 1 := by omega); (try have : w1.heap.size < w2.heap.size := by omega); (try have : w1.heap.size < w2.heap.size + 1 := by omega); (try have : w1.heap.size < w2.heap.size + 1 + 1 := by omega); (try have : w1.heap.size < w2.heap.size + 1 + 1 + 1 := by omega); (try have : wa.heap.size < w2.heap.size := by omega); (try have : wa.heap.size < w2.heap.size + 1 := by omega); (try have : wa.heap.size < w2.heap.size + 1 + 1 := by omega); (try have : wa.heap.size < w2.heap.size + 1 + 1 + 1 := by omega)
          go_wp2_with fail
          go_meet
          exact ⟨rfl, hb2⟩
      case rest =>
        obtain ⟨rfl, HBc⟩ := hcut
        obtain ⟨wa, hwa⟩ : ∃ x, x = wc := ⟨_, rfl⟩
        subst hwa
        have bz := HBc.out
        have hzc := bz.size
        have P0 := (bz.cell (p := ⟨w.heap.size, 0, none⟩) (by omega)).trans F0
        have P1 := (bz.cell (p := ⟨w.heap.size, 1, none⟩) (by omega)).trans F1
        have P2 := (bz.cell (p := ⟨w.heap.size, 2, none⟩) (by omega)).trans F2
        have P3 := (bz.cell (p := ⟨w.heap.size, 3, none⟩) (by omega)).trans F3
        have e0 := (bz.cell (p := ⟨b, 0, none⟩) ltb).trans d0
        have e1 := (bz.cell (p := ⟨b, 1, none⟩) ltb).trans d1
        have e2 := (bz.cell (p := ⟨b, 2, none⟩) ltb).trans d2
        have e3 := (bz.cell (p := ⟨b, 3, none⟩) ltb).trans d3
        have hBc : w.heap.size < wa.heap.size := by omega
        have hbc' : b < wa.heap.size := by omega
        have HFK := Lib.hid (fork_facts HWP.out HO.out HP.out hs)
        have CO := Lib.hid (fun w => common_ok false n' k' n k w hwt.1 HP.out)
        rw [show wd false = 32 from rfl] at CO
        have HPF := Lib.hid (fun fb nb d hd => put_fork (fb := fb) (nb := nb) (h := hop) HWP.out HO.out HP.out hs hh d hd)
        have HNV := Lib.hid hwt.1
        have HHS := Lib.hid hs
        clear hwt d0 d1 d2 d3 d4 d5 d6 fz bz F0 F1 F2 F3 sc' hex hs
        generalize comLen false n' k' n k = ck at *
        generalize hcn : cutN 32 n' ck = cn at *
        have HCN := Lib.hid hcn
        clear hcn
        go_upto_region 3 with fail
        go_cut [10, 11] (fun v10 v11 wx => ∃ cb, v10 = .pointer (some ⟨cb, 0, none⟩) ∧ v11 = .int .i64 0 ∧ Hid (PX wx cb cn ck) ∧ wa.heap.size ≤ cb ∧ Hid (Below wa.heap.size wa wx))
        case first =>
          go_region_held3 (fun w' => w'.cell? ⟨w.heap.size, 0, none⟩ = some (.bool false) ∧ w'.cell? ⟨w.heap.size, 1, none⟩ = some (.int .u64 (hiOf false n)) ∧ w'.cell? ⟨w.heap.size, 2, none⟩ = some (.int .u64 (loOf n)) ∧ w'.cell? ⟨w.heap.size, 3, none⟩ = some (.int .i64 k) ∧ w'.cell? ⟨b, 0, none⟩ = some (.bool false) ∧ w'.cell? ⟨b, 1, none⟩ = some (.int .u64 (hiOf false n')) ∧ w'.cell? ⟨b, 2, none⟩ = some (.int .u64 (loOf n')) ∧ w'.cell? ⟨b, 3, none⟩ = some (.int .i64 k')) (first | (go_simp; done) | (simp [*, go_sem, World.cell?_alloc_past]; done) | (simp [*, go_sem, World.cell?_alloc_past, World.cell?_setCell_far]; done))
            (first | ((with_reducible refine (CO.out _).mono ?_); rintro e w3 ⟨rfl, hb3⟩; (repeat (with_reducible (replace hb3 := Below.undrew hb3))); obtain ⟨hc3, hf3⟩ := bcell hb3; have hz3 := hb3.size; (repeat (first | rw [World.size_alloc] at hz3 | rw [World.size_drew] at hz3 | rw [World.size_setCell] at hz3)); (try have : b < w3.heap.size := by omega); (try have : b < w3.heap.size + 1 := by omega); (try have : b < w3.heap.size + 1 + 1 := by omega); (try have : b < w3.heap.size + 1 + 1 + 1 := by omega); (try have : cb < w3.heap.size := by omega); (try have : cb < w3.heap.size + 1 := by omega); (try have : cb < w3.heap.size + 1 + 1 := by omega); (try have : cb < w3.heap.size + 1 + 1 + 1 := by omega); (try have : fb < w3.heap.size := by omega); (try have : fb < w3.heap.size + 1 := by omega); (try have : fb < w3.heap.size + 1 + 1 := by omega); (try have : fb < w3.heap.size + 1 + 1 + 1 := by omega); (try have : w.heap.size < w3.heap.size := by omega); (try have : w.heap.size < w3.heap.size + 1 := by omega); (try have : w.heap.size < w3.heap.size + 1 + 1 := by omega); (try have : w.heap.size < w3.heap.size + 1 + 1 + 1 := by omega); (try have : w1.heap.size < w3.heap.size := by omega); (try have : w1.heap.size < w3.heap.size + 1 := by omega); (try have : w1.heap.size < w3.heap.size + 1 + 1 := by omega); (try have : w1.heap.size < w3.heap.size + 1 + 1 + 1 := by omega); (try have : wa.heap.size < w3.heap.size := by omega); (try have : wa.heap.size < w3.heap.size + 1 := by omega); (try have : wa.heap.size < w3.heap.size + 1 + 1 := by omega); (try have : wa.heap.size < w3.heap.size + 1 + 1 + 1 := by omega)))
          · go_wp2_with fail
            go_meet
            exact ⟨_, rfl, rfl, px_new _ _ _ _, by omega, by show Below _ _ _; (repeat' (first | (with_reducible exact Below.refl _ _) | (with_reducible assumption) | (with_reducible refine Below.alloc ?_ ?_ _) | (with_reducible refine Below.drew ?_) | (with_reducible refine Below.stepG ?_ (by assumption) ?_) | (with_reducible refine Below.setCell ?_ ?_ _) | omega | (dsimp only; omega) | (simp; done) | (simp; omega)))⟩
          · have x0 := hc3 wa.heap.size 0 (by simp)
            have x1 := hc3 wa.heap.size 1 (by simp)
            have x2 := hc3 wa.heap.size 2 (by simp)
            have x3 := hc3 wa.heap.size 3 (by simp)
            simp at x0 x1 x2 x3
            go_wp2_with fail
            go_meet
            refine ⟨_, rfl, rfl, px_set (by omega) x0 x1 x2 x3, Nat.le_refl _, ?_⟩
            show Below _ _ _
            (repeat' (first | (with_reducible exact Below.refl _ _) | (with_reducible assumption) | (with_reducible refine Below.alloc ?_ ?_ _) | (with_reducible refine Below.drew ?_) | (with_reducible refine Below.stepG ?_ (by assumption) ?_) | (with_reducible refine Below.setCell ?_ ?_ _) | omega | (dsimp only; omega) | (simp; done) | (simp; omega)))
        case rest =>
          obtain ⟨cb, rfl, rfl, HPX, hcb, HBd⟩ := hcut
          obtain ⟨wd, hwd⟩ : ∃ x, x = wc := ⟨_, rfl⟩
          subst hwd
          have bd := HBd.out
          have hzd := bd.size
          obtain ⟨ltc, g0, g1, g2, g3⟩ := HPX.out
          have Q0 := (bd.cell (p := ⟨w.heap.size, 0, none⟩) (by omega)).trans P0
          have Q1 := (bd.cell (p := ⟨w.heap.size, 1, none⟩) (by omega)).trans P1
          have Q2 := (bd.cell (p := ⟨w.heap.size, 2, none⟩) (by omega)).trans P2
          have Q3 := (bd.cell (p := ⟨w.heap.size, 3, none⟩) (by omega)).trans P3
          have r0 := (bd.cell (p := ⟨b, 0, none⟩) hbc').trans e0
          have r1 := (bd.cell (p := ⟨b, 1, none⟩) hbc').trans e1
          have r2 := (bd.cell (p := ⟨b, 2, none⟩) hbc').trans e2
          have r3 := (bd.cell (p := ⟨b, 3, none⟩) hbc').trans e3
          have hBd : w.heap.size < wd.heap.size := by omega
          have hbd : b < wd.heap.size := by omega
          clear P0 P1 P2 P3 e0 e1 e2 e3 bd CO
          go_upto_region 5 with fail
          have HAL : Below wd.heap.size wd (wd.alloc (.cells #[.bool false, .int .u64 (hiOf false cn), .int .u64 (loOf cn), .int .i64 ck, .int .i64 0, .pointer none, .pointer none] 155)) := (Below.refl _ _).alloc (Nat.le_refl _) _
          have HTN := Lib.hid (tn_new wd cn ck 0 155)
          have HPXe := Lib.hid (HPX.out.below HAL)
          have HPXp := Lib.hid ((PX.mk hBd Q0 Q1 Q2 Q3 : PX wd w.heap.size n k).below HAL)
          have HPXn := Lib.hid ((PX.mk hbd r0 r1 r2 r3 : PX wd b n' k').below HAL)
          have HB1e := Lib.hid ((HBc.out.trans (HBd.out.mono hzc)).trans (HAL.mono (Nat.le_trans hzc hzd)))
          have hsz1e := HB1e.out.size
          have hfbw : w1.heap.size ≤ wd.heap.size := by omega
          have hcbn : cb < wd.heap.size := ltc
          have hpbn : w.heap.size < wd.heap.size := hBd
          clear HAL Q0 Q1 Q2 Q3 r0 r1 r2 r3 g0 g1 g2 g3 ltc HPX HBc HBd
          generalize wd.alloc (.cells #[.bool false, .int .u64 (hiOf false cn), .int .u64 (loOf cn), .int .i64 ck, .int .i64 0, .pointer none, .pointer none] 155) = we at *
          generalize wd.heap.size = fb at *
          obtain ⟨f1, f2, f3, f4, f5, f6, f7, f8⟩ := HFK.out
          have hk'32 : k' ≤ 32 := HNV.out.2.1
          have hk32 : k ≤ 32 := HP.out.2.1
          have Ai := Lib.hid (fun w => at_any false n' ck w HNV.out.1 (by omega) (by show (ck : Int) < 32; omega))
          have Aj := Lib.hid (fun w (h : ck < 32) => at_any false n ck w HP.out.1 (by omega) (by show (ck : Int) < 32; omega))
          rw [show ((ck : Int)).toNat = ck from rfl] at Ai Aj
          have hbt2 := bitAt_le false n' ck
          have HF6 := Lib.hid f6
          have HF7 := Lib.hid f7
          have HL2 := Lib.hid f2
          have HL3 := Lib.hid f3
          clear f1 f2 f3 f4 f5 f6 f7 f8 HFK
          generalize hbt : bitAt false n' ck = bt at *
          have HBT := Lib.hid hbt
          clear hbt
          obtain ⟨lte, E0, E1, E2, E3, E4, E5, E6, EF⟩ := HTN.out
          obtain ⟨ltp, p0, p1, p2, p3⟩ := HPXp.out
          obtain ⟨ltn, q0, q1, q2, q3⟩ := HPXn.out
          obtain ⟨ltc, g0, g1, g2, g3⟩ := HPXe.out
          have E5' : we.cell? ⟨fb, 5, none⟩ = some (.pointer none) := E5
          have E6' : we.cell? ⟨fb, 6, none⟩ = some (.pointer none) := E6
          clear E5 E6
          have EF5 := EF 5 (by decide)
          have EF6 := EF 6 (by decide)
          clear EF
          go_cut [] (fun wx => ∃ wq, Hid (Below we.heap.size we wq) ∧ wx = wq.setCell ⟨fb, 5 + bt, none⟩ (.pointer (some ⟨b, 0, none⟩)))
          case first =>
            have hbc2 : bt = 0 ∨ bt = 1 := by omega
            rcases hbc2 with rfl | rfl
            · go_region_held3 (fun w' => w'.cell? ⟨b, 0, none⟩ = some (.bool false) ∧ w'.cell? ⟨b, 1, none⟩ = some (.int .u64 (hiOf false n')) ∧ w'.cell? ⟨b, 2, none⟩ = some (.int .u64 (loOf n')) ∧ w'.cell? ⟨cb, 3, none⟩ = some (.int .i64 ck)) (first | (go_simp; done) | (simp [*, go_sem, World.cell?_alloc_past]; done) | (simp [*, go_sem, World.cell?_alloc_past, World.cell?_setCell_far]; done))
                (first | ((with_reducible refine (Ai.out _).mono ?_); rintro e w4 ⟨rfl, hb4⟩; (repeat (with_reducible (replace hb4 := Below.undrew hb4))); obtain ⟨hc4, hf4⟩ := bcell hb4; have hz4 := hb4.size; (repeat (first | rw [World.size_alloc] at hz4 | rw [World.size_drew] at hz4 | rw [World.size_setCell] at hz4)); (try have : b < w4.heap.size := by omega); (try have : b < w4.heap.size + 1 := by omega); (try have : b < w4.heap.size + 1 + 1 := by omega); (try have : b < w4.heap.size + 1 + 1 + 1 := by omega); (try have : cb < w4.heap.size := by omega); (try have : cb < w4.heap.size + 1 := by omega); (try have : cb < w4.heap.size + 1 + 1 := by omega); (try have : cb < w4.heap.size + 1 + 1 + 1 := by omega); (try have : fb < w4.heap.size := by omega); (try have : fb < w4.heap.size + 1 := by omega); (try have : fb < w4.heap.size + 1 + 1 := by omega); (try have : fb < w4.heap.size + 1 + 1 + 1 := by omega); (try have : w.heap.size < w4.heap.size := by omega); (try have : w.heap.size < w4.heap.size + 1 := by omega); (try have : w.heap.size < w4.heap.size + 1 + 1 := by omega); (try have : w.heap.size < w4.heap.size + 1 + 1 + 1 := by omega); (try have : w1.heap.size < w4.heap.size := by omega); (try have : w1.heap.size < w4.heap.size + 1 := by omega); (try have : w1.heap.size < w4.heap.size + 1 + 1 := by omega); (try have : w1.heap.size < w4.heap.size + 1 + 1 + 1 := by omega); (try have : wa.heap.size < w4.heap.size := by omega); (try have : wa.heap.size < w4.heap.size + 1 := by omega); (try have : wa.heap.size < w4.heap.size + 1 + 1 := by omega); (try have : wa.heap.size < w4.heap.size + 1 + 1 + 1 := by omega)))
              all_goals go_wp2_with fail
              all_goals go_meet
              all_goals exact ⟨w4, hb4, rfl⟩
            · go_region_held3 (fun w' => w'.cell? ⟨b, 0, none⟩ = some (.bool false) ∧ w'.cell? ⟨b, 1, none⟩ = some (.int .u64 (hiOf false n')) ∧ w'.cell? ⟨b, 2, none⟩ = some (.int .u64 (loOf n')) ∧ w'.cell? ⟨cb, 3, none⟩ = some (.int .i64 ck)) (first | (go_simp; done) | (simp [*, go_sem, World.cell?_alloc_past]; done) | (simp [*, go_sem, World.cell?_alloc_past, World.cell?_setCell_far]; done))
                (first | ((with_reducible refine (Ai.out _).mono ?_); rintro e w4 ⟨rfl, hb4⟩; (repeat (with_reducible (replace hb4 := Below.undrew hb4))); obtain ⟨hc4, hf4⟩ := bcell hb4; have hz4 := hb4.size; (repeat (first | rw [World.size_alloc] at hz4 | rw [World.size_drew] at hz4 | rw [World.size_setCell] at hz4)); (try have : b < w4.heap.size := by omega); (try have : b < w4.heap.size + 1 := by omega); (try have : b < w4.heap.size + 1 + 1 := by omega); (try have : b < w4.heap.size + 1 + 1 + 1 := by omega); (try have : cb < w4.heap.size := by omega); (try have : cb < w4.heap.size + 1 := by omega); (try have : cb < w4.heap.size + 1 + 1 := by omega); (try have : cb < w4.heap.size + 1 + 1 + 1 := by omega); (try have : fb < w4.heap.size := by omega); (try have : fb < w4.heap.size + 1 := by omega); (try have : fb < w4.heap.size + 1 + 1 := by omega); (try have : fb < w4.heap.size + 1 + 1 + 1 := by omega); (try have : w.heap.size < w4.heap.size := by omega); (try have : w.heap.size < w4.heap.size + 1 := by omega); (try have : w.heap.size < w4.heap.size + 1 + 1 := by omega); (try have : w.heap.size < w4.heap.size + 1 + 1 + 1 := by omega); (try have : w1.heap.size < w4.heap.size := by omega); (try have : w1.heap.size < w4.heap.size + 1 := by omega); (try have : w1.heap.size < w4.heap.size + 1 + 1 := by omega); (try have : w1.heap.size < w4.heap.size + 1 + 1 + 1 := by omega); (try have : wa.heap.size < w4.heap.size := by omega); (try have : wa.heap.size < w4.heap.size + 1 := by omega); (try have : wa.heap.size < w4.heap.size + 1 + 1 := by omega); (try have : wa.heap.size < w4.heap.size + 1 + 1 + 1 := by omega)))
              all_goals go_wp2_with fail
              all_goals go_meet
              all_goals exact ⟨w4, hb4, rfl⟩
          case rest =>
            obtain ⟨wq, HBq, hwx⟩ := hcut
            obtain ⟨wf, hwf⟩ : ∃ x, x = wc := ⟨_, rfl⟩
            subst hwf
            have tq := HTN.out.below HBq.out
            have cq := chg_blk wq fb (5 + bt) (.pointer (some ⟨b, 0, none⟩))
            rw [← hwx] at cq
            have hbF : ¬ b = fb := by omega
            have hne1 : w.heap.size ≠ fb := by omega
            have hne2 : cb ≠ fb := by omega
            have HPp := Lib.hid ((HPXp.out.below HBq.out).keep cq hne1)
            have HPc := Lib.hid ((HPXe.out.below HBq.out).keep cq hne2)
            have HCW := Lib.hid ((Chg.of_below (HB1e.out.trans (HBq.out.mono hsz1e)) (fun x (_ : Nat) => x = fb)).trans cq (fun _ _ _ h => h))
            have HTF : Hid (TN wf fb cn ck 0 (if bt = 0 then some (b, 0) else none) (if bt = 0 then none else some (b, 0))) := by
              have hbc2 : bt = 0 ∨ bt = 1 := by omega
              rw [hwx]
              rcases hbc2 with rfl | rfl
              · exact tn_left tq (some (b, 0))
              · exact tn_right tq (some (b, 0))
            clear hwx cq tq E0 E1 E2 E3 E4 E5' E6' EF5 EF6 p0 p1 p2 p3 q0 q1 q2 q3 g0 g1 g2 g3 HTN HPXp HPXe HPXn Ai
            obtain ⟨ltp2, p0, p1, p2, p3⟩ := HPp.out
            obtain ⟨ltc2, g0, g1, g2, g3⟩ := HPc.out
            have TCf := HTC.out.keep HCW.out (fun _ e => by have : tb = fb := e; omega) (fun x hx _ e => by have : x = fb := e; have := crep_lt HTC.out.rep x hx; omega)
            have BRf := BRep.keep HCW.out HRT.out (fun x hx _ e => by have : x = fb := e; have := brep_lt HRT.out x hx; omega)
            have hold : Hid (∀ x ∈ tb :: (cblocks c ++ (BT.node b n' k' h l r).blocks), x < w1.heap.size) := by
              intro x hx
              rcases List.mem_cons.1 hx with rfl | hx
              · exact tl
              · rcases List.mem_append.1 hx with hx | hx
                · exact crep_lt HTC.out.rep x hx
                · exact brep_lt HRT.out x hx
            have HTCf := Lib.hid TCf
            have HBRf := Lib.hid BRf
            have hBf : Below w.heap.size w wf := by
              refine HBL.out.trans ?_
              exact HCW.out.below (HBL.out.size) (fun x y hx e => by have : x = fb := e; omega)
            have HBf := Lib.hid hBf
            have hdt : (decide (bt = 1)).toNat = bt := by
              have hbc2 : bt = 0 ∨ bt = 1 := by omega
              rcases hbc2 with rfl | rfl <;> rfl
            have HDT := Lib.hid hdt
            have hfbf : fb < wf.heap.size := HTF.out.lt
            have tf4 := HTF.out.c4
            have tff := HTF.out.fz 4 (by decide)
            have HPFd := Lib.hid (fun nb => HPF.out fb nb (decide (bt = 1)) (by first | (rw [hdt]; done) | (rw [hdt]; exact HBT.out.symm)))
            clear TCf BRf hBf hdt HPF tc2 tf2 sf hbl
            by_cases hck : ck = k
            · have OK := HPFd.out 0 |>.1 hck
              have hcnn := HF6.out hck
              have hcn2 : cn = n := by rw [← HCN.out]; exact hcnn
              have tz := tn_hop HTF.out hop
              have cz := chg_blk wf fb 4 (.int .i64 hop)
              have hfrep : BRep (wf.setCell ⟨fb, 4, none⟩ (.int .i64 hop)) (Fr.fill ⟨fb, n, k, hop, decide (bt = 1), .nil⟩ (.node b n' k' h l r)) := by
                rw [fill_rep]
                refine ⟨?_, trivial, BRep.keep cz HBRf.out (fun x hx _ e => by have : x = fb := e; have := brep_lt HRT.out x hx; omega)⟩
                rw [hcn2, hck] at tz
                have hbc2 : bt = 0 ∨ bt = 1 := by omega
                rcases hbc2 with hb | hb
                · rw [hb] at tz ⊢; exact tz
                · rw [hb] at tz ⊢; exact tz
              obtain ⟨X1, X2, X3⟩ := put_forked (w := w) (M := w1.heap.size) ⟨fb, n, k, hop, decide (bt = 1), .nil⟩ HC.out HWT.out HO.out HP.out HHS.out HF.out HN.out
                (HTCf.out.keep cz (fun _ e => by have : tb = fb := e; omega) (fun x hx _ e => by have : x = fb := e; have := crep_lt HTC.out.rep x hx; omega)) hfrep HND.out hold.out HBL.out.size
                (fun x hx => by simp [BT.blocks] at hx; omega) (by simp [BT.blocks]) OK (HBf.out.trans (cz.below HBf.out.size (fun x y hx e => by have : x = fb := e; omega)))
              obtain ⟨sl2, sc2, sf2⟩ := (HTCf.out.keep cz (fun _ e => by have : tb = fb := e; omega) (fun x hx _ e => by have : x = fb := e; have := crep_lt HTC.out.rep x hx; omega)).at_slot
              rw [HSB.out, HSO.out] at X1 X2 X3 sc2 sf2
              rw [HSB.out] at sl2
              have HX3 := Lib.hid X3
              have sc3 : (wf.setCell ⟨fb, 4, none⟩ (.int .i64 hop)).cell? ⟨sb, so, none⟩ = some (.pointer (some ⟨b, 0, none⟩)) := sc2
              clear X3 hfrep OK tz cz sc2 HF6 hcnn
              subst hck hcn2
              go_wp2
              go_returns
              first | exact HX3.out
            · have hki : ¬ ((ck : Int) = k) := by omega
              go_upto_region 8 with fail
              have hcl : ck < k := by have := HL3.out; omega
              have hne7 := HF7.out hcl
              have Ak := Lib.hid (fun w => Aj.out w (by omega))
              have hbu2 := bitAt_le false n ck
              clear Aj HF6 HF7
              generalize hbu : bitAt false n ck = bu at *
              have HBU := Lib.hid hbu
              clear hbu
              go_cut [] (fun wx => ∃ (wq : World) (nb : Nat), Hid (Below wf.heap.size wf wq) ∧ Hid (TN wq nb n k hop none none) ∧ wf.heap.size ≤ nb ∧ wx = wq.setCell ⟨fb, 5 + bu, none⟩ (.pointer (some ⟨nb, 0, none⟩)))
              case first =>
                have hbc2 : (bt = 1 ∧ bu = 0) ∨ (bt = 0 ∧ bu = 1) := by omega
                rcases hbc2 with ⟨rfl, rfl⟩ | ⟨rfl, rfl⟩
                · have tfo : wf.cell? ⟨fb, 5, none⟩ = some (.pointer none) := HTF.out.c5
                  have tfz := HTF.out.fz 5 (by decide)
                  go_region_held3 (fun w' => w'.cell? ⟨w.heap.size, 0, none⟩ = some (.bool false) ∧ w'.cell? ⟨w.heap.size, 1, none⟩ = some (.int .u64 (hiOf false n)) ∧ w'.cell? ⟨w.heap.size, 2, none⟩ = some (.int .u64 (loOf n)) ∧ w'.cell? ⟨w.heap.size, 3, none⟩ = some (.int .i64 k) ∧ w'.cell? ⟨cb, 3, none⟩ = some (.int .i64 ck)) (first | (go_simp; done) | (simp [*, go_sem, World.cell?_alloc_past]; done) | (simp [*, go_sem, World.cell?_alloc_past, World.cell?_setCell_far]; done))
                    (first | ((with_reducible refine (Ak.out _).mono ?_); rintro e w5 ⟨rfl, hb5⟩; (repeat (with_reducible (replace hb5 := Below.undrew hb5))); obtain ⟨hc5, hf5⟩ := bcell hb5; have hz5 := hb5.size; (repeat (first | rw [World.size_alloc] at hz5 | rw [World.size_drew] at hz5 | rw [World.size_setCell] at hz5)); (try have : b < w5.heap.size := by omega); (try have : b < w5.heap.size + 1 := by omega); (try have : b < w5.heap.size + 1 + 1 := by omega); (try have : b < w5.heap.size + 1 + 1 + 1 := by omega); (try have : cb < w5.heap.size := by omega); (try have : cb < w5.heap.size + 1 := by omega); (try have : cb < w5.heap.size + 1 + 1 := by omega); (try have : cb < w5.heap.size + 1 + 1 + 1 := by omega); (try have : fb < w5.heap.size := by omega); (try have : fb < w5.heap.size + 1 := by omega); (try have : fb < w5.heap.size + 1 + 1 := by omega); (try have : fb < w5.heap.size + 1 + 1 + 1 := by omega); (try have : w.heap.size < w5.heap.size := by omega); (try have : w.heap.size < w5.heap.size + 1 := by omega); (try have : w.heap.size < w5.heap.size + 1 + 1 := by omega); (try have : w.heap.size < w5.heap.size + 1 + 1 + 1 := by omega); (try have : w1.heap.size < w5.heap.size := by omega); (try have : w1.heap.size < w5.heap.size + 1 := by omega); (try have : w1.heap.size < w5.heap.size + 1 + 1 := by omega); (try have : w1.heap.size < w5.heap.size + 1 + 1 + 1 := by omega); (try have : wa.heap.size < w5.heap.size := by omega); (try have : wa.heap.size < w5.heap.size + 1 := by omega); (try have : wa.heap.size < w5.heap.size + 1 + 1 := by omega); (try have : wa.heap.size < w5.heap.size + 1 + 1 + 1 := by omega)))
                  all_goals go_wp2_with fail
                  all_goals go_meet
                  all_goals first
                    | exact ⟨w5.alloc (.cells #[.bool false, .int .u64 (hiOf false n), .int .u64 (loOf n), .int .i64 k, .int .i64 hop, .pointer none, .pointer none] 155), w5.heap.size, (by show Below _ _ _; (repeat' (first | (with_reducible exact Below.refl _ _) | (with_reducible assumption) | (with_reducible refine Below.alloc ?_ ?_ _) | (with_reducible refine Below.drew ?_) | (with_reducible refine Below.stepG ?_ (by assumption) ?_) | (with_reducible refine Below.setCell ?_ ?_ _) | omega | (dsimp only; omega) | (simp; done) | (simp; omega)))), tn_new w5 n k hop _, by omega, (set_alloc' _ _ _ _ _ (by omega)).symm⟩
                    | exact ⟨w5, wf.heap.size, (by show Below _ _ _; exact ((Below.refl wf.heap.size wf).alloc (Nat.le_refl _) _).trans (hb5.mono (by simp))), (tn_new wf n k hop _).below hb5, Nat.le_refl _, rfl⟩
                · have tfo : wf.cell? ⟨fb, 6, none⟩ = some (.pointer none) := HTF.out.c6
                  have tfz := HTF.out.fz 6 (by decide)
                  go_region_held3 (fun w' => w'.cell? ⟨w.heap.size, 0, none⟩ = some (.bool false) ∧ w'.cell? ⟨w.heap.size, 1, none⟩ = some (.int .u64 (hiOf false n)) ∧ w'.cell? ⟨w.heap.size, 2, none⟩ = some (.int .u64 (loOf n)) ∧ w'.cell? ⟨w.heap.size, 3, none⟩ = some (.int .i64 k) ∧ w'.cell? ⟨cb, 3, none⟩ = some (.int .i64 ck)) (first | (go_simp; done) | (simp [*, go_sem, World.cell?_alloc_past]; done) | (simp [*, go_sem, World.cell?_alloc_past, World.cell?_setCell_far]; done))
                    (first | ((with_reducible refine (Ak.out _).mono ?_); rintro e w5 ⟨rfl, hb5⟩; (repeat (with_reducible (replace hb5 := Below.undrew hb5))); obtain ⟨hc5, hf5⟩ := bcell hb5; have hz5 := hb5.size; (repeat (first | rw [World.size_alloc] at hz5 | rw [World.size_drew] at hz5 | rw [World.size_setCell] at hz5)); (try have : b < w5.heap.size := by omega); (try have : b < w5.heap.size + 1 := by omega); (try have : b < w5.heap.size + 1 + 1 := by omega); (try have : b < w5.heap.size + 1 + 1 + 1 := by omega); (try have : cb < w5.heap.size := by omega); (try have : cb < w5.heap.size + 1 := by omega); (try have : cb < w5.heap.size + 1 + 1 := by omega); (try have : cb < w5.heap.size + 1 + 1 + 1 := by omega); (try have : fb < w5.heap.size := by omega); (try have : fb < w5.heap.size + 1 := by omega); (try have : fb < w5.heap.size + 1 + 1 := by omega); (try have : fb < w5.heap.size + 1 + 1 + 1 := by omega); (try have : w.heap.size < w5.heap.size := by omega); (try have : w.heap.size < w5.heap.size + 1 := by omega); (try have : w.heap.size < w5.heap.size + 1 + 1 := by omega); (try have : w.heap.size < w5.heap.size + 1 + 1 + 1 := by omega); (try have : w1.heap.size < w5.heap.size := by omega); (try have : w1.heap.size < w5.heap.size + 1 := by omega); (try have : w1.heap.size < w5.heap.size + 1 + 1 := by omega); (try have : w1.heap.size < w5.heap.size + 1 + 1 + 1 := by omega); (try have : wa.heap.size < w5.heap.size := by omega); (try have : wa.heap.size < w5.heap.size + 1 := by omega); (try have : wa.heap.size < w5.heap.size + 1 + 1 := by omega); (try have : wa.heap.size < w5.heap.size + 1 + 1 + 1 := by omega)))
                  all_goals go_wp2_with fail
                  all_goals go_meet
                  all_goals first
                    | exact ⟨w5.alloc (.cells #[.bool false, .int .u64 (hiOf false n), .int .u64 (loOf n), .int .i64 k, .int .i64 hop, .pointer none, .pointer none] 155), w5.heap.size, (by show Below _ _ _; (repeat' (first | (with_reducible exact Below.refl _ _) | (with_reducible assumption) | (with_reducible refine Below.alloc ?_ ?_ _) | (with_reducible refine Below.drew ?_) | (with_reducible refine Below.stepG ?_ (by assumption) ?_) | (with_reducible refine Below.setCell ?_ ?_ _) | omega | (dsimp only; omega) | (simp; done) | (simp; omega)))), tn_new w5 n k hop _, by omega, (set_alloc' _ _ _ _ _ (by omega)).symm⟩
                    | exact ⟨w5, wf.heap.size, (by show Below _ _ _; exact ((Below.refl wf.heap.size wf).alloc (Nat.le_refl _) _).trans (hb5.mono (by simp))), (tn_new wf n k hop _).below hb5, Nat.le_refl _, rfl⟩
              case rest =>
                obtain ⟨wq, nb, HBq2, HTq, hnb, hwx⟩ := hcut
                obtain ⟨wg, hwg⟩ : ∃ x, x = wc := ⟨_, rfl⟩
                subst hwg
                have OK := HPFd.out nb |>.2 hck
                have tq := HTF.out.below HBq2.out
                have cq := chg_blk wq fb (5 + bu) (.pointer (some ⟨nb, 0, none⟩))
                rw [← hwx] at cq
                have tg : TN wg fb cn ck 0 (if bt = 0 then some (b, 0) else some (nb, 0)) (if bt = 0 then some (nb, 0) else some (b, 0)) := by
                  have hbc2 : (bt = 1 ∧ bu = 0) ∨ (bt = 0 ∧ bu = 1) := by omega
                  rw [hwx]
                  rcases hbc2 with ⟨rfl, rfl⟩ | ⟨rfl, rfl⟩
                  · exact tn_left tq (some (nb, 0))
                  · exact tn_right tq (some (nb, 0))
                have hnf : nb ≠ fb := by omega
                have tn2 : TN wg nb n k hop none none := HTq.out.keep cq (fun _ e => hnf e)
                have cfg : Chg wf wg (fun x _ => x = fb) := (Chg.of_below HBq2.out (fun x (_ : Nat) => x = fb)).trans cq (fun _ _ _ h => h)
                have hfrep : BRep wg (Fr.fill ⟨fb, cn, ck, 0, decide (bt = 1), .node nb n k hop .nil .nil⟩ (.node b n' k' h l r)) := by
                  rw [fill_rep]
                  refine ⟨?_, ⟨tn2, trivial, trivial⟩, BRep.keep cfg HBRf.out (fun x hx _ e => by have : x = fb := e; have := brep_lt HRT.out x hx; omega)⟩
                  have hbc2 : bt = 0 ∨ bt = 1 := by omega
                  rcases hbc2 with hb | hb
                  · rw [hb] at tg ⊢; exact tg
                  · rw [hb] at tg ⊢; exact tg
                have hzf := HBf.out.size
                have TCg := HTCf.out.keep cfg (fun _ e => by have : tb = fb := e; omega) (fun x hx _ e => by have : x = fb := e; have := crep_lt HTC.out.rep x hx; omega)
                obtain ⟨X1, X2, X3⟩ := put_forked (w := w) (M := w1.heap.size) ⟨fb, cn, ck, 0, decide (bt = 1), .node nb n k hop .nil .nil⟩ HC.out HWT.out HO.out HP.out HHS.out HF.out HN.out
                  TCg hfrep HND.out hold.out HBL.out.size
                  (fun x hx => by simp [BT.blocks] at hx; omega) (by simp [BT.blocks]; omega) (by first | exact OK | (rw [HCN.out] at OK; exact OK) | (rw [← HCN.out]; exact OK)) (HBf.out.trans (cfg.below HBf.out.size (fun x y hx e => by have : x = fb := e; omega)))
                obtain ⟨sl2, sc2, sf2⟩ := TCg.at_slot
                rw [HSB.out, HSO.out] at X1 X2 X3 sc2 sf2
                rw [HSB.out] at sl2
                have HX3 := Lib.hid X3
                have sc3 : wg.cell? ⟨sb, so, none⟩ = some (.pointer (some ⟨b, 0, none⟩)) := sc2
                clear X3 hfrep OK tg tq cq tn2 cfg TCg sc2 hwx
                go_wp2
                go_returns
                first | exact HX3.out
end Go.Proofs.Ytoecmoicaklbaaa

/- Contracts of package table: only. -/
set_option linter.unusedVariables false
namespace Go.Proofs.Ytoecmoicaklbaaa
open Go Go.RowKit Go.Sort Wc Wk

theorem ptr_nil {t : BT} (h : t.isNil = true) : t.ptr = none := by cases t with | nil => rfl | node => cases h
theorem ptr_node {t : BT} (h : t.isNil = false) : ∃ b, t.ptr = some (b, 0) := by cases t with | nil => cases h | node b => exact ⟨b, rfl⟩
set_option maxHeartbeats 1000000 in
theorem only_any (b n k h : Nat) (l r : BT) (w : World) (rt : BRep w (.node b n k h l r)) :
    Calls Try.prog 121 #[.pointer (some ⟨b, 0, none⟩)] w fun e w' => e = .returned (ptrV (BT.node b n k h l r).only.ptr) ∧ Below w.heap.size w w' := by
  obtain ⟨⟨ltb, d0, d1, d2, d3, d4, d5, d6, _⟩, _, _⟩ := rt
  rw [only_node]
  by_cases h0 : h = 0
  · subst h0
    rcases hl : l.isNil with _ | _
    · obtain ⟨x, hx⟩ := ptr_node hl
      rw [hx] at d5
      have D5 : w.cell? ⟨b, 5, none⟩ = some (.pointer (some ⟨x, 0, none⟩)) := d5
      rcases hr : r.isNil with _ | _
      · obtain ⟨y, hy⟩ := ptr_node hr
        rw [hy] at d6
        have D6 : w.cell? ⟨b, 6, none⟩ = some (.pointer (some ⟨y, 0, none⟩)) := d6
        rw [if_pos (.inr ⟨rfl, rfl⟩)]
        clear d5 d6 hl hr hx hy
        go_enter Try.func121, Try.ntmps121
        go_wp2
        go_returns
        exact ⟨rfl, by (repeat' (first | (with_reducible exact Below.refl _ _) | (with_reducible assumption) | (with_reducible refine Below.al ?_ _) | (with_reducible refine Below.dr ?_) | (with_reducible refine Below.step ?_ (by assumption)) | (with_reducible refine Below.set ?_ ?_ _) | omega | (dsimp only; omega) | (simp; done) | (simp; omega)))⟩
      · rw [ptr_nil hr] at d6
        have D6 : w.cell? ⟨b, 6, none⟩ = some (.pointer none) := d6
        rw [if_neg (by simp), if_pos rfl, hx]
        clear d5 d6 hl hr hx
        go_enter Try.func121, Try.ntmps121
        go_wp2
        go_returns
        exact ⟨rfl, by (repeat' (first | (with_reducible exact Below.refl _ _) | (with_reducible assumption) | (with_reducible refine Below.al ?_ _) | (with_reducible refine Below.dr ?_) | (with_reducible refine Below.step ?_ (by assumption)) | (with_reducible refine Below.set ?_ ?_ _) | omega | (dsimp only; omega) | (simp; done) | (simp; omega)))⟩
    · rw [ptr_nil hl] at d5
      have D5 : w.cell? ⟨b, 5, none⟩ = some (.pointer none) := d5
      rw [if_neg (by simp), if_neg (by simp)]
      rcases hr : r.isNil with _ | _
      · obtain ⟨y, hy⟩ := ptr_node hr
        rw [hy] at d6 ⊢
        have D6 : w.cell? ⟨b, 6, none⟩ = some (.pointer (some ⟨y, 0, none⟩)) := d6
        clear d5 d6 hl hr hy
        go_enter Try.func121, Try.ntmps121
        go_wp2
        go_returns
        exact ⟨rfl, by (repeat' (first | (with_reducible exact Below.refl _ _) | (with_reducible assumption) | (with_reducible refine Below.al ?_ _) | (with_reducible refine Below.dr ?_) | (with_reducible refine Below.step ?_ (by assumption)) | (with_reducible refine Below.set ?_ ?_ _) | omega | (dsimp only; omega) | (simp; done) | (simp; omega)))⟩
      · rw [ptr_nil hr] at d6 ⊢
        have D6 : w.cell? ⟨b, 6, none⟩ = some (.pointer none) := d6
        clear d5 d6 hl hr
        go_enter Try.func121, Try.ntmps121
        go_wp2
        go_returns
        exact ⟨rfl, by (repeat' (first | (with_reducible exact Below.refl _ _) | (with_reducible assumption) | (with_reducible refine Below.al ?_ _) | (with_reducible refine Below.dr ?_) | (with_reducible refine Below.step ?_ (by assumption)) | (with_reducible refine Below.set ?_ ?_ _) | omega | (dsimp only; omega) | (simp; done) | (simp; omega)))⟩
  · rw [if_pos (.inl h0)]
    have h0' : ((h : Int) == 0) = false := by rw [beq_eq_false_iff_ne]; omega
    have h0n : ¬ ((h : Int) = 0) := by omega
    clear d5 d6
    go_enter Try.func121, Try.ntmps121
    go_wp2
    go_returns
    exact ⟨rfl, by (repeat' (first | (with_reducible exact Below.refl _ _) | (with_reducible assumption) | (with_reducible refine Below.al ?_ _) | (with_reducible refine Below.dr ?_) | (with_reducible refine Below.step ?_ (by assumption)) | (with_reducible refine Below.set ?_ ?_ _) | omega | (dsimp only; omega) | (simp; done) | (simp; omega)))⟩
end Go.Proofs.Ytoecmoicaklbaaa

/- Contracts of package table: Look's note. -/
set_option linter.unusedVariables false
namespace Go.Proofs.Ytoecmoicaklbaaa
open Go Go.RowKit Go.Sort Wc Wk

/-- The box of an answer. -/
structure Box (w : World) (o hop len : Nat) : Prop where
  lt : o < w.heap.size
  c0 : w.cell? ⟨o, 0, none⟩ = some (.int .i64 0)
  c1 : w.cell? ⟨o, 1, none⟩ = some (.int .i64 hop)
  c2 : w.cell? ⟨o, 2, none⟩ = some (.int .i64 len)
  f0 : w.frozen? ⟨o, 0, none⟩ = false
  f1 : w.frozen? ⟨o, 1, none⟩ = false
  f2 : w.frozen? ⟨o, 2, none⟩ = false
theorem Box.below {w w' : World} {o p q : Nat} (h : Box w o p q) (hb : Below w.heap.size w w') : Box w' o p q :=
  ⟨Nat.lt_of_lt_of_le h.lt hb.size, (hb.cell (p := ⟨o, 0, none⟩) h.lt).trans h.c0, (hb.cell (p := ⟨o, 1, none⟩) h.lt).trans h.c1, (hb.cell (p := ⟨o, 2, none⟩) h.lt).trans h.c2, (hb.frozen (p := ⟨o, 0, none⟩) h.lt).trans h.f0, (hb.frozen (p := ⟨o, 1, none⟩) h.lt).trans h.f1, (hb.frozen (p := ⟨o, 2, none⟩) h.lt).trans h.f2⟩
theorem Box.one {w : World} {o p q : Nat} (h : Box w o p q) (x : Nat) (u : Value) : Chg w (w.setCell ⟨o, x, none⟩ u) (fun k _ => k = o) := chg_blk w o x u
theorem Box.set0 {w : World} {o p q : Nat} (h : Box w o p q) : Box (w.setCell ⟨o, 0, none⟩ (.int .i64 0)) o p q := by
  have s := chg_set w o 0 (.int .i64 0)
  exact ⟨Nat.lt_of_lt_of_le h.lt s.size, World.cell?_setCell_same _ _ _ h.c0, (s.cell _ _ h.lt (fun h => absurd h.2 (by decide))).trans h.c1, (s.cell _ _ h.lt (fun h => absurd h.2 (by decide))).trans h.c2, (s.froz _ _ h.lt).trans h.f0, (s.froz _ _ h.lt).trans h.f1, (s.froz _ _ h.lt).trans h.f2⟩
theorem Box.set1 {w : World} {o p q : Nat} (h : Box w o p q) (p' : Nat) : Box (w.setCell ⟨o, 1, none⟩ (.int .i64 p')) o p' q := by
  have s := chg_set w o 1 (.int .i64 p')
  exact ⟨Nat.lt_of_lt_of_le h.lt s.size, (s.cell _ _ h.lt (fun h => absurd h.2 (by decide))).trans h.c0, World.cell?_setCell_same _ _ _ h.c1, (s.cell _ _ h.lt (fun h => absurd h.2 (by decide))).trans h.c2, (s.froz _ _ h.lt).trans h.f0, (s.froz _ _ h.lt).trans h.f1, (s.froz _ _ h.lt).trans h.f2⟩
theorem Box.set2 {w : World} {o p q : Nat} (h : Box w o p q) (q' : Nat) : Box (w.setCell ⟨o, 2, none⟩ (.int .i64 q')) o p q' := by
  have s := chg_set w o 2 (.int .i64 q')
  exact ⟨Nat.lt_of_lt_of_le h.lt s.size, (s.cell _ _ h.lt (fun h => absurd h.2 (by decide))).trans h.c0, (s.cell _ _ h.lt (fun h => absurd h.2 (by decide))).trans h.c1, World.cell?_setCell_same _ _ _ h.c2, (s.froz _ _ h.lt).trans h.f0, (s.froz _ _ h.lt).trans h.f1, (s.froz _ _ h.lt).trans h.f2⟩
set_option maxHeartbeats 1000000 in
theorem note_any (b n k h o hop len : Nat) (pl pr : Option (Nat × Nat)) (w : World) (a : TN w b n k h pl pr) (bx : Box w o hop len) (hne : b ≠ o) :
    Calls Try.prog 86 #[.pointer (some ⟨b, 0, none⟩), .pointer (some ⟨o, 0, none⟩)] w fun e w' => e = .returned (.tuple #[]) ∧ Box w' o (if h = 0 then hop else h) (if h = 0 then len else k) ∧ Chg w w' (fun x _ => x = o) := by
  have HB := Lib.hid bx
  obtain ⟨ltb, d0, d1, d2, d3, d4, d5, d6, _⟩ := a
  obtain ⟨lto, e0, e1, e2, z0, z1, z2⟩ := bx
  clear d5 d6
  by_cases h0 : h = 0
  · rw [if_pos h0, if_pos h0]
    subst h0
    go_enter Try.func86, Try.ntmps86
    go_wp2
    go_returns
    exact ⟨rfl, HB.out, Chg.refl _ _⟩
  · rw [if_neg h0, if_neg h0]
    have h0' : ((h : Int) == 0) = false := by rw [beq_eq_false_iff_ne]; omega
    have h0n : ¬ ((h : Int) = 0) := by omega
    go_enter Try.func86, Try.ntmps86
    go_wp2_with fail
    go_region
    all_goals go_wp2_with fail
    all_goals go_end0
    have B1 := HB.out.set0
    have B2 := B1.set1 0
    have B3 := B2.set2 0
    have B4 := B3.set1 h
    have B5 := B4.set2 k
    have c := ((((chg_blk w o 0 (.int .i64 0)).trans (B1.one 1 (.int .i64 ((0 : Nat) : Int))) (fun _ _ _ h => h)).trans (B2.one 2 (.int .i64 ((0 : Nat) : Int))) (fun _ _ _ h => h)).trans (B3.one 1 (.int .i64 h)) (fun _ _ _ h => h)).trans (B4.one 2 (.int .i64 k)) (fun _ _ _ h => h)
    exact ⟨rfl, B5.below (Below.drew (Below.refl _ _)), c.trans (Chg.of_below (Below.drew (Below.refl _ _)) (fun x (_ : Nat) => x = o)) (fun _ _ _ h => h)⟩
end Go.Proofs.Ytoecmoicaklbaaa

/- Contracts of package table: the place of a prefix, with Look's note. -/
set_option linter.unusedVariables false
namespace Go.Proofs.Ytoecmoicaklbaaa
open Go Go.RowKit Go.Sort Wc Wk

theorem TabR.chg {w w' : World} {tb cnt : Nat} {T : BT} {G : Nat → Prop} (t : TabR w tb T cnt) (h : Chg w w' (fun b _ => G b)) (hd : ∀ b ∈ tb :: T.blocks, ¬ G b) : TabR w' tb T cnt :=
  ⟨t.tab.keep h (fun _ => hd tb List.mem_cons_self) (fun x hx => by cases hx), BRep.keep h t.rep (fun x hx _ => hd x (List.mem_cons_of_mem _ hx)), t.nodup⟩
def PlaceNotes (w : World) (tb n k o : Nat) (T : BT) (e : Ending) (w' : World) : Prop := ∃ c t, T = plug c t ∧ onPath c n k ∧ Stop t n k ∧ e = .returned (.pointer (some ⟨slotB tb c, slotO c, none⟩)) ∧ Box w' o (lookC c).1 (lookC c).2 ∧ Chg w w' (fun x _ => x = o)
theorem lookC_cons (f : Fr) (c : List Fr) : lookC (f :: c) = (if f.h = 0 then (lookC c).1 else f.h, if f.h = 0 then (lookC c).2 else f.k) := by
  show (if f.h ≠ 0 then (f.h, f.k) else lookC c) = _
  by_cases h : f.h = 0
  · rw [if_neg (by simpa using h), if_pos h, if_pos h]
  · rw [if_pos h, if_neg h, if_neg h]


set_option maxRecDepth 100000 in
set_option maxHeartbeats 4000000 in
theorem place_note (tb cnt n k o : Nat) (T : BT) (w : World) (bx : Box w o 0 0) (hto : ∀ b ∈ tb :: T.blocks, b ≠ o) (ht : TabR w tb T cnt) (hw : T.wf) (hp : VP false n k) :
    Calls Try.prog 87 #[.pointer (some ⟨tb, 0, none⟩), Value.agg #[.bool false, .int .u64 (hiOf false n), .int .u64 (loOf n), .int .i64 k], .func (Fn.func 86) #[] #[.pointer (some ⟨o, 0, none⟩)]] w (PlaceNotes w tb n k o T) := by
  have HT := Lib.hid ht
  have HTO := Lib.hid hto
  have HW := Lib.hid hw
  have HP := Lib.hid hp
  have R := Lib.hid (fun w => root_any tb n k w)
  have A := Lib.hid (fun i w h0 h1 => at_any false n i w hp.1 h0 h1)
  rw [show wdI false = 32 from rfl] at A
  have hnf : ∀ w, (binOp BinOp.neq 156 .nilFunc .nilFunc).run Try.prog w = .ok (.bool false) w := fun _ => by kernel_rfl
  have hnf2 : ∀ w, (binOp BinOp.neq 156 (.func (Fn.func 86) #[] #[.pointer (some ⟨o, 0, none⟩)]) .nilFunc).run Try.prog w = .ok (.bool true) w := fun _ => by kernel_rfl
  have HB0 := Lib.hid bx
  have hol := bx.lt
  clear ht hw hp bx hto hnf
  go_enter Try.func87, Try.ntmps87
  go_wp2_with (first | ((with_reducible refine (R.out _).mono ?_); rintro e w1 ⟨rfl, hb1⟩; (repeat (with_reducible (replace hb1 := Below.undrew hb1))); obtain ⟨hc1, hf1⟩ := bcell hb1; have hz1 := hb1.size; (repeat (first | rw [World.size_alloc] at hz1 | rw [World.size_drew] at hz1 | rw [World.size_setCell] at hz1)); (try have : B < w1.heap.size := by omega); (try have : B < w1.heap.size + 1 := by omega); (try have : B < w1.heap.size + 1 + 1 := by omega); (try have : B < w1.heap.size + 1 + 1 + 1 := by omega)))
  have F0 : w1.cell? ⟨w.heap.size, 0, none⟩ = some (.bool false) := by rw [hc1 _ _ (by simp)]; simp
  have F1 : w1.cell? ⟨w.heap.size, 1, none⟩ = some (.int .u64 (hiOf false n)) := by rw [hc1 _ _ (by simp)]; simp
  have F2 : w1.cell? ⟨w.heap.size, 2, none⟩ = some (.int .u64 (loOf n)) := by rw [hc1 _ _ (by simp)]; simp
  have F3 : w1.cell? ⟨w.heap.size, 3, none⟩ = some (.int .i64 k) := by rw [hc1 _ _ (by simp)]; simp
  have FS : w.heap.size < w1.heap.size := by omega
  have FT := Lib.hid (HT.out.below (w' := w1) (by (repeat' (first | (with_reducible exact Below.refl _ _) | (with_reducible assumption) | (with_reducible refine Below.alloc ?_ ?_ _) | (with_reducible refine Below.drew ?_) | (with_reducible refine Below.stepG ?_ (by assumption) ?_) | (with_reducible refine Below.setCell ?_ ?_ _) | omega | (dsimp only; omega) | (simp; done) | (simp; omega)))))
  have FB : Below w.heap.size w w1 := by (repeat' (first | (with_reducible exact Below.refl _ _) | (with_reducible assumption) | (with_reducible refine Below.alloc ?_ ?_ _) | (with_reducible refine Below.drew ?_) | (with_reducible refine Below.stepG ?_ (by assumption) ?_) | (with_reducible refine Below.setCell ?_ ?_ _) | omega | (dsimp only; omega) | (simp; done) | (simp; omega)))
  have HBX1 := Lib.hid (HB0.out.below FB)
  clear hb1 hc1 hf1 hz1 HT
  obtain ⟨B, hB⟩ : ∃ B, B = w.heap.size := ⟨_, rfl⟩
  rw [← hB] at F0 F1 F2 F3 FS ⊢
  have hoB : B ≠ o := by omega
  clear hB
  go_loopg [7] (T.nodes.length + 1) (fun g av wr => ∃ (c : List Fr) (t : BT), Hid (T = plug c t) ∧ Hid (onPath c n k) ∧ t.nodes.length < g ∧ av = .pointer (some ⟨slotB tb c, slotO c, none⟩) ∧ Hid (Box wr o (lookC c).1 (lookC c).2) ∧ Hid (Chg w1 wr (fun x _ => x = o)) ∧ w1.heap.size ≤ wr.heap.size)
  case atStart => exact ⟨[], T, Lib.hid rfl, Lib.hid (fun f hf => absurd hf List.not_mem_nil), Nat.lt_succ_self _, rfl, HBX1, Lib.hid (Chg.refl _ _), Nat.le_refl _⟩
  case round =>
    obtain ⟨c, t, HC, HO, hg, rfl, HBX, HCH, hzr⟩ := hrel
    have q0 := (HCH.out.cell B 0 FS hoB).trans F0
    have q1 := (HCH.out.cell B 1 FS hoB).trans F1
    have q2 := (HCH.out.cell B 2 FS hoB).trans F2
    have q3 := (HCH.out.cell B 3 FS hoB).trans F3
    have qs : B < wr.heap.size := by omega
    have TT := FT.out.chg (G := fun x => x = o) HCH.out (fun b hb e => HTO.out b hb e)
    have HTOc : Hid (∀ b ∈ tb :: (plug c t).blocks, b ≠ o) := by show ∀ b ∈ tb :: (plug c t).blocks, b ≠ o; rw [← HC.out]; exact HTO.out
    rw [HC.out] at TT
    obtain ⟨t1, t2, t3⟩ := tab_plug.1 TT
    obtain ⟨sl, sc, _⟩ := t1.at_slot
    have hwt := (plug_wf (show (plug c t).wf by rw [← HC.out]; exact HW.out)).1
    clear TT t1 t3 F0 F1 F2 F3
    generalize hsb : slotB tb c = sb at *
    generalize hso : slotO c = so at *
    have HSB := Lib.hid hsb
    have HSO := Lib.hid hso
    clear hsb hso
    cases t with
    | nil =>
      have sc' : wr.cell? ⟨sb, so, none⟩ = some (.pointer none) := sc
      clear sc
      go_wp2
      go_returns
      exact ⟨c, .nil, HC.out, HO.out, trivial, by rw [HSB.out, HSO.out]; rfl, HBX.out, (Chg.of_below FB (fun x (_ : Nat) => x = o)).trans HCH.out (fun _ _ _ h => h)⟩
    | node b n' k' h l r =>
      have sc' : wr.cell? ⟨sb, so, none⟩ = some (.pointer (some ⟨b, 0, none⟩)) := sc
      clear sc
      have HTNb := Lib.hid t2.1
      obtain ⟨⟨ltb, d0, d1, d2, d3, d4, d5, d6, _⟩, rl, rr⟩ := t2
      have hbo : b ≠ o := HTOc.out b (List.mem_cons_of_mem _ (by rw [(plug_blocks c _).mem_iff, List.mem_append]; exact .inr (by simp [BT.blocks])))
      obtain ⟨hv, ul, ur, wl, wr'⟩ := hwt
      have OV := Lib.hid (fun w => over_any false n' k' n k w hv HP.out)
      go_wp2_with fail
      by_cases hex : n' = n ∧ k' = k
      · obtain ⟨rfl, rfl⟩ := hex
        refine wp_region_qb (by kernel_rfl) (by kernel_rfl) (fun kq => ?_)
        repeat (quiet_step (first | (with_reducible exact Calls.regrown_of (OV.out _))))
        clear kq
        refine wpQuiet_nil ?_; intro w2 hb2; (repeat (with_reducible (replace hb2 := Below.undrew hb2))); obtain ⟨hc2, hf2⟩ := bcell hb2; have hz2 := hb2.size; (repeat (first | rw [World.size_alloc] at hz2 | rw [World.size_drew] at hz2 | rw [World.size_setCell] at hz2)); (try have : B < w2.heap.size := by omega); (try have : B < w2.heap.size + 1 := by omega); (try have : B < w2.heap.size + 1 + 1 := by omega); (try have : B < w2.heap.size + 1 + 1 + 1 := by omega); (try have : w1.heap.size < w2.heap.size := by omega); (try have : w1.heap.size < w2.heap.size + 1 := by omega); (try have : w1.heap.size < w2.heap.size + 1 + 1 := by omega); (try have : w1.heap.size < w2.heap.size + 1 + 1 + 1 := by omega)
        go_wp2
        go_returns
        exact ⟨c, .node b n' k' h l r, HC.out, HO.out, .inl ⟨rfl, rfl⟩, by rw [HSB.out, HSO.out]; rfl, HBX.out.below hb2, ((Chg.of_below FB (fun x (_ : Nat) => x = o)).trans HCH.out (fun _ _ _ h => h)).trans (Chg.of_below hb2 (fun x (_ : Nat) => x = o)) (fun _ _ _ h => h)⟩
      · have hk' : k' ≤ 32 := hv.2.1
        by_cases hkk : k' = k
        · subst hkk
          have hne : ¬ n' = n := fun e => hex ⟨e, rfl⟩
          have hl : ¬ loOf n' = loOf n := fun e => hne (by
            rw [loOf_false hv.1, loOf_false HP.out.1] at e
            omega)
          have hcov : ¬ cov false n' k' n k' := fun hc => hne (by
            have e2 : cutN 32 n k' = n' := hc.2
            rw [← e2]; exact HP.out.2.2)
          rw [decide_eq_false hcov] at OV
          have HNC := Lib.hid hcov
          clear hcov hne hex
          refine wp_region_qb (by kernel_rfl) (by kernel_rfl) (fun kq => ?_)
          repeat (quiet_step (first | (with_reducible exact Calls.regrown_of (OV.out _))))
          clear kq
          refine wpQuiet_nil ?_; intro w2 hb2; (repeat (with_reducible (replace hb2 := Below.undrew hb2))); obtain ⟨hc2, hf2⟩ := bcell hb2; have hz2 := hb2.size; (repeat (first | rw [World.size_alloc] at hz2 | rw [World.size_drew] at hz2 | rw [World.size_setCell] at hz2)); (try have : B < w2.heap.size := by omega); (try have : B < w2.heap.size + 1 := by omega); (try have : B < w2.heap.size + 1 + 1 := by omega); (try have : B < w2.heap.size + 1 + 1 + 1 := by omega); (try have : w1.heap.size < w2.heap.size := by omega); (try have : w1.heap.size < w2.heap.size + 1 := by omega); (try have : w1.heap.size < w2.heap.size + 1 + 1 := by omega); (try have : w1.heap.size < w2.heap.size + 1 + 1 + 1 := by omega)
          go_wp2
          go_returns
          exact ⟨c, .node b n' k' h l r, HC.out, HO.out, .inr HNC.out, by rw [HSB.out, HSO.out]; rfl, HBX.out.below hb2, ((Chg.of_below FB (fun x (_ : Nat) => x = o)).trans HCH.out (fun _ _ _ h => h)).trans (Chg.of_below hb2 (fun x (_ : Nat) => x = o)) (fun _ _ _ h => h)⟩
        · have hki : ¬ ((k' : Int) = k) := by omega
          clear hex
          by_cases hcov : cov false n' k' n k
          · rw [decide_eq_true hcov] at OV
            have HCV := Lib.hid hcov
            clear hcov
            refine wp_region_qb (by kernel_rfl) (by kernel_rfl) (fun kq => ?_)
            repeat (quiet_step (first | (with_reducible exact Calls.regrown_of (OV.out _))))
            clear kq
            refine wpQuiet_nil ?_; intro w2 hb2; (repeat (with_reducible (replace hb2 := Below.undrew hb2))); obtain ⟨hc2, hf2⟩ := bcell hb2; have hz2 := hb2.size; (repeat (first | rw [World.size_alloc] at hz2 | rw [World.size_drew] at hz2 | rw [World.size_setCell] at hz2)); (try have : B < w2.heap.size := by omega); (try have : B < w2.heap.size + 1 := by omega); (try have : B < w2.heap.size + 1 + 1 := by omega); (try have : B < w2.heap.size + 1 + 1 + 1 := by omega); (try have : w1.heap.size < w2.heap.size := by omega); (try have : w1.heap.size < w2.heap.size + 1 := by omega); (try have : w1.heap.size < w2.heap.size + 1 + 1 := by omega); (try have : w1.heap.size < w2.heap.size + 1 + 1 + 1 := by omega)
            have hk'k : k' < k := by
              rcases Nat.lt_or_ge k' k with h | h
              · exact h
              · exact absurd (show k' = k by have := HCV.out.1; omega) hkk
            have HV := Lib.hid hv
            have hB2 : B < w2.heap.size := by omega
            have hb22 : b < w2.heap.size := by omega
            have hk32 : k ≤ 32 := HP.out.2.1
            have Ai := Lib.hid (fun w => A.out k' w (by omega) (by omega))
            rw [show ((k' : Int)).toNat = k' from rfl] at Ai
            have hbit := bitAt_le false n k'
            have HBT : Hid (bitAt false n k' = bitAt false n k') := rfl
            have d3' := (hc2 b 3 ltb).trans d3
            have q0' := (hc2 B 0 qs).trans q0
            have q1' := (hc2 B 1 qs).trans q1
            have q2' := (hc2 B 2 qs).trans q2
            have NT := Lib.hid (note_any b n' k' h o _ _ _ _ w2 (HTNb.out.below hb2) (HBX.out.below hb2) hbo)
            clear hv d0 d1 d2 d3 d4 d5 d6 q0 q1 q2 q3 hc2 hf2 OV sc'
            go_wp2_with fail
            refine NT.out.mono ?_
            rintro e w4 ⟨rfl, HB4, HC4⟩
            have HB4' := Lib.hid HB4
            have D3 := (HC4.cell b 3 hb22 hbo).trans d3'
            have Q0 := (HC4.cell B 0 hB2 hoB).trans q0'
            have Q1 := (HC4.cell B 1 hB2 hoB).trans q1'
            have Q2 := (HC4.cell B 2 hB2 hoB).trans q2'
            have hz4 := HC4.size
            have hB4 : B < w4.heap.size := by omega
            have hb44 : b < w4.heap.size := by omega
            have HC14 := Lib.hid ((HCH.out.trans (Chg.of_below hb2 (fun x (_ : Nat) => x = o)) (fun _ _ _ h => h)).trans HC4 (fun _ _ _ h => h))
            clear HB4 HC4 d3' q0' q1' q2' NT
            go_wp2_with fail
            generalize hbt : bitAt false n k' = bt at *
            have HB2 := Lib.hid hbt
            clear hbt HBT
            have hbc : bt = 0 ∨ bt = 1 := by omega
            rcases hbc with rfl | rfl
            · refine wp_region_qb (by kernel_rfl) (by kernel_rfl) (fun kq => ?_)
              repeat (quiet_step (first | (with_reducible exact Calls.regrown_of (Ai.out _))))
              clear kq
              refine wpQuiet_nil ?_; intro w3 hb3; (repeat (with_reducible (replace hb3 := Below.undrew hb3))); obtain ⟨hc3, hf3⟩ := bcell hb3; have hz3 := hb3.size; (repeat (first | rw [World.size_alloc] at hz3 | rw [World.size_drew] at hz3 | rw [World.size_setCell] at hz3)); (try have : B < w3.heap.size := by omega); (try have : B < w3.heap.size + 1 := by omega); (try have : B < w3.heap.size + 1 + 1 := by omega); (try have : B < w3.heap.size + 1 + 1 + 1 := by omega); (try have : w1.heap.size < w3.heap.size := by omega); (try have : w1.heap.size < w3.heap.size + 1 := by omega); (try have : w1.heap.size < w3.heap.size + 1 + 1 := by omega); (try have : w1.heap.size < w3.heap.size + 1 + 1 + 1 := by omega)
              go_wp2_with fail
              go_roundg (gk - 1)
              case measure => omega
              case rel =>
                refine ⟨⟨b, n', k', h, false, r⟩ :: c, l, HC.out, ?_, ?_, rfl, Lib.hid (by rw [lookC_cons]; exact HB4'.out.below hb3), Lib.hid (HC14.out.trans (Chg.of_below hb3 (fun x (_ : Nat) => x = o)) (fun _ _ _ h => h)), by omega⟩
                · intro f hf
                  rcases List.mem_cons.1 hf with rfl | hf
                  · exact ⟨HV.out, HCV.out, hk'k, HB2.out⟩
                  · exact HO.out f hf
                · simp only [BT.nodes, List.length_cons, List.length_append] at hg; omega
            · refine wp_region_qb (by kernel_rfl) (by kernel_rfl) (fun kq => ?_)
              repeat (quiet_step (first | (with_reducible exact Calls.regrown_of (Ai.out _))))
              clear kq
              refine wpQuiet_nil ?_; intro w3 hb3; (repeat (with_reducible (replace hb3 := Below.undrew hb3))); obtain ⟨hc3, hf3⟩ := bcell hb3; have hz3 := hb3.size; (repeat (first | rw [World.size_alloc] at hz3 | rw [World.size_drew] at hz3 | rw [World.size_setCell] at hz3)); (try have : B < w3.heap.size := by omega); (try have : B < w3.heap.size + 1 := by omega); (try have : B < w3.heap.size + 1 + 1 := by omega); (try have : B < w3.heap.size + 1 + 1 + 1 := by omega); (try have : w1.heap.size < w3.heap.size := by omega); (try have : w1.heap.size < w3.heap.size + 1 := by omega); (try have : w1.heap.size < w3.heap.size + 1 + 1 := by omega); (try have : w1.heap.size < w3.heap.size + 1 + 1 + 1 := by omega)
              go_wp2_with fail
              go_roundg (gk - 1)
              case measure => omega
              case rel =>
                refine ⟨⟨b, n', k', h, true, l⟩ :: c, r, HC.out, ?_, ?_, rfl, Lib.hid (by rw [lookC_cons]; exact HB4'.out.below hb3), Lib.hid (HC14.out.trans (Chg.of_below hb3 (fun x (_ : Nat) => x = o)) (fun _ _ _ h => h)), by omega⟩
                · intro f hf
                  rcases List.mem_cons.1 hf with rfl | hf
                  · exact ⟨HV.out, HCV.out, hk'k, HB2.out⟩
                  · exact HO.out f hf
                · simp only [BT.nodes, List.length_cons, List.length_append] at hg; omega
          · rw [decide_eq_false hcov] at OV
            have HNC := Lib.hid hcov
            clear hcov
            refine wp_region_qb (by kernel_rfl) (by kernel_rfl) (fun kq => ?_)
            repeat (quiet_step (first | (with_reducible exact Calls.regrown_of (OV.out _))))
            clear kq
            refine wpQuiet_nil ?_; intro w2 hb2; (repeat (with_reducible (replace hb2 := Below.undrew hb2))); obtain ⟨hc2, hf2⟩ := bcell hb2; have hz2 := hb2.size; (repeat (first | rw [World.size_alloc] at hz2 | rw [World.size_drew] at hz2 | rw [World.size_setCell] at hz2)); (try have : B < w2.heap.size := by omega); (try have : B < w2.heap.size + 1 := by omega); (try have : B < w2.heap.size + 1 + 1 := by omega); (try have : B < w2.heap.size + 1 + 1 + 1 := by omega); (try have : w1.heap.size < w2.heap.size := by omega); (try have : w1.heap.size < w2.heap.size + 1 := by omega); (try have : w1.heap.size < w2.heap.size + 1 + 1 := by omega); (try have : w1.heap.size < w2.heap.size + 1 + 1 + 1 := by omega)
            go_wp2
            go_returns
            exact ⟨c, .node b n' k' h l r, HC.out, HO.out, .inr HNC.out, by rw [HSB.out, HSO.out]; rfl, HBX.out.below hb2, ((Chg.of_below FB (fun x (_ : Nat) => x = o)).trans HCH.out (fun _ _ _ h => h)).trans (Chg.of_below hb2 (fun x (_ : Nat) => x = o)) (fun _ _ _ h => h)⟩
end Go.Proofs.Ytoecmoicaklbaaa

/- Contracts of package table: Look. -/
set_option linter.unusedVariables false
namespace Go.Proofs.Ytoecmoicaklbaaa
open Go Go.RowKit Go.Sort Wc Wk

theorem box_new (w : World) (E : TypeId) : Box (w.alloc (.cells #[.int .i64 0, .int .i64 0, .int .i64 0] E)) w.heap.size 0 0 := by constructor <;> simp
theorem Box.chg {w w' : World} {o o' p q : Nat} (h : Box w o' p q) (c : Chg w w' (fun x _ => x = o)) (hne : o' ≠ o) : Box w' o' p q :=
  ⟨Nat.lt_of_lt_of_le h.lt c.size, (c.cell _ _ h.lt hne).trans h.c0, (c.cell _ _ h.lt hne).trans h.c1, (c.cell _ _ h.lt hne).trans h.c2, (c.froz _ _ h.lt).trans h.f0, (c.froz _ _ h.lt).trans h.f1, (c.froz _ _ h.lt).trans h.f2⟩
theorem TabR.lts {w : World} {tb cnt : Nat} {T : BT} (t : TabR w tb T cnt) : ∀ b ∈ tb :: T.blocks, b < w.heap.size := fun b hb => by
  rcases List.mem_cons.1 hb with rfl | hb
  · exact t.tab.lt
  · exact brep_lt t.rep b hb


set_option maxRecDepth 100000 in
set_option maxHeartbeats 4000000 in
theorem look_any (tb cnt a : Nat) (T : BT) (w : World) (ht : TabR w tb T cnt) (hw : T.wf) (ha : Fits false a) :
    Calls Try.prog 47 #[.pointer (some ⟨tb, 0, none⟩), Value.agg #[.bool false, .int .u64 (hiOf false a), .int .u64 (loOf a)]] w fun e w' => (∃ hop len : Nat, e = .returned (.agg #[.int .i64 0, .int .i64 hop, .int .i64 len]) ∧ Goes T.list a hop len) ∧ Below w.heap.size w w' := by
  have HT := Lib.hid ht
  have WD := Lib.hid (fun w => wide_any false w)
  rw [show wdI false = 32 from rfl] at WD
  have HW := Lib.hid hw
  have HTL := Lib.hid ht.lts
  clear ht hw
  go_enter Try.func47, Try.ntmps47
  go_wp2_with fail
  obtain ⟨W, hW⟩ : ∃ W, W = ((w.alloc (.cells #[.bool false, .int .u64 (hiOf false a), .int .u64 (loOf a)] 28)).alloc (.cells #[.int .i64 0, .int .i64 0, .int .i64 0] 54)).alloc (.cells #[.int .i64 0, .int .i64 0, .int .i64 0] 54) := ⟨_, rfl⟩
  have A0 : W.cell? ⟨w.heap.size, 0, none⟩ = some (.bool false) := by
    rw [hW]
    exact (Below.cell (p := ⟨w.heap.size, 0, none⟩) (((Below.refl (w.heap.size + 1) _).alloc (by simp) _).alloc (by simp) _) (Nat.lt_succ_self _)).trans (by simp)
  have A1 : W.cell? ⟨w.heap.size, 1, none⟩ = some (.int .u64 (hiOf false a)) := by
    rw [hW]
    exact (Below.cell (p := ⟨w.heap.size, 1, none⟩) (((Below.refl (w.heap.size + 1) _).alloc (by simp) _).alloc (by simp) _) (Nat.lt_succ_self _)).trans (by simp)
  have A2 : W.cell? ⟨w.heap.size, 2, none⟩ = some (.int .u64 (loOf a)) := by
    rw [hW]
    exact (Below.cell (p := ⟨w.heap.size, 2, none⟩) (((Below.refl (w.heap.size + 1) _).alloc (by simp) _).alloc (by simp) _) (Nat.lt_succ_self _)).trans (by simp)
  have HR0 : Box W (w.heap.size + 1) 0 0 := by
    rw [hW]
    refine Box.below ?_ ((Below.refl _ _).alloc (Nat.le_refl _) _)
    have := box_new (w.alloc (.cells #[.bool false, .int .u64 (hiOf false a), .int .u64 (loOf a)] 28)) 54
    rw [World.size_alloc] at this; exact this
  have HO0 : Box W (w.heap.size + 1 + 1) 0 0 := by
    rw [hW]
    have := box_new ((w.alloc (.cells #[.bool false, .int .u64 (hiOf false a), .int .u64 (loOf a)] 28)).alloc (.cells #[.int .i64 0, .int .i64 0, .int .i64 0] 54)) 54
    rw [World.size_alloc, World.size_alloc] at this; exact this
  have HRB := Lib.hid HR0
  have HOB := Lib.hid HO0
  have WS : W.heap.size = w.heap.size + 1 + 1 + 1 := by rw [hW]; simp
  have FB : Below w.heap.size w W := by rw [hW]; (repeat' (first | (with_reducible exact Below.refl _ _) | (with_reducible assumption) | (with_reducible refine Below.alloc ?_ ?_ _) | (with_reducible refine Below.drew ?_) | (with_reducible refine Below.stepG ?_ (by assumption) ?_) | (with_reducible refine Below.setCell ?_ ?_ _) | omega | (dsimp only; omega) | (simp; done) | (simp; omega)))
  rw [← hW]
  have HWS := Lib.hid WS
  have hw0 : w.heap.size < W.heap.size := by omega
  clear hW WS HR0 HO0
  go_cut [6] (fun v wx => ∃ pb, v = .pointer (some ⟨pb, 0, none⟩) ∧ Hid (PX wx pb a 32) ∧ W.heap.size ≤ pb ∧ Hid (Below W.heap.size W wx))
  case first =>
    go_region_held3 (fun w' => w'.cell? ⟨w.heap.size, 0, none⟩ = some (.bool false) ∧ w'.cell? ⟨w.heap.size, 1, none⟩ = some (.int .u64 (hiOf false a)) ∧ w'.cell? ⟨w.heap.size, 2, none⟩ = some (.int .u64 (loOf a))) (first | (go_simp; done) | (simp [*, go_sem, World.cell?_alloc_past]; done) | (simp [*, go_sem, World.cell?_alloc_past, World.cell?_setCell_far]; done))
      (first | ((with_reducible refine (WD.out _).mono ?_); rintro e w' ⟨rfl, rfl⟩))
    all_goals go_wp2_with fail
    all_goals go_meet
    all_goals exact ⟨_, rfl, (px_new W a 32 _).below (Below.drew (Below.refl _ _)), Nat.le_refl _, by show Below _ _ _; (repeat' (first | (with_reducible exact Below.refl _ _) | (with_reducible assumption) | (with_reducible refine Below.alloc ?_ ?_ _) | (with_reducible refine Below.drew ?_) | (with_reducible refine Below.stepG ?_ (by assumption) ?_) | (with_reducible refine Below.setCell ?_ ?_ _) | omega | (dsimp only; omega) | (simp; done) | (simp; omega)))⟩
  case rest =>
    obtain ⟨pb, rfl, HPX, hpb, HBW⟩ := hcut
    have HP : VP false a 32 := ⟨ha, by decide, by show cutN 32 a 32 = a; exact cut_full 32 a⟩
    have FBc : Below w.heap.size w wc := FB.trans (HBW.out.mono (by omega))
    have hOBc := HOB.out.below HBW.out
    have hRBc := HRB.out.below HBW.out
    have HTc := HT.out.below FBc
    have PN := Lib.hid (place_note tb cnt a 32 (w.heap.size + 1 + 1) T wc hOBc (fun b hb => by have := HTL.out b hb; omega) HTc HW.out HP)
    have hpx := HPX.out
    obtain ⟨px, p0, p1, p2, p3⟩ := hpx
    have hWSn := HWS.out
    have hpo : pb ≠ w.heap.size + 1 + 1 := by omega
    have HTch := Lib.hid HTc
    have HRc := Lib.hid hRBc
    have HFBc := Lib.hid FBc
    clear HTc hRBc hOBc FBc A0 A1 A2 FB HPX HT HRB HOB
    go_wp2_with fail
    refine PN.out.mono ?_
    rintro e w4 ⟨c, t, hc, ho, hs, rfl, hbx, hch⟩
    have HBX := Lib.hid hbx
    have HCH := Lib.hid hch
    have P0 := (hch.cell _ _ px hpo).trans p0
    have P1 := (hch.cell _ _ px hpo).trans p1
    have P2 := (hch.cell _ _ px hpo).trans p2
    have P3 := (hch.cell _ _ px hpo).trans p3
    have hz4 := hch.size
    have hp4 : pb < w4.heap.size := by omega
    have TT := HTch.out.chg (G := fun x => x = w.heap.size + 1 + 1) hch (fun b hb e => by have := HTL.out b hb; omega)
    have HTOc : ∀ b ∈ tb :: T.blocks, b ≠ w.heap.size + 1 + 1 := fun b hb e => by have := HTL.out b hb; omega
    rw [hc] at TT HTOc
    obtain ⟨t1, t2, t3⟩ := tab_plug.1 TT
    obtain ⟨sl, sc, _⟩ := t1.at_slot
    have hwp : (plug c t).wf := by rw [← hc]; exact HW.out
    have hwt := (plug_wf hwp).1
    have HLS := Lib.hid (look_says hwp ha ho hs)
    rw [← hc] at HLS
    have HR4 := Lib.hid (HRc.out.chg hch (by omega))
    have HF4 := Lib.hid (HFBc.out.trans (hch.below (B := w.heap.size) HFBc.out.size (fun b x hb e => by omega)))
    clear TT t1 t3 hc hwp PN hbx hch p0 p1 p2 p3 HRc HFBc HTch HCH ho
    generalize slotB tb c = sb at *
    generalize slotO c = so at *
    generalize (lookC c).1 = lh at *
    generalize (lookC c).2 = ll at *
    cases t with
    | nil =>
      have sc' : w4.cell? ⟨sb, so, none⟩ = some (.pointer none) := sc
      have HG : Hid (Goes T.list a lh ll) := by have := HLS.out; simp [exactH] at this; exact Lib.hid this
      clear sc HLS
      go_wp2_with fail
      refine wp_region_qb (by kernel_rfl) (by kernel_rfl) (fun kq => ?_)
      repeat (quiet_step (fail))
      clear kq
      refine wpQuiet_nil ?_; intro w5 hb5; (repeat (with_reducible (replace hb5 := Below.undrew hb5))); obtain ⟨hc5, hf5⟩ := bcell hb5; have hz5 := hb5.size; (repeat (first | rw [World.size_alloc] at hz5 | rw [World.size_drew] at hz5 | rw [World.size_setCell] at hz5)); (try have : w.heap.size < w5.heap.size := by omega); (try have : w.heap.size < w5.heap.size + 1 := by omega); (try have : w.heap.size < w5.heap.size + 1 + 1 := by omega); (try have : w.heap.size < w5.heap.size + 1 + 1 + 1 := by omega); (try have : w.heap.size + 1 < w5.heap.size := by omega); (try have : w.heap.size + 1 < w5.heap.size + 1 := by omega); (try have : w.heap.size + 1 < w5.heap.size + 1 + 1 := by omega); (try have : w.heap.size + 1 < w5.heap.size + 1 + 1 + 1 := by omega); (try have : w1.heap.size < w5.heap.size := by omega); (try have : w1.heap.size < w5.heap.size + 1 := by omega); (try have : w1.heap.size < w5.heap.size + 1 + 1 := by omega); (try have : w1.heap.size < w5.heap.size + 1 + 1 + 1 := by omega)
      have B5 := HBX.out.below hb5
      have R5 := HR4.out.below hb5
      obtain ⟨b5l, b50, b51, b52, _, _, _⟩ := B5
      have HRF := Lib.hid R5
      obtain ⟨r5l, r50, r51, r52, r5f, r5g, r5h⟩ := R5
      clear hc5 hf5 HBX HR4 sc' P0 P1 P2 P3
      go_wp2_with fail
      have RF := (HRF.out.set0.set1 lh).set2 ll
      obtain ⟨_, k0, k1, k2, _, _, _⟩ := RF
      exact bodyPost_ret (v := .agg #[.int .i64 0, .int .i64 (lh : Nat), .int .i64 (ll : Nat)]) (by simp [results, Try.results47, go_sem, k0, k1, k2]) rfl ⟨⟨_, _, rfl, HG.out⟩, (((HF4.out.trans (hb5.mono HF4.out.size)).setCell (by simp) _).setCell (by simp) _).setCell (by simp) _⟩
    | node b n' k' h l r =>
      have sc' : w4.cell? ⟨sb, so, none⟩ = some (.pointer (some ⟨b, 0, none⟩)) := sc
      clear sc
      have HTNb := Lib.hid t2.1
      have hbo : b ≠ w.heap.size + 1 + 1 := HTOc b (List.mem_cons_of_mem _ (by rw [(plug_blocks c _).mem_iff, List.mem_append]; exact .inr (by simp [BT.blocks])))
      obtain ⟨⟨ltb, d0, d1, d2, d3, d4, d5, d6, _⟩, _, _⟩ := t2
      clear d4 d5 d6 HTOc
      by_cases hex : n' = a ∧ k' = 32
      · obtain ⟨rfl, rfl⟩ := hex
        have HG : Hid (Goes T.list n' (if h = 0 then lh else h) (if h = 0 then ll else 32)) := by
          have := HLS.out
          simp only [exactH, and_self, if_true] at this
          by_cases h0 : h = 0
          · subst h0; simp at this ⊢; exact Lib.hid this
          · rw [if_neg h0, if_neg h0]; rw [if_pos h0, if_pos h0] at this; exact Lib.hid this
        clear HLS hwt
        go_wp2_with fail
        refine wp_region_qb (by kernel_rfl) (by kernel_rfl) (fun kq => ?_)
        repeat (quiet_step (fail))
        clear kq
        refine wpQuiet_nil ?_; intro w5 hb5; (repeat (with_reducible (replace hb5 := Below.undrew hb5))); obtain ⟨hc5, hf5⟩ := bcell hb5; have hz5 := hb5.size; (repeat (first | rw [World.size_alloc] at hz5 | rw [World.size_drew] at hz5 | rw [World.size_setCell] at hz5)); (try have : w.heap.size < w5.heap.size := by omega); (try have : w.heap.size < w5.heap.size + 1 := by omega); (try have : w.heap.size < w5.heap.size + 1 + 1 := by omega); (try have : w.heap.size < w5.heap.size + 1 + 1 + 1 := by omega); (try have : w.heap.size + 1 < w5.heap.size := by omega); (try have : w.heap.size + 1 < w5.heap.size + 1 := by omega); (try have : w.heap.size + 1 < w5.heap.size + 1 + 1 := by omega); (try have : w.heap.size + 1 < w5.heap.size + 1 + 1 + 1 := by omega); (try have : w1.heap.size < w5.heap.size := by omega); (try have : w1.heap.size < w5.heap.size + 1 := by omega); (try have : w1.heap.size < w5.heap.size + 1 + 1 := by omega); (try have : w1.heap.size < w5.heap.size + 1 + 1 + 1 := by omega)
        have NT := Lib.hid (note_any b n' 32 h (w.heap.size + 1 + 1) _ _ _ _ w5 (HTNb.out.below hb5) (HBX.out.below hb5) hbo)
        have HR5 := Lib.hid (HR4.out.below hb5)
        have HF5 := Lib.hid (HF4.out.trans (hb5.mono HF4.out.size))
        clear hc5 hf5 HBX HR4 sc' P0 P1 P2 P3 d0 d1 d2 d3 HTNb hb5
        go_wp2_with fail
        refine NT.out.mono ?_
        rintro e w6 ⟨rfl, hbx, hch⟩
        have B5 := hbx
        have R5 := HR5.out.chg hch (by omega)
        have HF6 := Lib.hid (HF5.out.trans (hch.below (B := w.heap.size) HF5.out.size (fun b x hb e => by omega)))
        generalize (if h = 0 then lh else h) = p5 at *
        generalize (if h = 0 then ll else 32) = q5 at *
        obtain ⟨b5l, b50, b51, b52, _, _, _⟩ := B5
        have HRF := Lib.hid R5
        obtain ⟨r5l, r50, r51, r52, r5f, r5g, r5h⟩ := R5
        clear hbx hch HR5 NT HF5
        go_wp2_with fail
        have RF := (HRF.out.set0.set1 p5).set2 q5
        obtain ⟨_, k0, k1, k2, _, _, _⟩ := RF
        exact bodyPost_ret (v := .agg #[.int .i64 0, .int .i64 (p5 : Nat), .int .i64 (q5 : Nat)]) (by simp [results, Try.results47, go_sem, k0, k1, k2]) rfl ⟨⟨_, _, rfl, HG.out⟩, ((HF6.out.setCell (by simp) _).setCell (by simp) _).setCell (by simp) _⟩
      · have HG : Hid (Goes T.list a lh ll) := by
          have := HLS.out
          simp only [exactH, if_neg hex] at this
          simp at this
          exact Lib.hid this
        clear HLS
        by_cases hkk : k' = 32
        · subst hkk
          have hne : ¬ n' = a := fun e => hex ⟨e, rfl⟩
          have hl : ¬ loOf n' = loOf a := fun e => hne (by
            rw [loOf_false hwt.1.1, loOf_false ha] at e
            omega)
          clear hex hne hwt
          go_wp2_with fail
          refine wp_region_qb (by kernel_rfl) (by kernel_rfl) (fun kq => ?_)
          repeat (quiet_step (fail))
          clear kq
          refine wpQuiet_nil ?_; intro w5 hb5; (repeat (with_reducible (replace hb5 := Below.undrew hb5))); obtain ⟨hc5, hf5⟩ := bcell hb5; have hz5 := hb5.size; (repeat (first | rw [World.size_alloc] at hz5 | rw [World.size_drew] at hz5 | rw [World.size_setCell] at hz5)); (try have : w.heap.size < w5.heap.size := by omega); (try have : w.heap.size < w5.heap.size + 1 := by omega); (try have : w.heap.size < w5.heap.size + 1 + 1 := by omega); (try have : w.heap.size < w5.heap.size + 1 + 1 + 1 := by omega); (try have : w.heap.size + 1 < w5.heap.size := by omega); (try have : w.heap.size + 1 < w5.heap.size + 1 := by omega); (try have : w.heap.size + 1 < w5.heap.size + 1 + 1 := by omega); (try have : w.heap.size + 1 < w5.heap.size + 1 + 1 + 1 := by omega); (try have : w1.heap.size < w5.heap.size := by omega); (try have : w1.heap.size < w5.heap.size + 1 := by omega); (try have : w1.heap.size < w5.heap.size + 1 + 1 := by omega); (try have : w1.heap.size < w5.heap.size + 1 + 1 + 1 := by omega)
          have B5 := HBX.out.below hb5
          have R5 := HR4.out.below hb5
          obtain ⟨b5l, b50, b51, b52, _, _, _⟩ := B5
          have HRF := Lib.hid R5
          obtain ⟨r5l, r50, r51, r52, r5f, r5g, r5h⟩ := R5
          clear hc5 hf5 HBX HR4 sc' P0 P1 P2 P3 d0 d1 d2 d3 HTNb
          go_wp2_with fail
          have RF := (HRF.out.set0.set1 lh).set2 ll
          obtain ⟨_, k0, k1, k2, _, _, _⟩ := RF
          exact bodyPost_ret (v := .agg #[.int .i64 0, .int .i64 (lh : Nat), .int .i64 (ll : Nat)]) (by simp [results, Try.results47, go_sem, k0, k1, k2]) rfl ⟨⟨_, _, rfl, HG.out⟩, (((HF4.out.trans (hb5.mono HF4.out.size)).setCell (by simp) _).setCell (by simp) _).setCell (by simp) _⟩
        · have hki : ¬ ((k' : Int) = 32) := by omega
          clear hex hwt
          go_wp2_with fail
          refine wp_region_qb (by kernel_rfl) (by kernel_rfl) (fun kq => ?_)
          repeat (quiet_step (fail))
          clear kq
          refine wpQuiet_nil ?_; intro w5 hb5; (repeat (with_reducible (replace hb5 := Below.undrew hb5))); obtain ⟨hc5, hf5⟩ := bcell hb5; have hz5 := hb5.size; (repeat (first | rw [World.size_alloc] at hz5 | rw [World.size_drew] at hz5 | rw [World.size_setCell] at hz5)); (try have : w.heap.size < w5.heap.size := by omega); (try have : w.heap.size < w5.heap.size + 1 := by omega); (try have : w.heap.size < w5.heap.size + 1 + 1 := by omega); (try have : w.heap.size < w5.heap.size + 1 + 1 + 1 := by omega); (try have : w.heap.size + 1 < w5.heap.size := by omega); (try have : w.heap.size + 1 < w5.heap.size + 1 := by omega); (try have : w.heap.size + 1 < w5.heap.size + 1 + 1 := by omega); (try have : w.heap.size + 1 < w5.heap.size + 1 + 1 + 1 := by omega); (try have : w1.heap.size < w5.heap.size := by omega); (try have : w1.heap.size < w5.heap.size + 1 := by omega); (try have : w1.heap.size < w5.heap.size + 1 + 1 := by omega); (try have : w1.heap.size < w5.heap.size + 1 + 1 + 1 := by omega)
          have B5 := HBX.out.below hb5
          have R5 := HR4.out.below hb5
          obtain ⟨b5l, b50, b51, b52, _, _, _⟩ := B5
          have HRF := Lib.hid R5
          obtain ⟨r5l, r50, r51, r52, r5f, r5g, r5h⟩ := R5
          clear hc5 hf5 HBX HR4 sc' P0 P1 P2 P3 d0 d1 d2 d3 HTNb
          go_wp2_with fail
          have RF := (HRF.out.set0.set1 lh).set2 ll
          obtain ⟨_, k0, k1, k2, _, _, _⟩ := RF
          exact bodyPost_ret (v := .agg #[.int .i64 0, .int .i64 (lh : Nat), .int .i64 (ll : Nat)]) (by simp [results, Try.results47, go_sem, k0, k1, k2]) rfl ⟨⟨_, _, rfl, HG.out⟩, (((HF4.out.trans (hb5.mono HF4.out.size)).setCell (by simp) _).setCell (by simp) _).setCell (by simp) _⟩
end Go.Proofs.Ytoecmoicaklbaaa
