
/- Contracts of package table: play, Play. -/
import Derived.Test.YtoecmoicaklbaaaTblH
import Derived.Test.YtoecmoicaklbaaaQ5
set_option linter.unusedVariables false
namespace Go.Proofs.Ytoecmoicaklbaaa
open Go Go.RowKit Go.Sort Wc Wk

theorem Tab.same {w w' : World} {tb : Nat} {L : List (Nat × Nat × Nat)} {F : Nat → Prop} (t : Tab w tb L F) (hz : w.heap.size ≤ w'.heap.size) (h : ∀ b, F b → b < w.heap.size → w'.heap[b]? = w.heap[b]?) : Tab w' tb L F := by
  obtain ⟨T, ⟨⟨lt, r0, r1, r2, fz, _⟩, r, nd⟩, hw, hL, hF⟩ := t
  have hc : ∀ b o, F b → b < w.heap.size → w'.cell? ⟨b, o, none⟩ = w.cell? ⟨b, o, none⟩ := fun b o hb hl => World.cell?_of_block (a := ⟨b, o, none⟩) (h b hb hl)
  have hf : ∀ b o, F b → b < w.heap.size → w'.frozen? ⟨b, o, none⟩ = w.frozen? ⟨b, o, none⟩ := fun b o hb hl => World.frozen?_of_block (a := ⟨b, o, none⟩) (h b hb hl)
  have hR : ∀ {t : BT}, BRep w t → (∀ b ∈ t.blocks, F b) → BRep w' t := by
    intro t
    induction t with
    | nil => exact fun _ _ => trivial
    | node b n k h l r ihl ihr =>
      rintro ⟨a, rl, rr⟩ hb
      have fb := hb b (by simp [BT.blocks])
      refine ⟨⟨Nat.lt_of_lt_of_le a.lt hz, (hc _ _ fb a.lt).trans a.c0, (hc _ _ fb a.lt).trans a.c1, (hc _ _ fb a.lt).trans a.c2, (hc _ _ fb a.lt).trans a.c3, (hc _ _ fb a.lt).trans a.c4, (hc _ _ fb a.lt).trans a.c5, (hc _ _ fb a.lt).trans a.c6, fun o ho => (hf _ _ fb a.lt).trans (a.fz o ho)⟩,
        ihl rl (fun x hx => hb x (by simp [BT.blocks, hx])), ihr rr (fun x hx => hb x (by simp [BT.blocks, hx]))⟩
  have ft := hF tb List.mem_cons_self
  exact ⟨T, ⟨⟨Nat.lt_of_lt_of_le lt hz, (hc _ _ ft lt).trans r0, (hc _ _ ft lt).trans r1, (hc _ _ ft lt).trans r2, fun o ho => (hf _ _ ft lt).trans (fz o ho), trivial⟩, hR r (fun b hb => hF b (List.mem_cons_of_mem _ hb)), nd⟩, hw, hL, hF⟩
theorem tab_new (w : World) (E : TypeId) : Tab (w.alloc (.cells #[.pointer none, .pointer none, .int .i64 0] E)) w.heap.size [] (fun b => b = w.heap.size) := by
  refine ⟨.nil, ⟨⟨by simp, by simp [rootP, ptrV, BT.ptr], by simp, by simp, fun o _ => by simp, trivial⟩, trivial, by simp [BT.blocks]⟩, trivial, rfl, fun b hb => by simpa [BT.blocks] using hb⟩
theorem eiAns : EI Try.prog 135 54 3 24 (.agg #[.int .i64 0, .int .i64 0, .int .i64 0]) := ⟨by kernel_rfl, by kernel_rfl, rfl, by decide⟩
/-- A table of the call's own and what has been told. -/
def Playing (w wr : World) (tb : Nat) (v : Value) (L : List (Nat × Nat × Nat)) (al : List AnsD) : Prop :=
  ∃ F : Nat → Prop, Tab wr tb L F ∧ (∀ b, F b → w.heap.size ≤ b ∧ b < wr.heap.size) ∧ Own wr w.heap.size 54 3 v (al.map ansCells) ∧ (∀ k, v.ownBlock = some k → ¬ F k) ∧ Below w.heap.size w wr
theorem Playing.below {w wr w' : World} {tb : Nat} {v : Value} {L : List (Nat × Nat × Nat)} {al : List AnsD} (h : Playing w wr tb v L al) (hb : Below wr.heap.size wr w') : Playing w w' tb v L al := by
  obtain ⟨F, t, f, o, a, b⟩ := h
  exact ⟨F, t.below hb, fun x hx => ⟨(f x hx).1, Nat.lt_of_lt_of_le (f x hx).2 hb.size⟩, o.below hb, a, b.trans (hb.mono b.size)⟩
theorem Playing.own {w wr : World} {tb : Nat} {v : Value} {L : List (Nat × Nat × Nat)} {al : List AnsD} (h : Playing w wr tb v L al) : Own wr w.heap.size 54 3 v (al.map ansCells) := by
  obtain ⟨F, t, f, o, a, b⟩ := h; exact o
theorem Playing.bel {w wr : World} {tb : Nat} {v : Value} {L : List (Nat × Nat × Nat)} {al : List AnsD} (h : Playing w wr tb v L al) : Below w.heap.size w wr := by
  obtain ⟨F, t, f, o, a, b⟩ := h; exact b
theorem brep_head {w : World} : ∀ {t : BT}, BRep w t → ∀ b ∈ t.blocks, w.cell? ⟨b, 0, none⟩ = some (.bool false)
  | .nil, _, b, hb => by cases hb
  | .node b n k h l r, ⟨a, rl, rr⟩, x, hx => by
    simp only [BT.blocks, List.mem_cons, List.mem_append] at hx
    rcases hx with rfl | hx | hx
    · exact a.c0
    · exact brep_head rl x hx
    · exact brep_head rr x hx
/-- A block of a table is no row of numbers. -/
theorem tab_head {w : World} {tb cnt : Nat} {T : BT} (t : TabR w tb T cnt) {b : Nat} (hb : b ∈ tb :: T.blocks) {c : Int} (h : w.cell? ⟨b, 0, none⟩ = some (.int .i64 c)) : False := by
  rcases List.mem_cons.1 hb with rfl | hb
  · have := t.tab.r0
    rw [h] at this
    cases hp : rootP [] T.ptr <;> rw [hp] at this <;> simp [ptrV] at this
  · have := brep_head t.rep b hb
    rw [h] at this
    simp at this
theorem Playing.snoc {w wr w' : World} {tb : Nat} {v v' : Value} {L : List (Nat × Nat × Nat)} {al : List AnsD} {x : AnsD} (h : Playing w wr tb v L al) (g : wr.grownBy w' v.ownBlock) (ho : Own w' w.heap.size 54 3 v' (al.map ansCells ++ [ansCells x])) :
    Playing w w' tb v' L (al ++ [x]) := by
  obtain ⟨F, t, f, o, a, b⟩ := h
  obtain ⟨T, tr, hw, hL, hF⟩ := t
  have t1 : Tab wr tb L (fun b => b ∈ tb :: T.blocks) := ⟨T, tr, hw, hL, fun b hb => hb⟩
  have eq : ∀ k, k ∈ tb :: T.blocks → k < wr.heap.size → w'.heap[k]? = wr.heap[k]? := fun k hk hl => g.block k hl (fun e => a k e.symm (hF k hk))
  refine ⟨_, t1.same g.size eq, fun x hx => ⟨(f x (hF x hx)).1, Nat.lt_of_lt_of_le (f x (hF x hx)).2 g.size⟩, by rw [List.map_append]; exact ho, fun k hk hf => ?_, b.trans ?_⟩
  · have hl := (f k (hF k hf)).2
    obtain ⟨g', cap', hv, _, _, _, _, _, hcc⟩ := ho.at (by simp)
    subst hv
    simp only [Value.ownBlock, Option.some.injEq] at hk
    subst hk
    have hd : ∃ y : AnsD, (al.map ansCells ++ [ansCells x])[0]? = some (ansCells y) := by
      cases al with
      | nil => exact ⟨x, rfl⟩
      | cons y l => exact ⟨y, rfl⟩
    obtain ⟨y, hy⟩ := hd
    have h0 := hcc 0 _ hy 0 (.int .i64 y.code) rfl
    rw [World.cell?_of_block (a := ⟨g', 0 * 3 + 0, none⟩) (eq g' hf hl)] at h0
    exact tab_head tr hf h0
  · exact Below.of_grown g b.size (fun k hk => (o.lt k hk).1)
/-- What a Do makes of it. -/
theorem playing_do {w wr : World} {tb : Nat} {v : Value} {L : List (Nat × Nat × Nat)} {al : List AnsD} {x : ActD} (h : Playing w wr tb v L al) (hl : L.length ≤ 60) (hx : x.fit) :
    Calls Try.prog 59 #[.pointer (some ⟨tb, 0, none⟩), Value.agg #[.int .i64 x.kind, .bool false, .int .u64 (hiOf false x.n), .int .u64 (loOf x.n), .int .i64 x.k, .int .i64 x.hop, .bool false, .int .u64 (hiOf false x.a), .int .u64 (loOf x.a)]] wr fun e w' => e = .returned (.agg #[.int .i64 (tstep L x).2.code, .int .i64 (tstep L x).2.hop, .int .i64 (tstep L x).2.len]) ∧ Playing w w' tb v (tstep L x).1 al ∧ wr.heap.size ≤ w'.heap.size ∧ Chg wr w' (fun b _ => w.heap.size ≤ b) := by
  obtain ⟨F, t, f, o, a, b⟩ := h
  refine (tdo_any tb L F x wr t hl hx).mono ?_
  rintro e w' ⟨rfl, t', c⟩
  refine ⟨rfl, ⟨_, t'.lt, fun k hk => ⟨?_, hk.2⟩, o.chgF c (fun k hk x hf => a k hk hf), fun k hk hf => ?_, b.trans (c.below b.size (fun k x hk hf => by have := (f k hf).1; omega))⟩, c.size, Chg.weak c (fun k x _ hf => (f k hf).1)⟩
  · rcases hk.1 with h | h
    · exact (f k h).1
    · have := b.size; omega
  · rcases hf.1 with h | h
    · exact a k hk h
    · have := (o.lt k hk).2; omega

/-- What a play hands back. -/
def RetPlay (w : World) (al : List ActD) (e : Ending) (w' : World) : Prop :=
  ∃ tb v, e = .returned (.tuple #[.pointer (some ⟨tb, 0, none⟩), v, .int .i64 0]) ∧ Playing w w' tb v (tend [] al) (trun [] al)

set_option maxRecDepth 100000 in
set_option maxHeartbeats 2000000 in
theorem play_any (a : Option Addr) (cap : Nat) (al : List ActD) (w : World) (hs : Sl w 9 (.slice a al.length cap) (al.map actCells)) (hl : al.length ≤ 100) (hok : ∀ x ∈ al, ActD.fit x) :
    Calls Try.prog 77 #[.slice a al.length cap] w (RetPlay w al) := by
  have HS := Lib.hid hs
  have HK := Lib.hid hok
  have d1 : decide ((100 : Int) < al.length) = false := by simp; omega
  have hlw1 := hs.lens.2.1
  have hlw2 := hs.lens.2.2
  clear hs hok
  go_enter Try.func77, Try.ntmps77
  go_wp2_with fail
  have HP0 := Lib.hid (show Playing w (w.alloc (.cells #[.pointer none, .pointer none, .int .i64 0] 151)) w.heap.size (.slice none 0 0) [] [] from
    ⟨_, tab_new w _, fun b hb => by subst hb; simp, Own.nil _ _ _ _, fun k hk => (by simp [Value.ownBlock] at hk), (Below.refl _ _).alloc (Nat.le_refl _) _⟩)
  have hWs : (w.alloc (.cells #[.pointer none, .pointer none, .int .i64 0] 151)).heap.size = w.heap.size + 1 := by simp
  generalize w.alloc (.cells #[.pointer none, .pointer none, .int .i64 0] 151) = W at *
  obtain ⟨tb, htb⟩ : ∃ tb, tb = w.heap.size := ⟨_, rfl⟩
  rw [← htb] at HP0 ⊢
  have HTB := Lib.hid htb
  clear htb hWs
  go_loopw [6, 16] (fun v i wr => ∃ (m : Nat), m ≤ al.length ∧ i = .int .i64 m ∧ Hid (Playing w wr tb v (tend [] (al.take m)) (trun [] (al.take m)))) (fun _ i _ => al.length - (intOf i).toNat)
  case atStart => exact ⟨0, Nat.zero_le _, rfl, HP0⟩
  case round =>
    obtain ⟨m, hm, rfl, HP⟩ := hrel
    by_cases hlt : m < al.length
    · obtain ⟨x, hx⟩ : ∃ x, al[m]? = some x := ⟨_, List.getElem?_eq_getElem hlt⟩
      obtain ⟨b, off, rfl, hb, d0, d1, d2, d3, d4, d5, d6, d7, d8⟩ := Sl.act HS.out HP.out.bel hx
      have HX := Lib.hid (HK.out x (List.mem_of_getElem? hx))
      have HA := Lib.hid (trun_at (L := []) hx)
      have HT := Lib.hid (show al.take (m + 1) = al.take m ++ [x] by rw [List.take_add_one, hx]; rfl)
      have HL := Lib.hid (tend_ok (L := []) TabOk.nil (l := al.take m) (fun y hy => HK.out y (List.mem_of_mem_take hy))).len
      clear hx
      generalize hL0 : tend [] (al.take m) = L0 at *
      generalize hA0 : trun [] (al.take m) = A0 at *
      have HL0 := Lib.hid hL0
      have hdl : A0.length = m := by rw [← hA0, trun_len, List.length_take]; omega
      have HDL := Lib.hid hdl
      have HA0 := Lib.hid hA0
      clear hL0 hA0 hdl
      go_wp2_with fail
      have hYB : Below wr.heap.size wr (wr.alloc (.cells (actCells x).toArray 32)) := (Below.refl _ _).alloc (Nat.le_refl _) _
      refine (playing_do (x := x) (HP.out.below hYB) HL.out HX.out).mono ?_
      rintro e w1 ⟨rfl, hp1, hz1, hc1⟩
      have HP1 := Lib.hid hp1
      have hz1' : wr.heap.size + 1 ≤ w1.heap.size := by simpa using hz1
      generalize hdd : (tstep L0 x).2 = d at *
      have HDD := Lib.hid hdd
      clear hp1 hz1 hc1 hdd hYB
      go_wp2_with (at_builtin; refine wpList_append_rows rfl _ _ 135 54 3 24 _ rfl eiAns w.heap.size _ (A0.map ansCells) rfl (HP1.out.own.alloc _) _ _ rfl (sl_new (c := ansCells d) (by simp) rfl) (by intro c hc; simp at hc; subst hc; exact ansCells_one d) (by have := HDL.out; simp; omega) (by decide) (by have := HP1.out.bel.size; simp; omega) (by simp) ?_; intro v' w5 hown' hgr hb5)
      have hP5 := Playing.snoc (x := d) (HP1.out.below (w' := w1.alloc (.cells (ansCells d).toArray 54)) ((Below.refl _ _).alloc (Nat.le_refl _) _)) hgr hown'
      have e1 := HA.out.2
      have e2 : trun [] (al.take (m + 1)) = A0 ++ [d] := by
        rw [HT.out, trun_app, HA0.out, HL0.out]
        show A0 ++ [(tstep L0 x).2] = _
        rw [HDD.out]
      have HP5 := Lib.hid hP5
      rw [← e1, ← e2] at HP5
      clear hP5 hown' hgr hb5 e1 e2
      go_roundw
      case rel => exact ⟨m + 1, by omega, by go_num, HP5⟩
      case measure => simp [intOf]; omega
    · obtain rfl : m = al.length := by omega
      go_wp2
      go_returns
      have e1 : al.take al.length = al := List.take_of_length_le (Nat.le_refl _)
      rw [e1] at HP
      exact ⟨tb, _, rfl, HP.out⟩
end Go.Proofs.Ytoecmoicaklbaaa
