
/- Trees of prefixes in a world. -/
import Derived.Test.YtoecmoicaklbaaaDoorTbl0
import Derived.Test.YtoecmoicaklbaaaDoorTrie
set_option linter.unusedVariables false
namespace Go.Proofs.YtoecmoicaklbaaaDoor
open Go Go.RowKit Go.Sort Wc Wk

def BT.ptr : BT → Option (Nat × Nat)
  | .nil => none
  | .node b _ _ _ _ _ => some (b, 0)
def BT.blocks : BT → List Nat
  | .nil => []
  | .node b _ _ _ l r => b :: (l.blocks ++ r.blocks)
structure TN (w : World) (b n k h : Nat) (pl pr : Option (Nat × Nat)) : Prop where
  lt : b < w.heap.size
  c0 : w.cell? ⟨b, 0, none⟩ = some (.bool false)
  c1 : w.cell? ⟨b, 1, none⟩ = some (.int .u64 (hiOf false n))
  c2 : w.cell? ⟨b, 2, none⟩ = some (.int .u64 (loOf n))
  c3 : w.cell? ⟨b, 3, none⟩ = some (.int .i64 k)
  c4 : w.cell? ⟨b, 4, none⟩ = some (.int .i64 h)
  c5 : w.cell? ⟨b, 5, none⟩ = some (ptrV pl)
  c6 : w.cell? ⟨b, 6, none⟩ = some (ptrV pr)
  fz : ∀ o, o < 7 → w.frozen? ⟨b, o, none⟩ = false
def BRep (w : World) : BT → Prop
  | .nil => True
  | .node b n k h l r => TN w b n k h l.ptr r.ptr ∧ BRep w l ∧ BRep w r
def CRep (w : World) : List Fr → Option (Nat × Nat) → Prop
  | [], _ => True
  | f :: c, p => TN w f.b f.n f.k f.h (if f.d then f.sib.ptr else p) (if f.d then p else f.sib.ptr) ∧ BRep w f.sib ∧ CRep w c (some (f.b, 0))
def rootP : List Fr → Option (Nat × Nat) → Option (Nat × Nat)
  | [], p => p
  | f :: c, _ => rootP c (some (f.b, 0))
def slotB (tb : Nat) : List Fr → Nat
  | [] => tb
  | f :: _ => f.b
def slotO : List Fr → Nat
  | [] => 0
  | f :: _ => if f.d then 6 else 5
def cblocks : List Fr → List Nat
  | [] => []
  | f :: c => f.b :: (f.sib.blocks ++ cblocks c)
theorem fill_ptr (f : Fr) (t : BT) : (f.fill t).ptr = some (f.b, 0) := by unfold Fr.fill; cases f.d <;> rfl
theorem fill_rep {w : World} {f : Fr} {t : BT} : BRep w (f.fill t) ↔ TN w f.b f.n f.k f.h (if f.d then f.sib.ptr else t.ptr) (if f.d then t.ptr else f.sib.ptr) ∧ BRep w f.sib ∧ BRep w t := by
  unfold Fr.fill
  cases f.d
  · exact ⟨fun ⟨a, b, c⟩ => ⟨a, c, b⟩, fun ⟨a, c, b⟩ => ⟨a, b, c⟩⟩
  · exact Iff.rfl
theorem plug_rep {w : World} : ∀ {c : List Fr} {t : BT}, BRep w (plug c t) ↔ BRep w t ∧ CRep w c t.ptr
  | [], t => ⟨fun h => ⟨h, trivial⟩, fun h => h.1⟩
  | f :: c, t => by
    show BRep w (plug c (f.fill t)) ↔ _
    rw [plug_rep, fill_rep, fill_ptr]
    exact ⟨fun ⟨⟨a, b, d⟩, e⟩ => ⟨d, a, b, e⟩, fun ⟨d, a, b, e⟩ => ⟨⟨a, b, d⟩, e⟩⟩
theorem plug_ptr : ∀ (c : List Fr) (t : BT), (plug c t).ptr = rootP c t.ptr
  | [], t => rfl
  | f :: c, t => by
    show (plug c (f.fill t)).ptr = _
    rw [plug_ptr, fill_ptr]; rfl
theorem fill_blocks (f : Fr) (t : BT) : (f.fill t).blocks.Perm (f.b :: (f.sib.blocks ++ t.blocks)) := by
  unfold Fr.fill
  cases f.d
  · exact List.Perm.cons _ List.perm_append_comm
  · exact List.Perm.refl _
theorem plug_blocks : ∀ (c : List Fr) (t : BT), (plug c t).blocks.Perm (cblocks c ++ t.blocks)
  | [], t => List.Perm.refl _
  | f :: c, t => by
    show (plug c (f.fill t)).blocks.Perm _
    refine (plug_blocks c (f.fill t)).trans ?_
    refine ((fill_blocks f t).append_left (cblocks c)).trans ?_
    show List.Perm _ (f.b :: (f.sib.blocks ++ cblocks c) ++ t.blocks)
    rw [List.cons_append]
    refine List.perm_middle.trans (List.Perm.cons _ ?_)
    rw [← List.append_assoc]
    exact List.perm_append_comm.append_right _
structure TabC (w : World) (tb : Nat) (c : List Fr) (p : Option (Nat × Nat)) (cnt : Nat) : Prop where
  lt : tb < w.heap.size
  r0 : w.cell? ⟨tb, 0, none⟩ = some (ptrV (rootP c p))
  r1 : w.cell? ⟨tb, 1, none⟩ = some (.pointer none)
  r2 : w.cell? ⟨tb, 2, none⟩ = some (.int .i64 cnt)
  fz : ∀ o, o < 3 → w.frozen? ⟨tb, o, none⟩ = false
  rep : CRep w c p
structure TabR (w : World) (tb : Nat) (T : BT) (cnt : Nat) : Prop where
  tab : TabC w tb [] T.ptr cnt
  rep : BRep w T
  nodup : (tb :: T.blocks).Nodup
theorem tab_plug {w : World} {tb cnt : Nat} {c : List Fr} {t : BT} : TabR w tb (plug c t) cnt ↔ TabC w tb c t.ptr cnt ∧ BRep w t ∧ (tb :: (cblocks c ++ t.blocks)).Nodup := by
  have hp := (plug_blocks c t).cons tb
  constructor
  · rintro ⟨⟨a, b, d, e, f, _⟩, r, n⟩
    obtain ⟨r1, r2⟩ := plug_rep.1 r
    refine ⟨⟨a, ?_, d, e, f, r2⟩, r1, (hp.nodup_iff).1 n⟩
    rw [b]; show some (ptrV (plug c t).ptr) = _; rw [plug_ptr]
  · rintro ⟨⟨a, b, d, e, f, r2⟩, r1, n⟩
    refine ⟨⟨a, ?_, d, e, f, trivial⟩, plug_rep.2 ⟨r1, r2⟩, (hp.nodup_iff).2 n⟩
    rw [b]; show _ = some (ptrV (plug c t).ptr); rw [plug_ptr]

theorem TN.keep {w w' : World} {F : Nat → Nat → Prop} {b n k h : Nat} {pl pr : Option (Nat × Nat)} (t : TN w b n k h pl pr) (c : Chg w w' F) (hF : ∀ x, ¬ F b x) : TN w' b n k h pl pr :=
  ⟨Nat.lt_of_lt_of_le t.lt c.size, (c.cell _ _ t.lt (hF _)).trans t.c0, (c.cell _ _ t.lt (hF _)).trans t.c1, (c.cell _ _ t.lt (hF _)).trans t.c2, (c.cell _ _ t.lt (hF _)).trans t.c3, (c.cell _ _ t.lt (hF _)).trans t.c4, (c.cell _ _ t.lt (hF _)).trans t.c5, (c.cell _ _ t.lt (hF _)).trans t.c6, fun o ho => (c.froz _ _ t.lt).trans (t.fz o ho)⟩
theorem BRep.keep {w w' : World} {F : Nat → Nat → Prop} (c : Chg w w' F) : ∀ {t : BT}, BRep w t → (∀ b ∈ t.blocks, ∀ x, ¬ F b x) → BRep w' t
  | .nil, _, _ => trivial
  | .node b n k h l r, ⟨a, rl, rr⟩, hF => ⟨a.keep c (hF b (by simp [BT.blocks])), BRep.keep c rl (fun x hx => hF x (by simp [BT.blocks, hx])), BRep.keep c rr (fun x hx => hF x (by simp [BT.blocks, hx]))⟩
theorem CRep.keep {w w' : World} {F : Nat → Nat → Prop} (h : Chg w w' F) : ∀ {c : List Fr} {p : Option (Nat × Nat)}, CRep w c p → (∀ b ∈ cblocks c, ∀ x, ¬ F b x) → CRep w' c p
  | [], _, _, _ => trivial
  | f :: c, p, ⟨a, s, r⟩, hF => ⟨a.keep h (hF _ (by simp [cblocks])), BRep.keep h s (fun x hx => hF x (by simp [cblocks, hx])), CRep.keep h r (fun x hx => hF x (by simp [cblocks, hx]))⟩
theorem TabC.keep {w w' : World} {F : Nat → Nat → Prop} {tb cnt : Nat} {c : List Fr} {p : Option (Nat × Nat)} (t : TabC w tb c p cnt) (h : Chg w w' F) (hF : ∀ x, ¬ F tb x) (hC : ∀ b ∈ cblocks c, ∀ x, ¬ F b x) : TabC w' tb c p cnt :=
  ⟨Nat.lt_of_lt_of_le t.lt h.size, (h.cell _ _ t.lt (hF _)).trans t.r0, (h.cell _ _ t.lt (hF _)).trans t.r1, (h.cell _ _ t.lt (hF _)).trans t.r2, fun o ho => (h.froz _ _ t.lt).trans (t.fz o ho), CRep.keep h t.rep hC⟩
theorem TabR.below {w w' : World} {tb cnt : Nat} {T : BT} (t : TabR w tb T cnt) (h : Below w.heap.size w w') : TabR w' tb T cnt :=
  have c := Chg.of_below h (fun _ _ => False)
  ⟨t.tab.keep c (fun _ h => h) (fun _ _ _ h => h), BRep.keep c t.rep (fun _ _ _ h => h), t.nodup⟩
theorem TabC.below {w w' : World} {tb cnt : Nat} {c : List Fr} {p : Option (Nat × Nat)} (t : TabC w tb c p cnt) (h : Below w.heap.size w w') : TabC w' tb c p cnt :=
  t.keep (Chg.of_below h (fun _ _ => False)) (fun _ h => h) (fun _ _ _ h => h)
theorem BRep.below {w w' : World} {t : BT} (r : BRep w t) (h : Below w.heap.size w w') : BRep w' t := BRep.keep (Chg.of_below h (fun _ _ => False)) r (fun _ _ _ h => h)
theorem brep_lt {w : World} : ∀ {t : BT}, BRep w t → ∀ b ∈ t.blocks, b < w.heap.size
  | .nil, _, b, hb => by cases hb
  | .node b n k h l r, ⟨a, rl, rr⟩, x, hx => by
    simp only [BT.blocks, List.mem_cons, List.mem_append] at hx
    rcases hx with rfl | hx | hx
    · exact a.lt
    · exact brep_lt rl x hx
    · exact brep_lt rr x hx
theorem crep_lt {w : World} : ∀ {c : List Fr} {p : Option (Nat × Nat)}, CRep w c p → ∀ b ∈ cblocks c, b < w.heap.size
  | [], _, _, b, hb => by cases hb
  | f :: c, p, ⟨a, s, r⟩, x, hx => by
    simp only [cblocks, List.mem_cons, List.mem_append] at hx
    rcases hx with rfl | hx | hx
    · exact a.lt
    · exact brep_lt s x hx
    · exact crep_lt r x hx
/-- What stands in the place that a way down leads to. -/
theorem TabC.at_slot {w : World} {tb cnt : Nat} {c : List Fr} {p : Option (Nat × Nat)} (t : TabC w tb c p cnt) : slotB tb c < w.heap.size ∧ w.cell? ⟨slotB tb c, slotO c, none⟩ = some (ptrV p) ∧ w.frozen? ⟨slotB tb c, slotO c, none⟩ = false := by
  cases c with
  | nil => exact ⟨t.lt, t.r0, t.fz 0 (by decide)⟩
  | cons f c =>
    obtain ⟨a, _, _⟩ := t.rep
    refine ⟨a.lt, ?_, ?_⟩
    · show w.cell? ⟨f.b, (if f.d then 6 else 5), none⟩ = _
      have h5 := a.c5
      have h6 := a.c6
      cases hd : f.d
      · rw [hd] at h5; exact h5
      · rw [hd] at h6; exact h6
    · show w.frozen? ⟨f.b, (if f.d then 6 else 5), none⟩ = false
      cases f.d
      · exact a.fz 5 (by decide)
      · exact a.fz 6 (by decide)
/-- Another tree is hung into the place. -/
theorem TabC.store {w : World} {tb cnt : Nat} {c : List Fr} {p : Option (Nat × Nat)} (t : TabC w tb c p cnt) (hn : (tb :: cblocks c).Nodup) (p' : Option (Nat × Nat)) :
    TabC (w.setCell ⟨slotB tb c, slotO c, none⟩ (ptrV p')) tb c p' cnt ∧ Chg w (w.setCell ⟨slotB tb c, slotO c, none⟩ (ptrV p')) (fun k _ => k = slotB tb c) := by
  have s0 := chg_set w (slotB tb c) (slotO c) (ptrV p')
  have s : Chg w (w.setCell ⟨slotB tb c, slotO c, none⟩ (ptrV p')) (fun k _ => k = slotB tb c) := ⟨s0.os, s0.tape, s0.output, s0.size, fun k hk hf => s0.block k hk (fun y h => hf y h.1), fun k y hk hf => s0.cell k y hk (fun h => hf h.1), s0.froz⟩
  obtain ⟨hlt, hat, _⟩ := t.at_slot
  have hset := World.cell?_setCell_same w ⟨slotB tb c, slotO c, none⟩ (ptrV p') hat
  have sK := s
  refine ⟨?_, sK⟩
  cases c with
  | nil => exact ⟨Nat.lt_of_lt_of_le t.lt s0.size, hset, (s0.cell _ _ t.lt (fun h => by have : (1 : Nat) = 0 := h.2; omega)).trans t.r1, (s0.cell _ _ t.lt (fun h => by have : (2 : Nat) = 0 := h.2; omega)).trans t.r2, fun o ho => (s0.froz _ _ t.lt).trans (t.fz o ho), trivial⟩
  | cons f c =>
    obtain ⟨a, sb, rc⟩ := t.rep
    rw [List.nodup_cons] at hn
    have htb : tb ≠ f.b := fun e => hn.1 (by rw [e]; simp [cblocks])
    have hn2 := hn.2
    unfold cblocks at hn2
    rw [List.nodup_cons] at hn2
    have hs : ∀ x ∈ f.sib.blocks, x ≠ f.b := fun x hx e => hn2.1 (by rw [← e]; simp [hx])
    have hcb : ∀ x ∈ cblocks c, x ≠ f.b := fun x hx e => hn2.1 (by rw [← e]; simp [hx])
    have e5 := a.c5
    have e6 := a.c6
    cases hd : f.d
    · have eo : slotO (f :: c) = 5 := by show (if f.d then 6 else 5) = 5; rw [hd]; rfl
      rw [eo] at s0 s hset ⊢
      change Chg w (w.setCell ⟨f.b, 5, none⟩ (ptrV p')) (fun k y => k = f.b ∧ y = 5) at s0
      change Chg w (w.setCell ⟨f.b, 5, none⟩ (ptrV p')) (fun k _ => k = f.b) at s
      change (w.setCell ⟨f.b, 5, none⟩ (ptrV p')).cell? ⟨f.b, 5, none⟩ = some (ptrV p') at hset
      change TabC (w.setCell ⟨f.b, 5, none⟩ (ptrV p')) tb (f :: c) p' cnt
      rw [hd] at e5 e6
      refine ⟨Nat.lt_of_lt_of_le t.lt s0.size, (s0.cell _ _ t.lt (fun h => htb h.1)).trans t.r0, (s0.cell _ _ t.lt (fun h => htb h.1)).trans t.r1, (s0.cell _ _ t.lt (fun h => htb h.1)).trans t.r2, fun o ho => (s0.froz _ _ t.lt).trans (t.fz o ho), ?_, BRep.keep s sb (fun x hx _ h => hs x hx h), CRep.keep s rc (fun x hx _ h => hcb x hx h)⟩
      rw [hd]
      exact ⟨Nat.lt_of_lt_of_le a.lt s0.size, (s0.cell _ _ a.lt (fun h => absurd h.2 (by decide))).trans a.c0, (s0.cell _ _ a.lt (fun h => absurd h.2 (by decide))).trans a.c1, (s0.cell _ _ a.lt (fun h => absurd h.2 (by decide))).trans a.c2, (s0.cell _ _ a.lt (fun h => absurd h.2 (by decide))).trans a.c3, (s0.cell _ _ a.lt (fun h => absurd h.2 (by decide))).trans a.c4, hset, (s0.cell _ _ a.lt (fun h => absurd h.2 (by decide))).trans e6, fun o ho => (s0.froz _ _ a.lt).trans (a.fz o ho)⟩
    · have eo : slotO (f :: c) = 6 := by show (if f.d then 6 else 5) = 6; rw [hd]; rfl
      rw [eo] at s0 s hset ⊢
      change Chg w (w.setCell ⟨f.b, 6, none⟩ (ptrV p')) (fun k y => k = f.b ∧ y = 6) at s0
      change Chg w (w.setCell ⟨f.b, 6, none⟩ (ptrV p')) (fun k _ => k = f.b) at s
      change (w.setCell ⟨f.b, 6, none⟩ (ptrV p')).cell? ⟨f.b, 6, none⟩ = some (ptrV p') at hset
      change TabC (w.setCell ⟨f.b, 6, none⟩ (ptrV p')) tb (f :: c) p' cnt
      rw [hd] at e5 e6
      refine ⟨Nat.lt_of_lt_of_le t.lt s0.size, (s0.cell _ _ t.lt (fun h => htb h.1)).trans t.r0, (s0.cell _ _ t.lt (fun h => htb h.1)).trans t.r1, (s0.cell _ _ t.lt (fun h => htb h.1)).trans t.r2, fun o ho => (s0.froz _ _ t.lt).trans (t.fz o ho), ?_, BRep.keep s sb (fun x hx _ h => hs x hx h), CRep.keep s rc (fun x hx _ h => hcb x hx h)⟩
      rw [hd]
      exact ⟨Nat.lt_of_lt_of_le a.lt s0.size, (s0.cell _ _ a.lt (fun h => absurd h.2 (by decide))).trans a.c0, (s0.cell _ _ a.lt (fun h => absurd h.2 (by decide))).trans a.c1, (s0.cell _ _ a.lt (fun h => absurd h.2 (by decide))).trans a.c2, (s0.cell _ _ a.lt (fun h => absurd h.2 (by decide))).trans a.c3, (s0.cell _ _ a.lt (fun h => absurd h.2 (by decide))).trans a.c4, (s0.cell _ _ a.lt (fun h => absurd h.2 (by decide))).trans e5, hset, fun o ho => (s0.froz _ _ a.lt).trans (a.fz o ho)⟩
end Go.Proofs.YtoecmoicaklbaaaDoor

/- Trees of prefixes in a world: stores. -/
set_option linter.unusedVariables false
namespace Go.Proofs.YtoecmoicaklbaaaDoor
open Go Go.RowKit Go.Sort Wc Wk

theorem chg_blk (w : World) (b x : Nat) (u : Value) : Chg w (w.setCell ⟨b, x, none⟩ u) (fun k _ => k = b) := by
  have s0 := chg_set w b x u
  exact ⟨s0.os, s0.tape, s0.output, s0.size, fun k hk hf => s0.block k hk (fun y h => hf y h.1), fun k y hk hf => s0.cell k y hk (fun h => hf h.1), s0.froz⟩
theorem Chg.weak {w w' : World} {F G : Nat → Nat → Prop} (h : Chg w w' F) (hs : ∀ b x, b < w.heap.size → F b x → G b x) : Chg w w' G :=
  ⟨h.os, h.tape, h.output, h.size, fun k hk hf => h.block k hk (fun x hx => hf x (hs k x hk hx)), fun k x hk hf => h.cell k x hk (fun hx => hf (hs k x hk hx)), h.froz⟩
/-- A new node, not yet hung. -/
theorem tn_new (w : World) (n k h : Nat) (E : TypeId) : TN (w.alloc (.cells #[.bool false, .int .u64 (hiOf false n), .int .u64 (loOf n), .int .i64 k, .int .i64 h, .pointer none, .pointer none] E)) w.heap.size n k h none none := by
  refine ⟨by simp, by simp, by simp, by simp, by simp, by simp, by simp [ptrV], by simp [ptrV], fun o _ => by simp⟩
theorem slot_blk (tb : Nat) (c : List Fr) : slotB tb c = tb ∨ slotB tb c ∈ cblocks c := by
  cases c with
  | nil => exact .inl rfl
  | cons f c => exact .inr (by simp [slotB, cblocks])
theorem nodup_parts {tb : Nat} {c : List Fr} {B : List Nat} (h : (tb :: (cblocks c ++ B)).Nodup) : (tb :: cblocks c).Nodup ∧ tb ∉ B ∧ (∀ x ∈ B, x ∉ cblocks c) ∧ B.Nodup := by
  rw [List.nodup_cons, List.mem_append, List.nodup_append] at h
  obtain ⟨h1, h2, h3, h4⟩ := h
  refine ⟨List.nodup_cons.2 ⟨fun h => h1 (.inl h), h2⟩, fun h => h1 (.inr h), fun x hx hc => h4 x hc x hx rfl, h3⟩
theorem nodup_join {tb : Nat} {c : List Fr} {B : List Nat} (h1 : (tb :: cblocks c).Nodup) (h2 : tb ∉ B) (h3 : ∀ x ∈ B, x ∉ cblocks c) (h4 : B.Nodup) : (tb :: (cblocks c ++ B)).Nodup := by
  rw [List.nodup_cons] at h1
  rw [List.nodup_cons, List.mem_append, List.nodup_append]
  exact ⟨fun h => h.elim h1.1 h2, h1.2, h4, fun x hx y hy e => h3 y hy (by rw [← e]; exact hx)⟩
/-- A tree that lies aside is hung into the place. -/
theorem hang {w : World} {tb cnt : Nat} {c : List Fr} {p : Option (Nat × Nat)} {t : BT} (tc : TabC w tb c p cnt) (rt : BRep w t) (hn : (tb :: (cblocks c ++ t.blocks)).Nodup) :
    TabR (w.setCell ⟨slotB tb c, slotO c, none⟩ (ptrV t.ptr)) tb (plug c t) cnt ∧ Chg w (w.setCell ⟨slotB tb c, slotO c, none⟩ (ptrV t.ptr)) (fun k _ => k = slotB tb c) := by
  obtain ⟨n1, n2, n3, n4⟩ := nodup_parts hn
  obtain ⟨s1, s2⟩ := tc.store n1 t.ptr
  refine ⟨tab_plug.2 ⟨s1, BRep.keep s2 rt (fun b hb x e => ?_), hn⟩, s2⟩
  rcases slot_blk tb c with h | h
  · exact n2 (by rw [← h, ← e]; exact hb)
  · exact n3 b hb (by rw [e]; exact h)
/-- The count is set. -/
theorem count_set {w : World} {tb cnt : Nat} {T : BT} (t : TabR w tb T cnt) (cnt' : Nat) : TabR (w.setCell ⟨tb, 2, none⟩ (.int .i64 cnt')) tb T cnt' ∧ Chg w (w.setCell ⟨tb, 2, none⟩ (.int .i64 cnt')) (fun k _ => k = tb) := by
  have s := chg_set w tb 2 (.int .i64 cnt')
  have s2 := chg_blk w tb 2 (.int .i64 cnt')
  obtain ⟨⟨a, b, d, e, f, g⟩, r, n⟩ := t
  refine ⟨⟨⟨Nat.lt_of_lt_of_le a s.size, (s.cell _ _ a (fun h => absurd h.2 (by decide))).trans b, (s.cell _ _ a (fun h => absurd h.2 (by decide))).trans d, World.cell?_setCell_same _ _ _ e, fun o ho => (s.froz _ _ a).trans (f o ho), trivial⟩, BRep.keep s2 r (fun x hx _ e => ?_), n⟩, s2⟩
  rw [List.nodup_cons] at n
  exact n.1 (by rw [← e]; exact hx)
/-- A node's hop is set. -/
theorem hop_set {w : World} {tb cnt : Nat} {c : List Fr} {b n k h : Nat} {l r : BT} (t : TabR w tb (plug c (.node b n k h l r)) cnt) (h' : Nat) :
    TabR (w.setCell ⟨b, 4, none⟩ (.int .i64 h')) tb (plug c (.node b n k h' l r)) cnt ∧ Chg w (w.setCell ⟨b, 4, none⟩ (.int .i64 h')) (fun k _ => k = b) := by
  have s := chg_set w b 4 (.int .i64 h')
  have s2 := chg_blk w b 4 (.int .i64 h')
  obtain ⟨t1, ⟨a, rl, rr⟩, t3⟩ := tab_plug.1 t
  obtain ⟨n1, n2, n3, n4⟩ := nodup_parts t3
  simp only [BT.blocks, List.nodup_cons] at n4
  have hb : b ∈ (BT.node b n k h l r).blocks := by simp [BT.blocks]
  refine ⟨tab_plug.2 ⟨t1.keep s2 (fun _ e => n2 (by rw [e]; exact hb)) (fun x hx _ e => n3 b hb (by rw [← e]; exact hx)), ⟨?_, BRep.keep s2 rl (fun x hx _ e => n4.1 (by rw [← e]; simp [hx])), BRep.keep s2 rr (fun x hx _ e => n4.1 (by rw [← e]; simp [hx]))⟩, t3⟩, s2⟩
  exact ⟨Nat.lt_of_lt_of_le a.lt s.size, (s.cell _ _ a.lt (fun h => absurd h.2 (by decide))).trans a.c0, (s.cell _ _ a.lt (fun h => absurd h.2 (by decide))).trans a.c1, (s.cell _ _ a.lt (fun h => absurd h.2 (by decide))).trans a.c2, (s.cell _ _ a.lt (fun h => absurd h.2 (by decide))).trans a.c3, World.cell?_setCell_same _ _ _ a.c4, (s.cell _ _ a.lt (fun h => absurd h.2 (by decide))).trans a.c5, (s.cell _ _ a.lt (fun h => absurd h.2 (by decide))).trans a.c6, fun o ho => (s.froz _ _ a.lt).trans (a.fz o ho)⟩

/-- A table that reads as a list; its blocks are of F. -/
def Tab (w : World) (tb : Nat) (L : List (Nat × Nat × Nat)) (F : Nat → Prop) : Prop := ∃ T : BT, TabR w tb T L.length ∧ T.wf ∧ T.list = L ∧ ∀ b ∈ tb :: T.blocks, F b
theorem Tab.lt {w : World} {tb : Nat} {L : List (Nat × Nat × Nat)} {F : Nat → Prop} (t : Tab w tb L F) : Tab w tb L (fun b => F b ∧ b < w.heap.size) := by
  obtain ⟨T, a, b, c, d⟩ := t
  refine ⟨T, a, b, c, fun x hx => ⟨d x hx, ?_⟩⟩
  rcases List.mem_cons.1 hx with rfl | hx
  · exact a.tab.lt
  · exact brep_lt a.rep x hx
theorem Tab.weak {w : World} {tb : Nat} {L : List (Nat × Nat × Nat)} {F G : Nat → Prop} (t : Tab w tb L F) (h : ∀ b, F b → G b) : Tab w tb L G := by
  obtain ⟨T, a, b, c, d⟩ := t
  exact ⟨T, a, b, c, fun x hx => h x (d x hx)⟩
theorem Tab.below {w w' : World} {tb : Nat} {L : List (Nat × Nat × Nat)} {F : Nat → Prop} (t : Tab w tb L F) (h : Below w.heap.size w w') : Tab w' tb L F := by
  obtain ⟨T, a, b, c, d⟩ := t
  exact ⟨T, a.below h, b, c, d⟩
theorem Tab.keep {w w' : World} {tb : Nat} {L : List (Nat × Nat × Nat)} {F G : Nat → Prop} (t : Tab w tb L F) (h : Chg w w' (fun k _ => G k)) (hd : ∀ b, F b → ¬ G b) : Tab w' tb L F := by
  obtain ⟨T, a, b, c, d⟩ := t
  have hF : ∀ b ∈ tb :: T.blocks, ∀ x : Nat, ¬ G b := fun x hx _ => hd x (d x hx)
  exact ⟨T, ⟨a.tab.keep h (hF tb List.mem_cons_self) (fun x hx => by cases hx), BRep.keep h a.rep (fun x hx => hF x (List.mem_cons_of_mem _ hx)), a.nodup⟩, b, c, d⟩
end Go.Proofs.YtoecmoicaklbaaaDoor
