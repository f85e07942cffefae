
/- Contracts of package class: plant. -/
import Derived.Test.YtlcacocecdnpnaaCls2
import Derived.StillTailTactics
set_option linter.unusedVariables false
namespace Go.Proofs.Ytlcacocecdnpnaa
open Go.RowKit Go.Sort Wc Wk

/-- A match as plain data (of the family of 32 bits). -/
structure MatchD where
  n : Nat
  k : Nat
  m : Nat
  l : Nat
  cls : Nat
def MatchD.ok (q : MatchD) : Prop := VP false q.n q.k ∧ VP false q.m q.l ∧ 1 ≤ q.cls ∧ q.cls ≤ 999
def matchCells (q : MatchD) : List Value := [.bool false, .int .u64 (hiOf false q.n), .int .u64 (loOf q.n), .int .i64 q.k, .bool false, .int .u64 (hiOf false q.m), .int .u64 (loOf q.m), .int .i64 q.l, .int .i64 q.cls]
theorem matchCells_one (q : MatchD) : ∀ u ∈ matchCells q, u.oneCell' = true := by
  intro u hu
  simp [matchCells] at hu
  rcases hu with rfl | rfl | rfl | rfl | rfl | rfl | rfl | rfl | rfl <;> rfl
theorem eiMatch : EI Try.prog 66 78 9 72 (.agg #[.bool false, .int .u64 0, .int .u64 0, .int .i64 0, .bool false, .int .u64 0, .int .u64 0, .int .i64 0, .int .i64 0]) := ⟨by kernel_rfl, by kernel_rfl, rfl, by decide⟩
theorem Sl.mat {w w' : World} {a : Option Addr} {cap : Nat} {l : List MatchD} (hs : Sl w 9 (.slice a l.length cap) (l.map matchCells)) (hb : Below w.heap.size w w') {i : Nat} {r : MatchD} (hr : l[i]? = some r) :
    ∃ b off, a = some ⟨b, off, none⟩ ∧ b < w.heap.size ∧ w'.cell? ⟨b, off + i * 9, none⟩ = some (.bool false) ∧ w'.cell? ⟨b, off + i * 9 + 1, none⟩ = some (.int .u64 (hiOf false r.n)) ∧ w'.cell? ⟨b, off + i * 9 + 2, none⟩ = some (.int .u64 (loOf r.n)) ∧ w'.cell? ⟨b, off + i * 9 + 3, none⟩ = some (.int .i64 r.k) ∧
      w'.cell? ⟨b, off + i * 9 + 4, none⟩ = some (.bool false) ∧ w'.cell? ⟨b, off + i * 9 + 5, none⟩ = some (.int .u64 (hiOf false r.m)) ∧ w'.cell? ⟨b, off + i * 9 + 6, none⟩ = some (.int .u64 (loOf r.m)) ∧ w'.cell? ⟨b, off + i * 9 + 7, none⟩ = some (.int .i64 r.l) ∧ w'.cell? ⟨b, off + i * 9 + 8, none⟩ = some (.int .i64 r.cls) := by
  obtain ⟨_, a', cap', he, _, _, hcc⟩ := hs
  have he' : a = a' := by
    simp only [Value.slice.injEq] at he
    exact he.1
  subst he'
  obtain ⟨b, off, rfl, hlt, hcell⟩ := hcc (by intro h; rw [List.map_eq_nil_iff] at h; rw [h] at hr; simp at hr)
  have hm := hcell i (matchCells r) (by rw [List.getElem?_map, hr]; rfl)
  have g := fun j u (h : (matchCells r)[j]? = some u) => (hb.cell (p := ⟨b, off + i * 9 + j, none⟩) hlt).trans (hm j u h)
  exact ⟨b, off, rfl, hlt, g 0 _ rfl, g 1 _ rfl, g 2 _ rfl, g 3 _ rfl, g 4 _ rfl, g 5 _ rfl, g 6 _ rfl, g 7 _ rfl, g 8 _ rfl⟩

/-- The sets of a tree in which the first j stand, each at its prefix. -/
def plantH (f : Nat → Nat × Nat) : Nat → Nat → Nat → Nat
  | 0 => fun _ _ => 0
  | j + 1 => putH (plantH f j) (f j).1 (f j).2 j
theorem plantH_lt (f : Nat → Nat × Nat) : ∀ j, ∀ i v, plantH f j i v < 2 ^ j
  | 0, i, v => by simp [plantH]
  | j + 1, i, v => by
    have ih := plantH_lt f j i v
    have h2 : 2 ^ j < 2 ^ (j + 1) := Nat.pow_lt_pow_right (by decide) (by omega)
    unfold plantH putH
    split
    · exact Nat.or_lt_two_pow (by omega) h2
    · omega
def matF (l : List MatchD) (j : Nat) : Nat × Nat := ((l[j]?.map (fun q => (q.n, q.k))).getD (0, 0))
def matT (l : List MatchD) (j : Nat) : Nat × Nat := ((l[j]?.map (fun q => (q.m, q.l))).getD (0, 0))

structure TwoTr (w : World) (B bt : Nat) (l : List MatchD) (j : Nat) (D1 D2 : Nat → Nat → Option (Nat × Nat)) : Prop where
  one : Tr w bt 0 D1 (plantH (matF l) j)
  two : Tr w bt 3 D2 (plantH (matT l) j)
  sep : ∀ b x, Foot D1 b x → ¬ Foot D2 b x
  up1 : ∀ i v b o, D1 i v = some (b, o) → B ≤ b
  up2 : ∀ i v b o, D2 i v = some (b, o) → B ≤ b
theorem tr_foot_lt {w : World} {rb ro : Nat} {D : Nat → Nat → Option (Nat × Nat)} {H : Nat → Nat → Nat} (t : Tr w rb ro D H) {b x : Nat} (h : Foot D b x) : b < w.heap.size := by
  obtain ⟨i, v, o, hd, _, _⟩ := h
  exact (t.node i v b o hd).lt
theorem foot_root {D : Nat → Nat → Option (Nat × Nat)} {b o : Nat} (hD : ∀ i v, D i v = if i = 0 ∧ v = 0 then some (b, o) else none) {k x : Nat} (h : Foot D k x) : k = b ∧ o ≤ x ∧ x < o + 3 := by
  obtain ⟨i, v, o', hd, h1, h2⟩ := h
  rw [hD] at hd
  split at hd
  · cases hd; exact ⟨rfl, h1, h2⟩
  · cases hd
theorem tr_new {w : World} {b o : Nat} (hn : NodeC w b o 0 none none) : Tr w b o (fun i v => if i = 0 ∧ v = 0 then some (b, o) else none) (fun _ _ => 0) := by
  refine ⟨rfl, fun i v b' o' h => ?_, fun i v j u b1 o1 b2 o2 h1 h2 hne => ?_, fun _ _ _ => rfl, fun i u h => ?_⟩
  · split at h
    · rename_i hx
      cases h
      rw [if_neg (by omega), if_neg (by omega)]
      exact hn
    · cases h
  · split at h1
    · split at h2
      · rename_i a b
        exact absurd ⟨by omega, by omega⟩ hne
      · cases h2
    · cases h1
  · rw [if_neg (by omega)]
/-- A put into the first of two trees. -/
theorem TwoTr.put1 {w w' : World} {B bt : Nat} {l : List MatchD} {j : Nat} {D1 D2 D' : Nat → Nat → Option (Nat × Nat)} (t : TwoTr w B bt l j D1 D2) {H : Nat → Nat → Nat} (h1 : Tr w' bt 0 D' H) (h2 : Chg w w' (Foot D1)) (h3 : Ext w D1 D') (hB : B ≤ w.heap.size) :
    Tr w' bt 3 D2 (plantH (matT l) j) ∧ (∀ b x, Foot D' b x → ¬ Foot D2 b x) ∧ (∀ i v b o, D' i v = some (b, o) → B ≤ b) := by
  refine ⟨t.two.keep h2 (fun b x h h' => t.sep b x h' h), fun b x hf hf2 => ?_, fun i v b o hd => ?_⟩
  · exact t.sep b x (h3.foot (tr_foot_lt t.two hf2) hf) hf2
  · rcases h3.new i v b o hd with h | h
    · exact t.up1 i v b o h
    · omega
end Go.Proofs.Ytlcacocecdnpnaa
