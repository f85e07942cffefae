
/- Offers: structs as keys of maps. -/
import Derived.Test.YtllemhknmleklaaMr
import Derived.Test.YtllemhknmleklaaPre4
import Derived.DeepKeys4
set_option linter.unusedVariables false
set_option linter.unusedSimpArgs false
namespace Go.Proofs.Ytllemhknmleklaa
open Go.RowKit Go.Sort Wc Wk Go.WideMaps

theorem laidOutK : laidOutB Try.prog = true := by kernel_rfl
theorem rowKey : (222 : TypeId) < Try.prog.types.size := of_decide_eq_true (by kernel_rfl)
theorem rowPfx : (29 : TypeId) < Try.prog.types.size := of_decide_eq_true (by kernel_rfl)
theorem typKey : Try.prog.keyTypeAt 6 222 = true := by kernel_rfl
theorem typPfx : Try.prog.keyTypeAt 6 29 = true := by kernel_rfl
theorem keyedKey : Maps.Keyed Try.prog 222 := Maps.Keyed.of_law (deep_law_laid laidOutK (m := 6) (by decide) rowKey typKey (by rw [Try.underlying222]))
theorem keyedPfx : Maps.Keyed Try.prog 29 := Maps.Keyed.of_law (deep_law_laid laidOutK (m := 6) (by decide) rowPfx typPfx (by rw [Try.underlying29]))

theorem typesSize : ∃ m, Try.prog.types.size = m + 4 := ⟨Try.prog.types.size - 4, (Nat.sub_add_cancel (of_decide_eq_true (by kernel_rfl))).symm⟩
theorem cellsAddr : Try.prog.cellsOf 27 = 3 := by kernel_rfl
theorem cellsPfx : Try.prog.cellsOf 29 = 4 := by kernel_rfl
theorem cellsKey : Try.prog.cellsOf 222 = 6 := by kernel_rfl
theorem cellsInt : Try.prog.cellsOf 3 = 1 := by kernel_rfl
theorem lits_int (m : Nat) (x : Int) (h : (Lit.int .i64 x).wf = true) : Try.prog.keyLits (m + 1) 3 [.int .i64 x] = some [.int .i64 x] := by
  unfold Program.keyLits
  simp only [Try.underlying3]
  simp [h]
theorem lits_u64 (m : Nat) (x : Int) (h : (Lit.int .u64 x).wf = true) : Try.prog.keyLits (m + 1) 25 [.int .u64 x] = some [.int .u64 x] := by
  unfold Program.keyLits
  simp only [Try.underlying25]
  simp [h]
theorem lits_bool (m : Nat) (x : Bool) : Try.prog.keyLits (m + 1) 4 [.bool x] = some [.bool x] := by
  unfold Program.keyLits
  simp only [Try.underlying4]
theorem cellsU : Try.prog.cellsOf 25 = 1 := by kernel_rfl
theorem cellsB : Try.prog.cellsOf 4 = 1 := by kernel_rfl
theorem lits_addr (m : Nat) (six : Bool) (hi lo : Int) (h1 : (Lit.int .u64 hi).wf = true) (h2 : (Lit.int .u64 lo).wf = true) :
    Try.prog.keyLits (m + 2) 27 [.bool six, .int .u64 hi, .int .u64 lo] = some [.bool six, .int .u64 hi, .int .u64 lo] := by
  unfold Program.keyLits
  simp only [Try.underlying27]
  rw [if_pos ⟨by rw [cellsAddr]; rfl, by kernel_rfl⟩]
  simp only [List.mapM_cons, List.mapM_nil, cellsU, cellsB, List.drop, List.take]
  simp [lits_u64 m _ h1, lits_u64 m _ h2, lits_bool]
theorem lits_pfx (m : Nat) (six : Bool) (hi lo k : Int) (h1 : (Lit.int .u64 hi).wf = true) (h2 : (Lit.int .u64 lo).wf = true) (h3 : (Lit.int .i64 k).wf = true) :
    Try.prog.keyLits (m + 3) 29 [.bool six, .int .u64 hi, .int .u64 lo, .int .i64 k] = some [.bool six, .int .u64 hi, .int .u64 lo, .int .i64 k] := by
  unfold Program.keyLits
  simp only [Try.underlying29]
  rw [if_pos ⟨by rw [cellsPfx]; rfl, by kernel_rfl⟩]
  simp only [List.mapM_cons, List.mapM_nil, cellsAddr, cellsInt, List.drop, List.take]
  simp [lits_addr m six hi lo h1 h2, lits_int (m + 1) _ h3]
theorem lits_key (m : Nat) (six : Bool) (hi lo k s p : Int) (h1 : (Lit.int .u64 hi).wf = true) (h2 : (Lit.int .u64 lo).wf = true) (h3 : (Lit.int .i64 k).wf = true) (h4 : (Lit.int .i64 s).wf = true) (h5 : (Lit.int .i64 p).wf = true) :
    Try.prog.keyLits (m + 4) 222 [.bool six, .int .u64 hi, .int .u64 lo, .int .i64 k, .int .i64 s, .int .i64 p] = some [.bool six, .int .u64 hi, .int .u64 lo, .int .i64 k, .int .i64 s, .int .i64 p] := by
  unfold Program.keyLits
  simp only [Try.underlying222]
  rw [if_pos ⟨by rw [cellsKey]; rfl, by kernel_rfl⟩]
  simp only [List.mapM_cons, List.mapM_nil, cellsPfx, cellsInt, List.drop, List.take]
  simp [lits_pfx m six hi lo k h1 h2 h3, lits_int (m + 2) _ h4, lits_int (m + 2) _ h5]
theorem ktKey : Try.prog.keyType 222 = true := by kernel_rfl
theorem ktPfx : Try.prog.keyType 29 = true := by kernel_rfl
theorem keyOf_key {six : Bool} {hi lo k s p : Int} (h1 : (Lit.int .u64 hi).wf = true) (h2 : (Lit.int .u64 lo).wf = true) (h3 : (Lit.int .i64 k).wf = true) (h4 : (Lit.int .i64 s).wf = true) (h5 : (Lit.int .i64 p).wf = true) :
    keyOf Try.prog 222 (.agg #[.bool six, .int .u64 hi, .int .u64 lo, .int .i64 k, .int .i64 s, .int .i64 p]) = some (.string (keyBytes [.bool six, .int .u64 hi, .int .u64 lo, .int .i64 k, .int .i64 s, .int .i64 p])) := by
  obtain ⟨m, hm⟩ := typesSize
  unfold keyOf
  simp only [Try.underlying222]
  rw [if_pos (by simp [ktKey, Value.formed, Try.underlying222, cellsKey]), hm]
  have := lits_key (m + 1) six hi lo k s p h1 h2 h3 h4 h5
  rw [show m + 1 + 4 = m + 4 + 1 by omega] at this
  simp only [Value.cells]
  rw [this]; rfl
theorem keyOf_pfx {six : Bool} {hi lo k : Int} (h1 : (Lit.int .u64 hi).wf = true) (h2 : (Lit.int .u64 lo).wf = true) (h3 : (Lit.int .i64 k).wf = true) :
    keyOf Try.prog 29 (.agg #[.bool six, .int .u64 hi, .int .u64 lo, .int .i64 k]) = some (.string (keyBytes [.bool six, .int .u64 hi, .int .u64 lo, .int .i64 k])) := by
  obtain ⟨m, hm⟩ := typesSize
  unfold keyOf
  simp only [Try.underlying29]
  rw [if_pos (by simp [ktPfx, Value.formed, Try.underlying29, cellsPfx]), hm]
  have := lits_pfx (m + 2) six hi lo k h1 h2 h3
  rw [show m + 2 + 3 = m + 4 + 1 by omega] at this
  simp only [Value.cells]
  rw [this]; rfl

/-- An offer. -/
structure OfD where
  n : Nat
  k : Nat
  src : Nat
  peer : Nat
  met : Nat
  hop : Nat
def OfD.ok (o : OfD) : Prop := VP false o.n o.k ∧ 1 ≤ o.src ∧ o.src ≤ 4 ∧ o.peer ≤ 999 ∧ o.met ≤ 999 ∧ 1 ≤ o.hop ∧ o.hop ≤ 999
def ofCells (o : OfD) : List Value := [.bool false, .int .u64 (hiOf false o.n), .int .u64 (loOf o.n), .int .i64 o.k, .int .i64 o.src, .int .i64 o.peer, .int .i64 o.met, .int .i64 o.hop]
theorem ofCells_one (o : OfD) : ∀ u ∈ ofCells o, u.oneCell' = true := by
  intro u hu
  simp [ofCells] at hu
  rcases hu with rfl | rfl | rfl | rfl | rfl | rfl | rfl | rfl <;> rfl
theorem eiOf : EI Try.prog 79 84 8 64 (.agg #[.bool false, .int .u64 0, .int .u64 0, .int .i64 0, .int .i64 0, .int .i64 0, .int .i64 0, .int .i64 0]) := ⟨by kernel_rfl, by kernel_rfl, rfl, by decide⟩
/-- Its key: who offers what. -/
def OfD.kl (o : OfD) : Lit := .string (keyBytes [.bool false, .int .u64 (hiOf false o.n), .int .u64 (loOf o.n), .int .i64 o.k, .int .i64 o.src, .int .i64 o.peer])
/-- Its prefix as a key. -/
def OfD.pl (o : OfD) : Lit := .string (keyBytes [.bool false, .int .u64 (hiOf false o.n), .int .u64 (loOf o.n), .int .i64 o.k])
theorem wf_nat {x : Nat} (h : x ≤ 999) : (Lit.int .i64 (x : Int)).wf = true := by
  simp [Lit.wf, IntKind.min, IntKind.max, IntKind.bits, IntKind.signed]; omega
theorem wf_lo {n : Nat} (h : Fits false n) : (Lit.int .u64 (loOf n)).wf = true := by
  rw [loOf_false h]
  unfold Fits wd at h
  simp [Lit.wf, IntKind.min, IntKind.max, IntKind.bits, IntKind.signed] at *; omega
theorem wf_hi (n : Nat) : (Lit.int .u64 (hiOf false n)).wf = true := by
  rw [hiOf_false]; rfl
theorem OfD.ok.key {o : OfD} (h : o.ok) : keyOf Try.prog 222 (.agg #[.bool false, .int .u64 (hiOf false o.n), .int .u64 (loOf o.n), .int .i64 o.k, .int .i64 o.src, .int .i64 o.peer]) = some o.kl := by
  obtain ⟨⟨h1, h2, _⟩, h3, h4, h5, _⟩ := h
  unfold wd at h2
  simp at h2
  exact keyOf_key (wf_hi _) (wf_lo h1) (wf_nat (by omega)) (wf_nat (by omega)) (wf_nat (by omega))
theorem OfD.ok.pfx {o : OfD} (h : o.ok) : keyOf Try.prog 29 (.agg #[.bool false, .int .u64 (hiOf false o.n), .int .u64 (loOf o.n), .int .i64 o.k]) = some o.pl := by
  obtain ⟨⟨h1, h2, _⟩, _⟩ := h
  unfold wd at h2
  simp at h2
  exact keyOf_pfx (wf_hi _) (wf_lo h1) (wf_nat (by omega))
theorem OfD.ok.kl_inj {o p : OfD} (h : o.ok) (g : p.ok) : o.kl = p.kl ↔ o.n = p.n ∧ o.k = p.k ∧ o.src = p.src ∧ o.peer = p.peer := by
  constructor
  · intro e
    have := keyedKey.inj h.key (by rw [e]; exact g.key)
    simp at this
    obtain ⟨_, a, b, c, d⟩ := this
    rw [loOf_false h.1.1, loOf_false g.1.1] at a
    omega
  · rintro ⟨a, b, c, d⟩
    unfold OfD.kl
    rw [a, b, c, d]
theorem OfD.ok.pl_inj {o p : OfD} (h : o.ok) (g : p.ok) : o.pl = p.pl ↔ o.n = p.n ∧ o.k = p.k := by
  constructor
  · intro e
    have := keyedPfx.inj h.pfx (by rw [e]; exact g.pfx)
    simp at this
    obtain ⟨_, a, b⟩ := this
    rw [loOf_false h.1.1, loOf_false g.1.1] at a
    omega
  · rintro ⟨a, b⟩
    unfold OfD.pl
    rw [a, b]
end Go.Proofs.Ytllemhknmleklaa
