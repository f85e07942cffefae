
/- Tables as bytes: plain; the sum of bytes; a byte of an address. -/
import Derived.Test.YteadfobfenopkaaMkA
import Derived.Test.YteadfobfenopkaaAp
import Derived.Test.YteadfobfenopkaaLk
set_option linter.unusedVariables false
set_option linter.unusedSimpArgs false
namespace Go.Proofs.Yteadfobfenopkaa
open Go Go.RowKit Go.Sort Wc Wk

def byteCells (n : Nat) : List Value := [.int .u8 n]
theorem byteCells_one (n : Nat) : ∀ u ∈ byteCells n, u.oneCell' = true := by
  intro u hu
  simp [byteCells] at hu
  subst hu
  rfl
theorem eiByte : EI Try.prog 64 5 1 1 (.int .u8 0) := ⟨by kernel_rfl, by kernel_rfl, rfl, by decide⟩
theorem Sl.byte {w w' : World} {a : Option Addr} {n cap : Nat} {xs : List Nat} (hs : Sl w 1 (.slice a n cap) (xs.map byteCells)) (hb : Below w.heap.size w w') {i : Nat} {r : Nat} (hr : xs[i]? = some r) :
    ∃ b off, a = some ⟨b, off, none⟩ ∧ b < w.heap.size ∧ w'.cell? ⟨b, off + i, none⟩ = some (.int .u8 r) := by
  obtain ⟨b, off, ha, hlt, hc⟩ := Sl.at hs (i := i) (c := byteCells r) (by rw [List.getElem?_map, hr]; rfl)
  have g := fun j u (h : (byteCells r)[j]? = some u) => (hb.cell (p := ⟨b, off + i * 1 + j, none⟩) hlt).trans (hc j u h)
  refine ⟨b, off, ha, hlt, ?_⟩
  have := g 0 _ rfl
  rw [Nat.mul_one, Nat.add_zero] at this
  exact this
def sstep (p : Nat × Nat) (x : Nat) : Nat × Nat := ((p.1 + x) % 65521, (p.2 + (p.1 + x) % 65521) % 65521)
def sumS (l : List Nat) : Nat × Nat := l.foldl sstep (1, 0)
theorem sumS_snoc (l : List Nat) (x : Nat) : sumS (l ++ [x]) = sstep (sumS l) x := by unfold sumS; rw [List.foldl_append]; rfl
theorem sumS_lt (l : List Nat) : (sumS l).1 < 65521 ∧ (sumS l).2 < 65521 := by
  suffices g : ∀ (l : List Nat) (p : Nat × Nat), p.1 < 65521 ∧ p.2 < 65521 → (l.foldl sstep p).1 < 65521 ∧ (l.foldl sstep p).2 < 65521 from g l (1, 0) (by decide)
  intro l
  induction l with
  | nil => intro p h; exact h
  | cons x l ih => intro p h; exact ih _ ⟨Nat.mod_lt _ (by decide), Nat.mod_lt _ (by decide)⟩
def sumV (l : List Nat) : Nat := (sumS l).2 * 65536 + (sumS l).1
theorem sumV_lt (l : List Nat) : sumV l < 4294967296 := by
  have := sumS_lt l
  unfold sumV
  omega
theorem or_u32 (a b : Nat) (ha : a < 65536) (hb : b < 65536) : bits .or .u32 ((a : Int) * 65536) (b : Int) = ((a * 65536 + b : Nat) : Int) := by
  have e : (a : Int) * 65536 = ((a * 65536 : Nat) : Int) := by omega
  have h0 : a * 65536 ||| b = a * 65536 + b := by
    have := Nat.shiftLeft_add_eq_or_of_lt (i := 16) (b := b) (by omega) a
    rw [Nat.shiftLeft_eq] at this
    exact this.symm
  have h1 : (BitVec.ofInt 32 ((a * 65536 : Nat) : Int)).toNat = a * 65536 := by
    rw [BitVec.ofInt_natCast, BitVec.toNat_ofNat]; exact Nat.mod_eq_of_lt (by omega)
  have h2 : (BitVec.ofInt 32 (b : Int)).toNat = b := by
    rw [BitVec.ofInt_natCast, BitVec.toNat_ofNat]; exact Nat.mod_eq_of_lt (by omega)
  rw [e]
  show IntKind.u32.wrap ((BitVec.ofInt 32 ((a * 65536 : Nat) : Int) ||| BitVec.ofInt 32 (b : Int)).toNat : Int) = _
  rw [BitVec.toNat_or, h1, h2, h0, IntKind.wrap_u32]
  omega

set_option maxRecDepth 100000 in
set_option maxHeartbeats 2000000 in
theorem sum_any (a : Option Addr) (cap n : Nat) (l : List Nat) (w : World) (hn : n = l.length) (hs : Sl w 1 (.slice a n cap) (l.map byteCells)) (hl : ∀ x ∈ l, x < 256) :
    Calls Try.prog 52 #[.slice a n cap] w fun e w' => e = .returned (.int .u32 (sumV l)) ∧ w = w' := by
  have HS := Lib.hid hs
  have HN := Lib.hid hn
  have HL := Lib.hid hl
  have h1 := hs.lens.2.1
  have h2 := hs.lens.2.2
  clear hs hn hl
  go_enter Try.func52, Try.ntmps52
  go_wp2_with fail
  go_loopw [3, 4, 9] (fun av bv i wr => ∃ m : Nat, m ≤ n ∧ i = .int .i64 m ∧ av = .int .u32 ((sumS (l.take m)).1 : Nat) ∧ bv = .int .u32 ((sumS (l.take m)).2 : Nat) ∧ wr = w) (fun _ _ i _ => n - (intOf i).toNat)
  case atStart => exact ⟨0, Nat.zero_le _, rfl, rfl, rfl, rfl⟩
  case round =>
    obtain ⟨m, hm, rfl, rfl, rfl, rfl⟩ := hrel
    by_cases hlt : m < n
    · obtain ⟨x, hx⟩ : ∃ x, l[m]? = some x := ⟨_, List.getElem?_eq_getElem (by have := HN.out; omega)⟩
      have hx256 := HL.out x (List.mem_of_getElem? hx)
      obtain ⟨b, off, rfl, hb, c0⟩ := Sl.byte HS.out (Below.refl _ _) hx
      obtain ⟨s1, s2⟩ := sumS_lt (l.take m)
      have HT := Lib.hid (show sumS (l.take (m + 1)) = sstep (sumS (l.take m)) x by rw [List.take_add_one, hx]; exact sumS_snoc _ _)
      obtain ⟨p, hp⟩ : ∃ p, p = sumS (l.take m) := ⟨_, rfl⟩
      rw [← hp] at s1 s2 HT ⊢
      obtain ⟨p1, p2⟩ := p
      dsimp only at s1 s2 ⊢
      unfold sstep at HT
      dsimp only at HT
      clear hx hp
      go_wp2_with fail
      go_roundw
      case rel => exact ⟨m + 1, by omega, by go_num, by rw [HT.out]; congr 1, by rw [HT.out]; congr 1, trivial⟩
      case measure => simp [intOf]; omega
    · obtain rfl : m = n := by omega
      have e1 : l.take m = l := List.take_of_length_le (by have := HN.out; omega)
      rw [e1]
      obtain ⟨s1, s2⟩ := sumS_lt l
      have HV := Lib.hid (show sumV l = (sumS l).2 * 65536 + (sumS l).1 from rfl)
      generalize (sumS l).1 = p1 at *
      generalize (sumS l).2 = p2 at *
      have eor := or_u32 p2 p1 (by omega) (by omega)
      clear e1
      go_wp2_with fail
      go_returns
      exact ⟨by rw [HV.out]; rfl, rfl⟩
/-- Sum. -/
theorem isum_any (a : Option Addr) (cap n : Nat) (l : List Nat) (w : World) (hn : n = l.length) (hs : Sl w 1 (.slice a n cap) (l.map byteCells)) (hl : ∀ x ∈ l, x < 256) (h3 : n ≤ 3600) :
    Calls Try.prog 32 #[.slice a n cap] w fun e w' => e = .returned (.tuple #[.int .i64 (sumV l), .int .i64 0]) ∧ w = w' := by
  have P := Lib.hid (sum_any a cap n l w hn hs hl)
  have hv := sumV_lt l
  clear hs hn hl
  generalize sumV l = V at *
  have ewc : wrap64 (V : Int) = V := wrap64_in (by omega) (by omega)
  go_enter Try.func32, Try.ntmps32
  go_wp2_with fail
  refine P.out.mono ?_
  rintro e w' ⟨rfl, rfl⟩
  go_wp2_with fail
  go_returns
  exact ⟨rfl, rfl⟩
end Go.Proofs.Yteadfobfenopkaa
