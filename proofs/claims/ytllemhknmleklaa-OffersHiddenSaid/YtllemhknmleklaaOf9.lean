
/- An append behind a guard; offers of other prefixes. -/
import Derived.Test.YtllemhknmleklaaOf8
import Derived.Test.YtllemhknmleklaaOf7
set_option linter.unusedVariables false
set_option linter.unusedSimpArgs false
namespace Wk
open Go Go.RowKit Go.Sort
section
variable {P : Program} {ops : Array Oper} {rest : List Oper} {o : Oper} {a : Act} {Q : Exit → Act → World → Prop} {w : World}
theorem wpList_wanted (hw : Region.wanted o (yielded ops a.tmps) = true) (h : ∀ K : Act → World → Prop, (∀ a w, wpList P ops Q rest a w → K a w) → o.wp P a w K Q) : wpList P ops Q (o :: rest) a w :=
  wpList_step fun K hK => by simp only [hw, if_true]; exact h K hK
theorem wpList_append_wtd (hw : Region.wanted o (yielded ops a.tmps) = true) (s x : Operand) (t e : TypeId) (size bytes : Nat) (z : Value)
    (ho : o.op = .call { callee := .builtin .append, args := #[s, x], argTypes := #[t, t] }) (hE : EI P t e size bytes z)
    (B : Nat) (v : Value) (xs : List (List Value)) (hs : a.eval s = v) (hown : Own w B e size v xs)
    (vx : Value) (ys : List (List Value)) (hx : a.eval x = vx) (hys : Sl w size vx ys)
    (h1 : ∀ c ∈ ys, ∀ u ∈ c, u.oneCell' = true) (hbytes : (xs.length + ys.length) * bytes ≤ 140737488355328) (hb1 : 1 ≤ bytes) (hbase : B ≤ w.heap.size)
    (h : ∀ v' w', Own w' B e size v' (xs ++ ys) → Below B w w' → wpList P ops Q rest (a.put o.dst v') w') : wpList P ops Q (o :: rest) a w := by
  refine wpList_wanted hw fun _ hK => ?_
  obtain ⟨v', w', hr, h2, h3⟩ := run_append_rows (P := P) w t o.type e size bytes z hE B v xs hown vx ys hys h1 hbytes hb1 hbase
  unfold Oper.wp execOp
  simp only [ho, resolve, invoke, builtin, Sem.run_bind, Sem.run_pure, Result.andThen_ok, List.map_toArray, List.map_cons, List.map_nil, hs, hx, hr]
  exact hK _ _ (h v' w' h2 (Below.of_grown h3 hbase (fun k hk => (hown.lt k hk).1)))
end
end Wk
namespace Go.Proofs.Ytllemhknmleklaa
open Go.RowKit Go.Sort Wc Wk

theorem run_of_drop (g p n c : Nat) (h1 : p ≤ n) (h2 : n ≤ c) (h3 : c ≤ 9223372036854775807) (hne : c ≠ p) (W : World) : (Instr.slice 79 (.slice (some ⟨g, 0, none⟩) n c) (some (.int .i64 (p : Int))) none none).run Try.prog W = .ok (.slice (some ⟨g, 0 + p * 8, none⟩) (n - p) (c - p)) W := by
  have h4 : p ≤ c := by omega
  have h5 : (0 : Int) ≤ p := by omega
  go_simp
theorem bids_ok (bs : List BidD) (n : Nat) : ∀ o ∈ (bs.take n).map bidO, o.ok := by
  intro o ho
  obtain ⟨b, _, rfl⟩ := List.mem_map.1 ho
  exact bidO_ok b
theorem bids_len (bs : List BidD) (n : Nat) : ((bs.take n).map bidO).length ≤ n := by
  rw [List.length_map, List.length_take]; omega
theorem presN_in (x : Int) : 167772160 ≤ presN x ∧ presN x ≤ 167772671 := by
  have hq : ((x.tdiv 9) % 512).toNat ≤ 511 := by
    have := Int.emod_lt_of_pos (x.tdiv 9) (show (0 : Int) < 512 by decide)
    omega
  have hk := presK_le x
  have hk2 : 24 ≤ presK x := by unfold presK; omega
  unfold presN
  generalize ((x.tdiv 9) % 512).toNat = q at *
  refine ⟨?_, Nat.le_trans (cutN_le _ _ _) (by omega)⟩
  unfold cutN
  have hd : ∀ r, r ≤ 8 → 167772160 / 2 ^ r * 2 ^ r = 167772160 := by decide
  obtain ⟨r, hr, hr2⟩ : ∃ r, 32 - presK x = r ∧ r ≤ 8 := ⟨_, rfl, by omega⟩
  rw [hr]
  have h1 : 167772160 / 2 ^ r * 2 ^ r ≤ (167772160 + q) / 2 ^ r * 2 ^ r := Nat.mul_le_mul_right _ (Nat.div_le_div_right (by omega))
  rw [hd r hr2] at h1
  exact h1
theorem presK_in (x : Int) : 24 ≤ presK x := by unfold presK; omega
def NearP (o : OfD) : Prop := 167772160 ≤ o.n ∧ o.n ≤ 167772671 ∧ 24 ≤ o.k
theorem bids_near (bs : List BidD) (n : Nat) : ∀ o ∈ (bs.take n).map bidO, NearP o := by
  intro o ho
  obtain ⟨b, _, rfl⟩ := List.mem_map.1 ho
  exact ⟨(presN_in _).1, (presN_in _).2, presK_in _⟩
def OfD.up (o : OfD) : OfD := ⟨o.n + 16777216, o.k, o.src, o.peer, o.met, o.hop⟩
theorem up_ok {o : OfD} (h : o.ok) (hn : NearP o) : o.up.ok := by
  obtain ⟨⟨h1, h2, h3⟩, hr⟩ := h
  obtain ⟨n1, n2, n3⟩ := hn
  refine ⟨⟨?_, h2, ?_⟩, hr⟩
  · unfold Fits wd OfD.up at *; simp at *; omega
  · unfold cutN wd at *
    simp only [OfD.up] at *
    simp at h2 h3 ⊢
    obtain ⟨r, hr, hr2⟩ : ∃ r, 32 - o.k = r ∧ r ≤ 8 := ⟨_, rfl, by omega⟩
    rw [hr] at h3 ⊢
    have hd : ∀ r, r ≤ 8 → ∃ m, 16777216 = m * 2 ^ r := by
      intro r hr
      refine ⟨2 ^ (24 - r), ?_⟩
      rw [← Nat.pow_add, show 24 - r + r = 24 by omega]
    obtain ⟨m, hm⟩ := hd r hr2
    rw [hm, Nat.add_mul_div_right _ _ (Nat.two_pow_pos r), Nat.add_mul, h3]
end Go.Proofs.Ytllemhknmleklaa
