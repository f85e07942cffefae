
/- Shares: the closures of parts. -/
import Derived.Test.YticfcigkldkhmaaSh3
import Derived.Maps.AppendAt
import Derived.Deep.AppendLies
set_option linter.unusedVariables false
set_option linter.unusedSimpArgs false
namespace Go.Proofs.Yticfcigkldkhmaa
open Go Go.RowKit Go.Sort Wc Wk

/-- What stands in block g aside, all stays. -/
theorem grown_of_below {w w' : World} (h : Below w.heap.size w w') (row : Option Nat) : w.grownBy w' row := ⟨h.os, h.tape, h.output, h.size, fun k hk _ => h.block k hk⟩
theorem grown_set (w : World) (g i : Nat) (u : Value) : w.grownBy (w.setCell ⟨g, i, none⟩ u) (some g) :=
  ⟨rfl, rfl, rfl, by simp [World.setCell], fun k hk hne => by
    simp only [World.setCell]
    rw [Array.getElem?_modify, if_neg (fun e => hne (by rw [e]))]⟩
theorem grown_refl (w : World) (row : Option Nat) : w.grownBy w row := ⟨rfl, rfl, rfl, Nat.le_refl _, fun _ _ _ => rfl⟩
theorem grown_cell {w w' : World} {g b o : Nat} (h : w.grownBy w' (some g)) (hb : b < w.heap.size) (hne : b ≠ g) : w'.cell? ⟨b, o, none⟩ = w.cell? ⟨b, o, none⟩ := h.cell_far ⟨b, o, none⟩ hb (fun e => hne (by cases e; rfl))
theorem Sl.grown {w w' : World} {g sz : Nat} {a : Option Addr} {n cap : Nat} {xs : List (List Value)} (h : Sl w sz (.slice a n cap) xs) (hg : w.grownBy w' (some g)) (ha : ∀ x, a = some x → x.block ≠ g) : Sl w' sz (.slice a n cap) xs := by
  obtain ⟨hl, a', cap', he, h1, h2, h3⟩ := h
  simp only [Value.slice.injEq] at he
  obtain ⟨rfl, rfl, rfl⟩ := he
  refine ⟨hl, a, cap, rfl, h1, h2, fun hne => ?_⟩
  obtain ⟨b, off, rfl, hlt, hc⟩ := h3 hne
  exact ⟨b, off, rfl, Nat.lt_of_lt_of_le hlt hg.size, fun i c hi j u hu => (grown_cell hg hlt (ha ⟨b, off, none⟩ rfl)).trans (hc i c hi j u hu)⟩

/-- What the closures of parts read; g: the block that is being sorted. -/
structure PW (w : World) (g pm pl pa : Nat) (a : Option Addr) (cap n : Nat) (l : List (Nat × Nat)) (many : Nat) : Prop where
  lm : pm < w.heap.size
  ll : pl < w.heap.size
  la : pa < w.heap.size
  nm : pm ≠ g
  nl : pl ≠ g
  na : pa ≠ g
  cm : w.cell? ⟨pm, 0, none⟩ = some (.int .i64 many)
  cl : w.cell? ⟨pl, 0, none⟩ = some (.slice a n cap)
  ca : w.cell? ⟨pa, 0, none⟩ = some (.int .i64 ((l.map (·.2)).sum : Nat))
  sl : Sl w 2 (.slice a n cap) (l.map shCells)
  far : ∀ x, a = some x → x.block ≠ g
theorem PW.kept {w w' : World} {g pm pl pa : Nat} {a : Option Addr} {cap n : Nat} {l : List (Nat × Nat)} {many : Nat} (h : PW w g pm pl pa a cap n l many) (hg : w.grownBy w' (some g)) : PW w' g pm pl pa a cap n l many :=
  ⟨Nat.lt_of_lt_of_le h.lm hg.size, Nat.lt_of_lt_of_le h.ll hg.size, Nat.lt_of_lt_of_le h.la hg.size, h.nm, h.nl, h.na, (grown_cell hg h.lm h.nm).trans h.cm, (grown_cell hg h.ll h.nl).trans h.cl, (grown_cell hg h.la h.na).trans h.ca, Sl.grown h.sl hg h.far, h.far⟩

theorem sum_wt {l : List (Nat × Nat)} (h : ∀ x ∈ l, 1 ≤ x.2 ∧ x.2 ≤ 20) : l.length ≤ (l.map (·.2)).sum ∧ (l.map (·.2)).sum ≤ 20 * l.length := by
  induction l with
  | nil => simp
  | cons x l ih =>
    have ih := ih (fun y hy => h y (by simp [hy]))
    have hx := h x (by simp)
    simp only [List.map_cons, List.sum_cons, List.length_cons]
    omega


set_option maxHeartbeats 1000000 in
theorem part1_any (w : World) (g pm pl pa : Nat) (a : Option Addr) (cap n : Nat) (l : List (Nat × Nat)) (many i : Nat) (hn : n = l.length) (hok : ShOk l) (hmany : many ≤ 64) (hi : i < n) (hw : PW w g pm pl pa a cap n l many) :
    Calls Try.prog 84 #[.int .i64 i, .pointer (some ⟨pm, 0, none⟩), .pointer (some ⟨pl, 0, none⟩), .pointer (some ⟨pa, 0, none⟩)] w fun e w' => e = .returned (.int .i64 (awayF (l.map (·.2)) many i : Nat)) ∧ Below w.heap.size w w' := by
  have HN := Lib.hid hn
  have HOK := Lib.hid hok
  have hss := sum_wt hok.wt
  have hlen := hok.len
  have hone := hok.one
  have h1 := hw.sl.lens.2.1
  have h2 := hw.sl.lens.2.2
  obtain ⟨x, hx⟩ : ∃ x, l[i]? = some x := ⟨_, List.getElem?_eq_getElem (by omega)⟩
  obtain ⟨b, off, rfl, hbl, d0, d1⟩ := Sl.share hw.sl (Below.refl _ _) hx
  have hwx := hok.wt x (List.mem_of_getElem? hx)
  have cm := hw.cm
  have cl := hw.cl
  have ca := hw.ca
  have e : awayF (l.map (·.2)) many i = many * x.2 % (l.map (·.2)).sum := by
    unfold awayF
    rw [List.getD_eq_getElem?_getD, List.getElem?_map, hx]
    rfl
  rw [e]
  have s1 : 1 ≤ (l.map (·.2)).sum := by omega
  have s2 : (l.map (·.2)).sum ≤ 320 := by omega
  generalize (l.map (·.2)).sum = s at *
  obtain ⟨p, hp⟩ : ∃ p, p = many * x.2 := ⟨_, rfl⟩
  have hp2 : p ≤ 1280 := by rw [hp]; exact Nat.mul_le_mul hmany hwx.2
  have HP := Lib.hid hp
  have em : IntKind.i64.wrap ((many : Int) * (x.2 : Int)) = (p : Int) := by rw [← Int.natCast_mul, ← hp, IntKind.wrap_i64]; omega
  rw [← hp]
  have hs0 : (s : Int) ≠ 0 := by omega
  have hs0b : ((s : Int) == 0) = false := by rw [beq_eq_false_iff_ne]; exact hs0
  have et : IntKind.i64.wrap ((p : Int).tmod (s : Int)) = ((p % s : Nat) : Int) := by
    rw [← Int.ofNat_tmod, IntKind.wrap_i64]
    have : p % s < s := Nat.mod_lt _ (by omega)
    omega
  clear hn hok hw hx e hss hp hlen hone
  go_enter Try.func84, Try.ntmps84
  go_wp2_with fail
  go_big_region
  all_goals go_wp2_with fail
  all_goals (go_returns; exact ⟨by simp, by (repeat' (first | (with_reducible exact Below.refl _ _) | (with_reducible assumption) | (with_reducible refine Below.alloc ?_ ?_ _) | (with_reducible refine Below.drew ?_) | (with_reducible refine Below.stepG ?_ (by assumption) ?_) | (with_reducible refine Below.setCell ?_ ?_ _) | omega | (dsimp only; omega) | (simp; done) | (simp; omega)))⟩)


set_option maxHeartbeats 1000000 in
theorem part2_any (w : World) (g pm pl pa pw : Nat) (a : Option Addr) (cap n : Nat) (l : List (Nat × Nat)) (many x y : Nat) (hn : n = l.length) (hok : ShOk l) (hmany : many ≤ 64) (hx : x < n) (hy : y < n) (hw : PW w g pm pl pa a cap n l many)
    (lw : pw < w.heap.size) (cw : w.cell? ⟨pw, 0, none⟩ = some (.func (.func 84) #[] #[.pointer (some ⟨pm, 0, none⟩), .pointer (some ⟨pl, 0, none⟩), .pointer (some ⟨pa, 0, none⟩)])) :
    Calls Try.prog 86 #[.int .i64 x, .int .i64 y, .pointer (some ⟨pw, 0, none⟩)] w fun e w' => e = .returned (.int .i64 (cmpI (awayF (l.map (·.2)) many y : Nat) (awayF (l.map (·.2)) many x : Nat))) ∧ Below w.heap.size w w' := by
  have P1 := Lib.hid (fun d os => part1_any (grow (redrawn w d) os) g pm pl pa a cap n l many x hn hok hmany hx (hw.kept (grown_of_below (below_regrown w d os) _)))
  have P2 := Lib.hid (fun d os => part1_any (grow (redrawn w d) os) g pm pl pa a cap n l many y hn hok hmany hy (hw.kept (grown_of_below (below_regrown w d os) _)))
  have C := Lib.hid (fun x y w => compare_int x y w)
  clear hn hok hmany hx hy hw
  generalize awayF (l.map (·.2)) many x = ax at *
  generalize awayF (l.map (·.2)) many y = ay at *
  go_enter Try.func86, Try.ntmps86
  go_wp2_with fail
  refine wp_region_qb (by kernel_rfl) (by kernel_rfl) (fun kq => ?_)
  have T : True := trivial
  repeat (first | go_big_quiet_step (first | (with_reducible exact Calls.regrown_of (P1.out _ _)) | (with_reducible exact Calls.regrown_of (P2.out _ _)) | (with_reducible exact Calls.regrown_same (C.out _ _ _))) | quiet_step (first | (with_reducible exact Calls.regrown_of (P1.out _ _)) | (with_reducible exact Calls.regrown_of (P2.out _ _)) | (with_reducible exact Calls.regrown_same (C.out _ _ _))))
  clear kq
  refine wpQuiet_nil ?_; intro w5 hb5; (repeat (with_reducible (replace hb5 := Below.undrew hb5))); obtain ⟨hc5, hf5⟩ := bcell hb5; have hz5 := hb5.size; (repeat (first | rw [World.size_alloc] at hz5 | rw [World.size_drew] at hz5 | rw [World.size_setCell] at hz5)); (try have : w.heap.size < w5.heap.size := by omega); (try have : w.heap.size < w5.heap.size + 1 := by omega); (try have : w.heap.size < w5.heap.size + 1 + 1 := by omega); (try have : w.heap.size < w5.heap.size + 1 + 1 + 1 := by omega)
  go_wp2_with fail
  go_returns
  exact ⟨rfl, by (repeat' (first | (with_reducible exact Below.refl _ _) | (with_reducible assumption) | (with_reducible refine Below.alloc ?_ ?_ _) | (with_reducible refine Below.drew ?_) | (with_reducible refine Below.stepG ?_ (by assumption) ?_) | (with_reducible refine Below.setCell ?_ ?_ _) | omega | (dsimp only; omega) | (simp; done) | (simp; omega)))⟩
end Go.Proofs.Yticfcigkldkhmaa
