
/- Contracts of package rules: Check, pass, Pass. -/
import Derived.Test.YteadfobfenopkaaPass2
set_option linter.unusedVariables false
namespace Go.Proofs.Yteadfobfenopkaa
open Go.RowKit Go.Sort Wc Wk

/-- The cells of a row of a slice, in a later world. -/
theorem Sl.rule {w w' : World} {a : Option Addr} {cap : Nat} {rs : List RuleD} (hs : Sl w 7 (.slice a rs.length cap) (rs.map ruleCells)) (hb : Below w.heap.size w w') {i : Nat} {r : RuleD} (hr : rs[i]? = some r) :
    ∃ b off, a = some ⟨b, off, none⟩ ∧ b < w.heap.size ∧ w'.cell? ⟨b, off + i * 7, none⟩ = some (.bool r.yes) ∧ w'.cell? ⟨b, off + i * 7 + 1, none⟩ = some (.bool false) ∧ w'.cell? ⟨b, off + i * 7 + 2, none⟩ = some (.int .u64 (hiOf false r.n)) ∧
      w'.cell? ⟨b, off + i * 7 + 3, none⟩ = some (.int .u64 (loOf r.n)) ∧ w'.cell? ⟨b, off + i * 7 + 4, none⟩ = some (.int .i64 r.k) ∧ w'.cell? ⟨b, off + i * 7 + 5, none⟩ = some (.int .i64 r.least) ∧ w'.cell? ⟨b, off + i * 7 + 6, none⟩ = some (.int .i64 r.most) := by
  obtain ⟨_, a', cap', hv, _, _, hcc⟩ := hs
  have hv' : a = a' := by
    simp only [Value.slice.injEq] at hv
    exact hv.1
  subst hv'
  obtain ⟨b, off, rfl, hlt, hcell⟩ := hcc (by intro h; rw [List.map_eq_nil_iff] at h; rw [h] at hr; simp at hr)
  have hm := hcell i (ruleCells r) (by rw [List.getElem?_map, hr]; rfl)
  have g := fun j u (h : (ruleCells r)[j]? = some u) => (hb.cell (p := ⟨b, off + i * 7 + j, none⟩) hlt).trans (hm j u h)
  exact ⟨b, off, rfl, hlt, g 0 _ rfl, g 1 _ rfl, g 2 _ rfl, g 3 _ rfl, g 4 _ rfl, g 5 _ rfl, g 6 _ rfl⟩


set_option maxRecDepth 100000 in
set_option maxHeartbeats 2000000 in
theorem rpass_any (a : Option Addr) (cap : Nat) (rs : List RuleD) (n k : Nat) (w : World) (hs : Sl w 7 (.slice a rs.length cap) (rs.map ruleCells)) (hlen : rs.length ≤ 100000) (hok : ∀ q ∈ rs, RuleD.ok q) (hp : VP false n k) :
    Calls Try.prog 50 #[.slice a rs.length cap, Value.agg #[.bool false, .int .u64 (hiOf false n), .int .u64 (loOf n), .int .i64 k]] w fun e w' => e = .returned (.tuple #[.bool (passY rs n k), .int .i64 (passI rs n k)]) ∧ Below w.heap.size w w' := by
  have HS := Lib.hid hs
  clear hs
  rcases pass_cases rs n k with ⟨h1, h2, _⟩ | ⟨i, r, hr, h1, h2, _, _⟩
  · have H1 := Lib.hid h1
    rw [h1, h2]
    clear h1 h2
    go_enter Try.func50, Try.ntmps50
    go_wp2_with fail
    refine (indexFunc_any a cap rs n k w.heap.size _ (HS.out.below (by (repeat' (first | (with_reducible exact Below.refl _ _) | (with_reducible assumption) | (with_reducible refine Below.al ?_ _) | (with_reducible refine Below.dr ?_) | (with_reducible refine Below.step ?_ (by assumption)) | (with_reducible refine Below.set ?_ ?_ _) | omega | (dsimp only; omega) | (simp; done) | (simp; omega))))) hlen hok hp (by simp) (by simp) (by simp) (by simp) (by simp)).mono ?_; rintro e w1 ⟨he, hb1⟩; rw [H1.out] at he; subst he; (repeat (with_reducible (replace hb1 := Below.undrew hb1))); obtain ⟨hc1, hf1⟩ := bcell hb1; have hz1 := hb1.size; (repeat (first | rw [World.size_alloc] at hz1 | rw [World.size_drew] at hz1 | rw [World.size_setCell] at hz1)); (try have : w.heap.size < w1.heap.size := by omega); (try have : w.heap.size < w1.heap.size + 1 := by omega); (try have : w.heap.size < w1.heap.size + 1 + 1 := by omega); (try have : w.heap.size < w1.heap.size + 1 + 1 + 1 := by omega)
    go_wp2
    go_returns
    exact ⟨rfl, by (repeat' (first | (with_reducible exact Below.refl _ _) | (with_reducible assumption) | (with_reducible refine Below.al ?_ _) | (with_reducible refine Below.dr ?_) | (with_reducible refine Below.step ?_ (by assumption)) | (with_reducible refine Below.set ?_ ?_ _) | omega | (dsimp only; omega) | (simp; done) | (simp; omega)))⟩
  · have H1 := Lib.hid h1
    have HR := Lib.hid hr
    have hi := (List.getElem?_eq_some_iff.1 hr).1
    rw [h1, h2]
    clear h1 h2 hr
    go_enter Try.func50, Try.ntmps50
    go_wp2_with fail
    refine (indexFunc_any a cap rs n k w.heap.size _ (HS.out.below (by (repeat' (first | (with_reducible exact Below.refl _ _) | (with_reducible assumption) | (with_reducible refine Below.al ?_ _) | (with_reducible refine Below.dr ?_) | (with_reducible refine Below.step ?_ (by assumption)) | (with_reducible refine Below.set ?_ ?_ _) | omega | (dsimp only; omega) | (simp; done) | (simp; omega))))) hlen hok hp (by simp) (by simp) (by simp) (by simp) (by simp)).mono ?_; rintro e w1 ⟨he, hb1⟩; rw [H1.out] at he; subst he; (repeat (with_reducible (replace hb1 := Below.undrew hb1))); obtain ⟨hc1, hf1⟩ := bcell hb1; have hz1 := hb1.size; (repeat (first | rw [World.size_alloc] at hz1 | rw [World.size_drew] at hz1 | rw [World.size_setCell] at hz1)); (try have : w.heap.size < w1.heap.size := by omega); (try have : w.heap.size < w1.heap.size + 1 := by omega); (try have : w.heap.size < w1.heap.size + 1 + 1 := by omega); (try have : w.heap.size < w1.heap.size + 1 + 1 + 1 := by omega)
    obtain ⟨b, off, rfl, hb, d0, _⟩ := Sl.rule HS.out (Below.refl _ _) HR.out
    go_wp2
    go_returns
    exact ⟨rfl, by (repeat' (first | (with_reducible exact Below.refl _ _) | (with_reducible assumption) | (with_reducible refine Below.al ?_ _) | (with_reducible refine Below.dr ?_) | (with_reducible refine Below.step ?_ (by assumption)) | (with_reducible refine Below.set ?_ ?_ _) | omega | (dsimp only; omega) | (simp; done) | (simp; omega)))⟩


set_option maxRecDepth 100000 in
set_option maxHeartbeats 2000000 in
theorem rcheck_any (a : Option Addr) (cap : Nat) (rs : List RuleD) (w : World) (hs : Sl w 7 (.slice a rs.length cap) (rs.map ruleCells)) (hlen : rs.length ≤ 30) (hok : ∀ q ∈ rs, RuleD.ok q) :
    Calls Try.prog 48 #[.slice a rs.length cap] w fun e w' => e = .returned (.int .i64 0) ∧ Below w.heap.size w w' := by
  have HS := Lib.hid hs
  have HOK := Lib.hid hok
  have W := Lib.hid (fun w => wide_any false w)
  rw [show wdI false = 32 from rfl] at W
  clear hs hok
  go_enter Try.func48, Try.ntmps48
  go_wp2_with fail
  go_loopw [11] (fun i wr => ∃ j : Nat, j ≤ rs.length ∧ i = .int .i64 j ∧ Below w.heap.size w wr) (fun i _ => rs.length - (intOf i).toNat)
  case atStart => exact ⟨0, Nat.zero_le _, rfl, Below.refl _ _⟩
  case round =>
    obtain ⟨j, hj, rfl, hbr⟩ := hrel
    have hzr := hbr.size
    by_cases hlt : j < rs.length
    · obtain ⟨r, hr⟩ : ∃ r, rs[j]? = some r := ⟨_, List.getElem?_eq_getElem hlt⟩
      have hrok := HOK.out r (List.mem_of_getElem? hr)
      obtain ⟨b, off, rfl, hb, d0, d1, d2, d3, d4, d5, d6⟩ := Sl.rule HS.out hbr hr
      have C := Lib.hid (fun w => check_ok false r.n r.k w hrok.1)
      obtain ⟨k1, k2, k3⟩ := hrok.2
      have e1 : decide ((r.least : Int) < r.k) = false := by simp; omega
      have e2 : decide ((r.most : Int) < r.least) = false := by simp; omega
      have e3 : decide ((32 : Int) < r.most) = false := by simp; omega
      clear hrok hr
      go_wp2_with (first | ((with_reducible refine (C.out _).mono ?_); rintro e w1 ⟨rfl, hb1⟩; (repeat (with_reducible (replace hb1 := Below.undrew hb1))); obtain ⟨hc1, hf1⟩ := bcell hb1; have hz1 := hb1.size; (repeat (first | rw [World.size_alloc] at hz1 | rw [World.size_drew] at hz1 | rw [World.size_setCell] at hz1)); (try have : w1.heap.size < w1.heap.size := by omega); (try have : w1.heap.size < w1.heap.size + 1 := by omega); (try have : w1.heap.size < w1.heap.size + 1 + 1 := by omega); (try have : w1.heap.size < w1.heap.size + 1 + 1 + 1 := by omega); (try have : wr.heap.size < w1.heap.size := by omega); (try have : wr.heap.size < w1.heap.size + 1 := by omega); (try have : wr.heap.size < w1.heap.size + 1 + 1 := by omega); (try have : wr.heap.size < w1.heap.size + 1 + 1 + 1 := by omega)))
      refine wp_region_qb (by kernel_rfl) (by kernel_rfl) (fun kq => ?_)
      repeat (quiet_step (first | (with_reducible exact Calls.regrown_same (W.out _))))
      clear kq
      refine wpQuiet_nil ?_; intro w2 hb2; (repeat (with_reducible (replace hb2 := Below.undrew hb2))); obtain ⟨hc2, hf2⟩ := bcell hb2; have hz2 := hb2.size; (repeat (first | rw [World.size_alloc] at hz2 | rw [World.size_drew] at hz2 | rw [World.size_setCell] at hz2)); (try have : w1.heap.size < w2.heap.size := by omega); (try have : w1.heap.size < w2.heap.size + 1 := by omega); (try have : w1.heap.size < w2.heap.size + 1 + 1 := by omega); (try have : w1.heap.size < w2.heap.size + 1 + 1 + 1 := by omega); (try have : wr.heap.size < w2.heap.size := by omega); (try have : wr.heap.size < w2.heap.size + 1 := by omega); (try have : wr.heap.size < w2.heap.size + 1 + 1 := by omega); (try have : wr.heap.size < w2.heap.size + 1 + 1 + 1 := by omega); (try have : w1.heap.size < w2.heap.size := by omega); (try have : w1.heap.size < w2.heap.size + 1 := by omega); (try have : w1.heap.size < w2.heap.size + 1 + 1 := by omega); (try have : w1.heap.size < w2.heap.size + 1 + 1 + 1 := by omega)
      go_wp2_with fail
      go_roundw
      case rel => exact ⟨j + 1, by omega, by go_num, by (repeat' (first | (with_reducible exact Below.refl _ _) | (with_reducible assumption) | (with_reducible refine Below.al ?_ _) | (with_reducible refine Below.dr ?_) | (with_reducible refine Below.step ?_ (by assumption)) | (with_reducible refine Below.set ?_ ?_ _) | omega | (dsimp only; omega) | (simp; done) | (simp; omega)))⟩
      case measure => simp [intOf]; omega
    · obtain rfl : j = rs.length := by omega
      go_wp2
      go_returns
      exact ⟨rfl, hbr⟩


theorem pass_pub (a : Option Addr) (cap : Nat) (rs : List RuleD) (n k : Nat) (w : World) (hs : Sl w 7 (.slice a rs.length cap) (rs.map ruleCells)) (hlen : rs.length ≤ 30) (hok : ∀ q ∈ rs, RuleD.ok q) (hp : VP false n k) :
    Calls Try.prog 51 #[.slice a rs.length cap, Value.agg #[.bool false, .int .u64 (hiOf false n), .int .u64 (loOf n), .int .i64 k]] w fun e w' => e = .returned (.tuple #[.bool (passY rs n k), .int .i64 (passI rs n k), .int .i64 0]) ∧ Below w.heap.size w w' := by
  have HS := Lib.hid hs
  have C := Lib.hid (fun w => check_ok false n k w hp)
  clear hs
  generalize hy : passY rs n k = y
  generalize hi : passI rs n k = i
  have HY := Lib.hid hy
  have HI := Lib.hid hi
  clear hy hi
  go_enter Try.func51, Try.ntmps51
  go_wp2_with fail
  refine (rcheck_any a cap rs _ (HS.out.below (by (repeat' (first | (with_reducible exact Below.refl _ _) | (with_reducible assumption) | (with_reducible refine Below.al ?_ _) | (with_reducible refine Below.dr ?_) | (with_reducible refine Below.step ?_ (by assumption)) | (with_reducible refine Below.set ?_ ?_ _) | omega | (dsimp only; omega) | (simp; done) | (simp; omega))))) hlen hok).mono ?_; rintro e w1 ⟨rfl, hb1⟩; (repeat (with_reducible (replace hb1 := Below.undrew hb1))); obtain ⟨hc1, hf1⟩ := bcell hb1; have hz1 := hb1.size; (repeat (first | rw [World.size_alloc] at hz1 | rw [World.size_drew] at hz1 | rw [World.size_setCell] at hz1)); (try have : w.heap.size < w1.heap.size := by omega)
  go_wp2_with fail
  refine (C.out _).mono ?_; rintro e w2 ⟨rfl, hb2⟩; (repeat (with_reducible (replace hb2 := Below.undrew hb2))); obtain ⟨hc2, hf2⟩ := bcell hb2; have hz2 := hb2.size; (repeat (first | rw [World.size_alloc] at hz2 | rw [World.size_drew] at hz2 | rw [World.size_setCell] at hz2)); (try have : w.heap.size < w2.heap.size := by omega); (try have : w1.heap.size < w2.heap.size := by omega)
  go_wp2_with fail
  refine (rpass_any a cap rs n k _ (HS.out.below (by (repeat' (first | (with_reducible exact Below.refl _ _) | (with_reducible assumption) | (with_reducible refine Below.al ?_ _) | (with_reducible refine Below.dr ?_) | (with_reducible refine Below.step ?_ (by assumption)) | (with_reducible refine Below.set ?_ ?_ _) | omega | (dsimp only; omega) | (simp; done) | (simp; omega))))) (by omega) hok hp).mono ?_
  rintro e w3 ⟨he, hb3⟩
  rw [HY.out, HI.out] at he
  subst he
  go_wp2
  go_returns
  exact ⟨rfl, by (repeat' (first | (with_reducible exact Below.refl _ _) | (with_reducible assumption) | (with_reducible refine Below.al ?_ _) | (with_reducible refine Below.dr ?_) | (with_reducible refine Below.step ?_ (by assumption)) | (with_reducible refine Below.set ?_ ?_ _) | omega | (dsimp only; omega) | (simp; done) | (simp; omega)))⟩
end Go.Proofs.Yteadfobfenopkaa
