
/- Contracts of package rules: the first rule that fits. -/
import Derived.Test.YteadfobfenopkaaPass
set_option linter.unusedVariables false
namespace Go.Proofs.Yteadfobfenopkaa
open Go.RowKit Go.Sort Wc Wk

/-- The place of the first rule that fits; -1: none does. -/
def passI (rs : List RuleD) (n k : Nat) : Int := match rs.findIdx? (fun r => decide (r.fits n k)) with | none => -1 | some i => (i : Int)
def passY (rs : List RuleD) (n k : Nat) : Bool := match rs.findIdx? (fun r => decide (r.fits n k)) with | none => false | some i => (rs[i]?.map RuleD.yes).getD false

theorem passI_at {rs : List RuleD} {n k i : Nat} {r : RuleD} (hr : rs[i]? = some r) (hf : r.fits n k) (hno : ∀ j, j < i → ∀ q, rs[j]? = some q → ¬ q.fits n k) : passI rs n k = i := by
  unfold passI
  have hi := (List.getElem?_eq_some_iff.1 hr).1
  have : rs.findIdx? (fun r => decide (r.fits n k)) = some i := by
    rw [List.findIdx?_eq_some_iff_getElem]
    refine ⟨hi, ?_, fun j hj => ?_⟩
    · have := List.getElem?_eq_some_iff.1 hr
      obtain ⟨_, he⟩ := this
      rw [he]; simpa using hf
    · have := hno j hj _ (List.getElem?_eq_getElem (by omega))
      simpa using this
  rw [this]
theorem passI_none {rs : List RuleD} {n k : Nat} (hno : ∀ q ∈ rs, ¬ q.fits n k) : passI rs n k = -1 := by
  unfold passI
  have : rs.findIdx? (fun r => decide (r.fits n k)) = none := by
    rw [List.findIdx?_eq_none_iff]
    intro q hq
    simpa using hno q hq
  rw [this]

theorem pass_cases (rs : List RuleD) (n k : Nat) : (passI rs n k = -1 ∧ passY rs n k = false ∧ ∀ q ∈ rs, ¬ q.fits n k) ∨ ∃ (i : Nat) (r : RuleD), rs[i]? = some r ∧ passI rs n k = (i : Int) ∧ passY rs n k = r.yes ∧ r.fits n k ∧ ∀ j, j < i → ∀ q, rs[j]? = some q → ¬ q.fits n k := by
  cases h : rs.findIdx? (fun r => decide (r.fits n k)) with
  | none =>
    refine .inl ⟨by unfold passI; rw [h], by unfold passY; rw [h], fun q hq => ?_⟩
    have := (List.findIdx?_eq_none_iff.1 h) q hq
    simpa using this
  | some i =>
    obtain ⟨hi, h1, h2⟩ := List.findIdx?_eq_some_iff_getElem.1 h
    refine .inr ⟨i, rs[i], List.getElem?_eq_getElem hi, by unfold passI; rw [h], by unfold passY; rw [h]; simp [List.getElem?_eq_getElem hi], by simpa using h1, fun j hj q hq => ?_⟩
    obtain ⟨hj2, he⟩ := List.getElem?_eq_some_iff.1 hq
    have := h2 j hj
    rw [he] at this
    simpa using this


set_option maxRecDepth 100000 in
set_option maxHeartbeats 2000000 in
theorem indexFunc_any (a : Option Addr) (cap : Nat) (rs : List RuleD) (n k b : Nat) (w : World) (hs : Sl w 7 (.slice a rs.length cap) (rs.map ruleCells)) (hlen : rs.length ≤ 100000) (hok : ∀ q ∈ rs, RuleD.ok q) (hp : VP false n k)
    (c0 : w.cell? ⟨b, 0, none⟩ = some (.bool false)) (c1 : w.cell? ⟨b, 1, none⟩ = some (.int .u64 (hiOf false n))) (c2 : w.cell? ⟨b, 2, none⟩ = some (.int .u64 (loOf n))) (c3 : w.cell? ⟨b, 3, none⟩ = some (.int .i64 k)) (hb : b < w.heap.size) :
    Calls Try.prog 73 #[.slice a rs.length cap, .func (Fn.func 74) #[] #[.pointer (some ⟨b, 0, none⟩)]] w fun e w' => e = .returned (.int .i64 (passI rs n k)) ∧ Below w.heap.size w w' := by
  have HS := Lib.hid hs
  have C0 := Lib.hid c0
  have C1 := Lib.hid c1
  have C2 := Lib.hid c2
  have C3 := Lib.hid c3
  clear hs c0 c1 c2 c3
  go_enter Try.func73, Try.ntmps73
  go_wp2_with fail
  go_loopw [8] (fun i wr => ∃ j : Nat, j ≤ rs.length ∧ i = .int .i64 j ∧ Hid (∀ m, m < j → ∀ q, rs[m]? = some q → ¬ q.fits n k) ∧ Below w.heap.size w wr) (fun i _ => rs.length - (intOf i).toNat)
  case atStart => exact ⟨0, Nat.zero_le _, rfl, fun m hm => absurd hm (Nat.not_lt_zero m), Below.refl _ _⟩
  case round =>
    obtain ⟨j, hj, rfl, hno, hbr⟩ := hrel
    have hzr := hbr.size
    by_cases hlt : j < rs.length
    · obtain ⟨r, hr⟩ : ∃ r, rs[j]? = some r := ⟨_, List.getElem?_eq_getElem hlt⟩
      have hrok := hok r (List.mem_of_getElem? hr)
      obtain ⟨_, a', cap', hv, _, _, hcc⟩ := HS.out
      have hv' : a = a' := by
        simp only [Value.slice.injEq] at hv
        exact hv.1
      subst hv'
      clear hv
      obtain ⟨b2, off, rfl, hlt2, hcell⟩ := hcc (by intro h; rw [List.map_eq_nil_iff] at h; rw [h] at hlt; exact absurd hlt (Nat.not_lt_zero _))
      have hm := hcell j (ruleCells r) (by rw [List.getElem?_map, hr]; rfl)
      have d0 := (hbr.cell (p := ⟨b2, off + j * 7 + 0, none⟩) hlt2).trans (hm 0 _ rfl)
      have d1 := (hbr.cell (p := ⟨b2, off + j * 7 + 1, none⟩) hlt2).trans (hm 1 _ rfl)
      have d2 := (hbr.cell (p := ⟨b2, off + j * 7 + 2, none⟩) hlt2).trans (hm 2 _ rfl)
      have d3 := (hbr.cell (p := ⟨b2, off + j * 7 + 3, none⟩) hlt2).trans (hm 3 _ rfl)
      have d4 := (hbr.cell (p := ⟨b2, off + j * 7 + 4, none⟩) hlt2).trans (hm 4 _ rfl)
      have d5 := (hbr.cell (p := ⟨b2, off + j * 7 + 5, none⟩) hlt2).trans (hm 5 _ rfl)
      have d6 := (hbr.cell (p := ⟨b2, off + j * 7 + 6, none⟩) hlt2).trans (hm 6 _ rfl)
      rw [Nat.add_zero] at d0
      have F := Lib.hid (fun (w2 : World) (h2 : Below w.heap.size w w2) => pass1_any r n k b w2 hrok hp ((h2.cell (p := ⟨b, 0, none⟩) hb).trans C0.out) ((h2.cell (p := ⟨b, 1, none⟩) hb).trans C1.out) ((h2.cell (p := ⟨b, 2, none⟩) hb).trans C2.out) ((h2.cell (p := ⟨b, 3, none⟩) hb).trans C3.out) (Nat.lt_of_lt_of_le hb h2.size))
      have HR := Lib.hid hr
      have HOK := Lib.hid hok
      clear hm hcell hcc hr hok hrok hp
      by_cases hf : r.fits n k
      · have hI := Lib.hid (passI_at HR.out hf hno.out)
        rw [decide_eq_true hf] at F
        clear hf hno
        go_wp2_with fail
        refine (F.out _ hbr).mono ?_; rintro e w3 ⟨rfl, hb3⟩; (repeat (with_reducible (replace hb3 := Below.undrew hb3))); obtain ⟨hc3, hf3⟩ := bcell hb3; have hz3 := hb3.size; (repeat (first | rw [World.size_alloc] at hz3 | rw [World.size_drew] at hz3 | rw [World.size_setCell] at hz3)); (try have : wr.heap.size < w3.heap.size := by omega); (try have : wr.heap.size < w3.heap.size + 1 := by omega); (try have : wr.heap.size < w3.heap.size + 1 + 1 := by omega); (try have : wr.heap.size < w3.heap.size + 1 + 1 + 1 := by omega)
        go_wp2
        go_returns
        exact ⟨ret_int hI.out.symm, by (repeat' (first | (with_reducible exact Below.refl _ _) | (with_reducible assumption) | (with_reducible refine Below.al ?_ _) | (with_reducible refine Below.dr ?_) | (with_reducible refine Below.step ?_ (by assumption)) | (with_reducible refine Below.set ?_ ?_ _) | omega | (dsimp only; omega) | (simp; done) | (simp; omega)))⟩
      · rw [decide_eq_false hf] at F
        have Hno : Hid (∀ m, m < j + 1 → ∀ q, rs[m]? = some q → ¬ q.fits n k) := fun m hm q hq => by
          rcases Nat.lt_or_ge m j with h | h
          · exact hno.out m h q hq
          · obtain rfl : m = j := by omega
            rw [HR.out] at hq
            cases hq
            exact hf
        clear hf hno
        go_wp2_with fail
        refine (F.out _ hbr).mono ?_; rintro e w3 ⟨rfl, hb3⟩; (repeat (with_reducible (replace hb3 := Below.undrew hb3))); obtain ⟨hc3, hf3⟩ := bcell hb3; have hz3 := hb3.size; (repeat (first | rw [World.size_alloc] at hz3 | rw [World.size_drew] at hz3 | rw [World.size_setCell] at hz3)); (try have : wr.heap.size < w3.heap.size := by omega); (try have : wr.heap.size < w3.heap.size + 1 := by omega); (try have : wr.heap.size < w3.heap.size + 1 + 1 := by omega); (try have : wr.heap.size < w3.heap.size + 1 + 1 + 1 := by omega)
        go_wp2
        go_roundw
        case rel => exact ⟨j + 1, by omega, by go_num, Hno, by (repeat' (first | (with_reducible exact Below.refl _ _) | (with_reducible assumption) | (with_reducible refine Below.al ?_ _) | (with_reducible refine Below.dr ?_) | (with_reducible refine Below.step ?_ (by assumption)) | (with_reducible refine Below.set ?_ ?_ _) | omega | (dsimp only; omega) | (simp; done) | (simp; omega)))⟩
        case measure => simp [intOf]; omega
    · obtain rfl : j = rs.length := by omega
      have hI := Lib.hid (passI_none (rs := rs) (n := n) (k := k) (fun q hq => by
        obtain ⟨m, hm, he⟩ := List.getElem_of_mem hq
        exact hno.out m hm q (by rw [List.getElem?_eq_getElem hm, he])))
      clear hno hok hp
      go_wp2
      go_returns
      exact ⟨ret_int hI.out.symm, hbr⟩
end Go.Proofs.Yteadfobfenopkaa
