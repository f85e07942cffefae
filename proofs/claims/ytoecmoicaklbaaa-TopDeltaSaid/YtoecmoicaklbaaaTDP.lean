
/- TopDelta: plain laws; whipcordtop's sameRoutes. -/
import Derived.Test.YtoecmoicaklbaaaFbP
import Derived.Test.YtoecmoicaklbaaaDelX
import Derived.Test.YtoecmoicaklbaaaRoT
set_option linter.unusedVariables false
set_option linter.unusedSimpArgs false
namespace Go.Proofs.Ytoecmoicaklbaaa
open Go Go.RowKit Go.Sort Wc Wk

/-- The acts of TopDelta: a default route ahead. -/
def topActs (js : List RawJ) (h : Nat) : List ActD := ⟨1, 0, 0, 1 + h, 0⟩ :: actsOf js 45
theorem topActs_fit (js : List RawJ) {h : Nat} (hh : h < 5) : ∀ x ∈ topActs js h, x.fit := fun x hx => by
  rcases List.mem_cons.1 hx with rfl | hx
  · exact ⟨vp00, fits0, ⟨Nat.le_refl _, by show (1 : Nat) ≤ 4; decide⟩, fun _ => by show 1 ≤ 1 + h; omega, by show 1 + h ≤ 999; omega⟩
  · exact actsOf_fit x hx
theorem topActs_len (js : List RawJ) (h : Nat) : (topActs js h).length ≤ 46 := by
  have := actsOf_len js 45
  unfold topActs
  rw [List.length_cons]
  omega
theorem actsOf_k {js : List RawJ} {n : Nat} : ∀ x ∈ actsOf js n, x.kind = 1 ∨ x.kind = 2 → 24 ≤ x.k := fun x hx hk => by
  obtain ⟨r, _, rfl⟩ := List.mem_map.1 hx
  have hp : 24 ≤ presK r.pre := by unfold presK; omega
  unfold actOf at hk ⊢
  split
  · rename_i c
    rw [if_pos c] at hk
    rcases hk with hk | hk <;> cases hk
  · split
    · exact hp
    · split <;> exact hp
theorem tend_zero : ∀ {al : List ActD} {L : List (Nat × Nat × Nat)} (t : TabOk L), (∀ x ∈ al, x.fit) → (∀ x ∈ al, x.kind = 1 ∨ x.kind = 2 → 24 ≤ x.k) → (∃ y ∈ L, y.2.1 = 0) → ∃ y ∈ tend L al, y.2.1 = 0
  | [], L, t, _, _, h => h
  | x :: al, L, t, hf, hk, ⟨y, hy, h0⟩ => by
    have hx := hf x List.mem_cons_self
    have hkx := hk x List.mem_cons_self
    show ∃ y ∈ tend (tstep L x).1 al, y.2.1 = 0
    refine tend_zero (t.step hx) (fun z hz => hf z (List.mem_cons_of_mem _ hz)) (fun z hz => hk z (List.mem_cons_of_mem _ hz)) ⟨y, ?_, h0⟩
    have hd := hx.kd
    unfold tstep
    split
    · exact hy
    · split
      · rename_i h3 h2
        have := hkx (.inr h2)
        exact mem_cutL.2 ⟨hy, fun e => by omega⟩
      · split
        · exact hy
        · split
          · exact hy
          · have := hkx (.inl (by omega))
            exact (mem_putL t.srt).2 (.inr ⟨hy, fun e => by omega⟩)
theorem topActs_zero (js : List RawJ) {h : Nat} (hh : h < 5) : ∃ y ∈ tend [] (topActs js h), y.2.1 = 0 := by
  have hf := topActs_fit js hh
  have t := TabOk.nil.step (hf ⟨1, 0, 0, 1 + h, 0⟩ List.mem_cons_self)
  refine tend_zero (L := (tstep [] ⟨1, 0, 0, 1 + h, 0⟩).1) t (fun z hz => hf z (List.mem_cons_of_mem _ hz)) actsOf_k ⟨(0, 0, 1 + h), ?_, rfl⟩
  unfold tstep
  simp [putL]
theorem put_tab {L : List (Nat × Nat × Nat)} (h : RtOk L) : TabOk (putAll L) := by
  obtain ⟨s, hh, hm, hl⟩ := putAll_ok _ h rfl
  exact ⟨s, hh, fun x hx => h.vp x ((hm x).1 hx), fun x hx => h.hi x ((hm x).1 hx), by rw [hl]; exact h.len⟩
theorem like_put {L R : List (Nat × Nat × Nat)} (hL : RtOk L) (h : Like L R) : Like (putAll L) R := fun a ha => by
  rw [putAll_srt (put_tab hL)]
  exact h a ha
/-- Two lists of routes that are the same. -/
theorem sameTop_yes (a b : Option Addr) (ca cb n m : Nat) (L : List (Nat × Nat × Nat)) (w : World) (hn : n = L.length) (hm : m = L.length) (ha : Sl w 5 (.slice a n ca) (L.map routeCells)) (hb : Sl w 5 (.slice b m cb) (L.map routeCells)) :
    Calls Try.prog 26 #[.slice a n ca, .slice b m cb] w fun e w' => e = .returned (.bool true) ∧ Below w.heap.size w w' := by
  subst hn
  subst hm
  have HA := Lib.hid ha
  have HB := Lib.hid hb
  have l1 := ha.lens.2.1
  have l2 := ha.lens.2.2
  have l3 := hb.lens.2.1
  have l4 := hb.lens.2.2
  clear ha hb
  go_enter Try.func26, Try.ntmps26
  go_wp2_with fail
  go_loopw [5] (fun i wr => ∃ k : Nat, k ≤ L.length ∧ i = .int .i64 k ∧ Hid (Below w.heap.size w wr)) (fun i _ => L.length - (intOf i).toNat)
  case atStart => exact ⟨0, Nat.zero_le _, rfl, Below.refl _ _⟩
  case round =>
    obtain ⟨k, hk, rfl, HW⟩ := hrel
    by_cases hlt : k < L.length
    · obtain ⟨x, hx⟩ : ∃ x, L[k]? = some x := ⟨_, List.getElem?_eq_getElem hlt⟩
      obtain ⟨b1, o1, rfl, _, c0, c1, c2, c3, c4⟩ := Sl.route HA.out HW.out hx
      obtain ⟨b2, o2, rfl, _, d0, d1, d2, d3, d4⟩ := Sl.route HB.out HW.out hx
      clear hx
      go_wp2_with fail
      go_quiet (fail)
      go_wp2
      go_roundw
      case rel => exact ⟨k + 1, by omega, by go_num, below_drewN HW.out _⟩
      case measure => simp [intOf]; omega
    · obtain rfl : k = L.length := by omega
      go_wp2
      go_returns
      exact ⟨rfl, HW.out⟩
end Go.Proofs.Ytoecmoicaklbaaa
