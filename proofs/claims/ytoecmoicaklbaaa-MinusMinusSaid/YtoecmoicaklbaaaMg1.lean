
/- Contracts: cidr.prefixes, cidr.fault. -/
import Derived.Test.YtoecmoicaklbaaaSp2
set_option linter.unusedVariables false
set_option linter.unusedSimpArgs false
namespace Go.Proofs.Ytoecmoicaklbaaa
open Go.RowKit Go.Sort Wc Wk

/-- The prefixes of spans: each span's, one behind the other. -/
def CutR (six : Bool) : List (Nat × Nat) → List (Nat × Nat) → Prop
  | [], xs => xs = []
  | s :: S, xs => ∃ p q, xs = p ++ q ∧ RunP six s.2 s.1 p (s.2 + 1) ∧ CutR six S q
def sumS (S : List (Nat × Nat)) : Nat := (S.map fun s => s.2 + 1 - s.1).sum
theorem CutR.snoc {six : Bool} {s : Nat × Nat} {p : List (Nat × Nat)} (hp : RunP six s.2 s.1 p (s.2 + 1)) : ∀ {S xs : List (Nat × Nat)}, CutR six S xs → CutR six (S ++ [s]) (xs ++ p)
  | [], xs, h => by
    have : xs = [] := h
    subst this
    exact ⟨p, [], by simp, hp, rfl⟩
  | t :: S, xs, h => by
    obtain ⟨a, b, rfl, ha, hb⟩ := h
    exact ⟨a, b ++ p, by rw [List.append_assoc], ha, CutR.snoc hp hb⟩
theorem CutR.len {six : Bool} : ∀ {S xs : List (Nat × Nat)}, CutR six S xs → xs.length ≤ sumS S
  | [], xs, h => by
    have : xs = [] := h
    subst this; simp
  | t :: S, xs, h => by
    obtain ⟨a, b, rfl, ha, hb⟩ := h
    have h1 := ha.le
    have h2 := CutR.len hb
    simp only [sumS, List.map_cons, List.sum_cons, List.length_append] at h2 ⊢
    omega
theorem sumS_take (S : List (Nat × Nat)) : ∀ j, sumS (S.take j) ≤ sumS S := by
  induction S with
  | nil => intro j; simp [sumS]
  | cons s S ih =>
    intro j
    cases j with
    | zero => simp [sumS]
    | succ j => have := ih j; simp only [sumS, List.take_succ_cons, List.map_cons, List.sum_cons] at this ⊢; omega
theorem sumS_mem {s : Nat × Nat} : ∀ {S : List (Nat × Nat)}, s ∈ S → s.2 + 1 - s.1 ≤ sumS S
  | t :: S, h => by
    simp only [sumS, List.map_cons, List.sum_cons]
    rcases List.mem_cons.1 h with rfl | h
    · omega
    · have := sumS_mem h; simp only [sumS] at this; omega
theorem pfxRow_eq (six : Bool) (x : Nat × Nat) : pfxRow six x = pfC six x := rfl
theorem Sl.sp {w w' : World} {six : Bool} {a : Option Addr} {n cap : Nat} {l : List (Nat × Nat)} (hs : Sl w 6 (.slice a n cap) (l.map (spC six))) {B : Nat} (hb : Below B w w') (ha : ∀ x, a = some x → x.block < B) {i : Nat} {v : Nat × Nat} (hv : l[i]? = some v) :
    ∃ b off, a = some ⟨b, off, none⟩ ∧ b < B ∧ b < w'.heap.size ∧ w'.cell? ⟨b, off + i * 6, none⟩ = some (.bool six) ∧ w'.cell? ⟨b, off + i * 6 + 1, none⟩ = some (.int .u64 (hiOf six v.1)) ∧ w'.cell? ⟨b, off + i * 6 + 2, none⟩ = some (.int .u64 (loOf v.1)) ∧ w'.cell? ⟨b, off + i * 6 + 3, none⟩ = some (.bool six) ∧ w'.cell? ⟨b, off + i * 6 + 4, none⟩ = some (.int .u64 (hiOf six v.2)) ∧ w'.cell? ⟨b, off + i * 6 + 5, none⟩ = some (.int .u64 (loOf v.2)) := by
  obtain ⟨b, off, ha', hlt, hc⟩ := Sl.at hs (i := i) (c := spC six v) (by rw [List.getElem?_map, hv]; rfl)
  have hB := ha _ ha'
  have g := fun j u (h : (spC six v)[j]? = some u) => (hb.cell (p := ⟨b, off + i * 6 + j, none⟩) hB).trans (hc j u h)
  exact ⟨b, off, ha', hB, Nat.lt_of_lt_of_le hlt hb.size, g 0 _ rfl, g 1 _ rfl, g 2 _ rfl, g 3 _ rfl, g 4 _ rfl, g 5 _ rfl⟩


set_option maxRecDepth 100000 in
set_option maxHeartbeats 4000000 in
theorem prefixes_any (six : Bool) (a : Option Addr) (cap : Nat) (S : List (Nat × Nat)) (w : World) (hs : Sl w 6 (.slice a S.length cap) (S.map (spC six))) (hlen : S.length ≤ 1000) (hok : ∀ s ∈ S, s.1 ≤ s.2 ∧ Fits six s.2) (hsum : sumS S ≤ 1048575) (ha : ∀ x, a = some x → x.block < w.heap.size) :
    Calls Try.prog 43 #[.slice a S.length cap] w fun e w' => ∃ a' cap' xs, e = .returned (.slice a' xs.length cap') ∧ CutR six S xs ∧ Wk.Own w' w.heap.size 30 4 (.slice a' xs.length cap') (xs.map (pfxRow six)) ∧ Below w.heap.size w w' := by
  have HS := Lib.hid hs
  have HK := Lib.hid hok
  have HSU := Lib.hid hsum
  have HA := Lib.hid ha
  clear hs hok hsum ha
  go_enter Try.func43, Try.ntmps43
  go_wp2_with fail
  go_loopw [3, 8] (fun v i wr => ∃ j : Nat, j ≤ S.length ∧ i = .int .i64 j ∧ (∃ a' cap' xs, v = .slice a' xs.length cap' ∧ Hid (CutR six (S.take j) xs) ∧ Hid (Wk.Own wr w.heap.size 30 4 (.slice a' xs.length cap') (xs.map (pfxRow six)))) ∧ Hid (Below w.heap.size w wr)) (fun _ i _ => S.length - (intOf i).toNat)
  case atStart => exact ⟨0, Nat.zero_le _, rfl, ⟨none, 0, [], rfl, rfl, Wk.Own.nil _ _ _ _⟩, Below.refl _ _⟩
  case round =>
    obtain ⟨j, hj, rfl, ⟨a2, cap2, xs, rfl, HC, HO⟩, HB⟩ := hrel
    have hzr := HB.out.size
    by_cases hlt : j < S.length
    · obtain ⟨s, hsj⟩ : ∃ s, S[j]? = some s := ⟨_, List.getElem?_eq_getElem hlt⟩
      obtain ⟨b, off, rfl, hb, hbw, d0, d1, d2, d3, d4, d5⟩ := Sl.sp HS.out HB.out HA.out hsj
      have hm := HK.out s (List.mem_of_getElem? hsj)
      have hd : s.2 - s.1 < 1048576 := by have := sumS_mem (List.mem_of_getElem? hsj); have := HSU.out; omega
      have CT := Lib.hid (fun W (ho : Wk.Own W w.heap.size 30 4 (.slice a2 xs.length cap2) (xs.map (pfxRow six))) (hB : w.heap.size ≤ W.heap.size) => span_cut six s.1 s.2 hm.2 hm.1 hd w.heap.size a2 cap2 (xs.map (pfxRow six)) W (by rw [List.length_map]; exact ho) hB (by rw [List.length_map]; have := HC.out.len; have := sumS_take S j; have := HSU.out; omega))
      rw [List.length_map] at CT
      have HTK := Lib.hid (show S.take (j + 1) = S.take j ++ [s] by rw [List.take_add_one, hsj]; rfl)
      clear hm hd hsj
      go_wp2_with fail
      obtain ⟨V, hV⟩ : ∃ V, V = wr.alloc (.cells (spC six s).toArray 141) := ⟨_, rfl⟩
      have hVB : Below wr.heap.size wr V := by rw [hV]; exact (Below.refl _ _).alloc (Nat.le_refl _) _
      have hV' := hV
      simp only [spC] at hV'
      rw [← hV']
      refine (CT.out V (HO.out.below hVB) (by have := hVB.size; omega)).mono ?_
      rintro e w2 ⟨v2, q, rfl, ho2, hr2, hb2⟩
      rw [← List.map_append] at ho2
      have hC2 := Lib.hid (show CutR six (S.take (j + 1)) (xs ++ q) by rw [HTK.out]; exact CutR.snoc hr2 HC.out)
      generalize xs ++ q = xs3 at ho2 hC2
      obtain ⟨a3, cap3, rfl⟩ := ho2.shape
      rw [List.length_map] at ho2 ⊢
      have HO3 := Lib.hid ho2
      have HB3 := Lib.hid (HB.out.trans ((hVB.mono hzr).trans hb2))
      clear hb2 ho2 hV hV' hr2 CT d0 d1 d2 d3 d4 d5 HTK
      go_wp2
      go_roundw
      case rel => exact ⟨j + 1, by omega, by go_num, ⟨_, _, xs3, rfl, hC2, HO3⟩, HB3⟩
      case measure => simp [intOf]; omega
    · obtain rfl : j = S.length := by omega
      rw [List.take_length] at HC
      go_wp2_with fail
      exact bodyPost_ret (v := _) (by simp [results, Try.results43, go_sem]) rfl ⟨_, _, xs, rfl, HC.out, HO.out, HB.out⟩
/-- The lists that are looked at before anything is done. -/
def Ls4 (six : Bool) (w : World) (b : Nat) (L : List (Option Addr × Nat × List (Nat × Nat))) : Prop :=
  ∀ (i : Nat) q, L[i]? = some q → w.cell? ⟨b, i, none⟩ = some (.slice q.1 q.2.2.length q.2.1) ∧ Sl w 4 (.slice q.1 q.2.2.length q.2.1) (q.2.2.map (pfC six)) ∧ q.2.2.length ≤ 80 ∧ (∀ x ∈ q.2.2, VP six x.1 x.2) ∧ ∀ x, q.1 = some x → x.block < w.heap.size

set_option maxRecDepth 100000 in
set_option maxHeartbeats 4000000 in
theorem fault_any (six : Bool) (b cap : Nat) (L : List (Option Addr × Nat × List (Nat × Nat))) (w : World) (hb : b < w.heap.size) (hL : Ls4 six w b L) (hlen : L.length ≤ 1000) :
    Calls Try.prog 42 #[.slice (some ⟨b, 0, none⟩) L.length cap] w fun e w' => e = .returned (.int .i64 0) ∧ Below w.heap.size w w' := by
  have HL := Lib.hid hL
  clear hL
  go_enter Try.func42, Try.ntmps42
  go_wp2_with fail
  go_loopw [12] (fun i wr => ∃ j : Nat, j ≤ L.length ∧ i = .int .i64 j ∧ Hid (Below w.heap.size w wr)) (fun i _ => L.length - (intOf i).toNat)
  case atStart => exact ⟨0, Nat.zero_le _, rfl, Below.refl _ _⟩
  case round =>
    obtain ⟨j, hj, rfl, HB⟩ := hrel
    have hzr := HB.out.size
    by_cases hlt : j < L.length
    · obtain ⟨⟨qa, qc, ql⟩, hq⟩ : ∃ s, L[j]? = some s := ⟨_, List.getElem?_eq_getElem hlt⟩
      obtain ⟨h1, _, h3, _⟩ := HL.out j _ hq
      have d0 := (HB.out.cell (p := ⟨b, j, none⟩) hb).trans h1
      dsimp only at d0 h3
      generalize ql.length = qn at *
      clear h1 hq
      go_wp2_with fail
      go_roundw
      case rel => exact ⟨j + 1, by omega, by go_num, HB⟩
      case measure => simp [intOf]; omega
    · obtain rfl : j = L.length := by omega
      go_wp2_with fail
      go_loopw [22] (fun i wr => ∃ j : Nat, j ≤ L.length ∧ i = .int .i64 j ∧ Hid (Below w.heap.size w wr)) (fun i _ => L.length - (intOf i).toNat)
      case atStart => exact ⟨0, Nat.zero_le _, rfl, HB⟩
      case round =>
        clear HB hj hlt hzr
        obtain ⟨j, hj, rfl, HB⟩ := hrel
        have hzr := HB.out.size
        by_cases hlt : j < L.length
        · obtain ⟨⟨qa, qc, ql⟩, hq⟩ : ∃ s, L[j]? = some s := ⟨_, List.getElem?_eq_getElem hlt⟩
          obtain ⟨h1, h2, h3, h4, h5⟩ := HL.out j _ hq
          have d0 := (HB.out.cell (p := ⟨b, j, none⟩) hb).trans h1
          dsimp only at d0 h2 h3 h4 h5
          have HQ := Lib.hid h2
          have HV := Lib.hid h4
          have HA := Lib.hid h5
          clear h1 hq h2 h4 h5
          go_wp2_with fail
          go_loopw [28] (fun i wx => ∃ k : Nat, k ≤ ql.length ∧ i = .int .i64 k ∧ Hid (Below w.heap.size w wx)) (fun i _ => ql.length - (intOf i).toNat)
          case atStart => exact ⟨0, Nat.zero_le _, rfl, HB⟩
          case round =>
            clear HB d0 hzr
            obtain ⟨k, hk, rfl, HB⟩ := hrel
            have hzr := HB.out.size
            by_cases hkt : k < ql.length
            · obtain ⟨px, hx⟩ : ∃ s, ql[k]? = some s := ⟨_, List.getElem?_eq_getElem hkt⟩
              obtain ⟨g, off, rfl, hg, hgw, d0, d1, d2, d3⟩ := Sl.pf HQ.out HB.out HA.out hx
              have C := Lib.hid (fun w => check_ok six px.1 px.2 w (HV.out px (List.mem_of_getElem? hx)))
              clear hx
              go_wp2_with (first | ((with_reducible refine (C.out _).mono ?_); rintro e w2 ⟨rfl, hb2⟩; (repeat (with_reducible (replace hb2 := Below.undrew hb2))); obtain ⟨hc2, hf2⟩ := bcell hb2; have hz2 := hb2.size; (repeat (first | rw [World.size_alloc] at hz2 | rw [World.size_drew] at hz2 | rw [World.size_setCell] at hz2)); (try have : w.heap.size < w2.heap.size := by omega); (try have : w.heap.size < w2.heap.size + 1 := by omega); (try have : w.heap.size < w2.heap.size + 1 + 1 := by omega); (try have : w.heap.size < w2.heap.size + 1 + 1 + 1 := by omega); (try have : wr.heap.size < w2.heap.size := by omega); (try have : wr.heap.size < w2.heap.size + 1 := by omega); (try have : wr.heap.size < w2.heap.size + 1 + 1 := by omega); (try have : wr.heap.size < w2.heap.size + 1 + 1 + 1 := by omega)))
              have HB2 : Hid (Below w.heap.size w w2) := HB.out.trans (by (repeat' (first | (with_reducible exact Below.refl _ _) | (with_reducible assumption) | (with_reducible refine Below.alloc ?_ ?_ _) | (with_reducible refine Below.drew ?_) | (with_reducible refine Below.stepG ?_ (by assumption) ?_) | (with_reducible refine Below.setCell ?_ ?_ _) | omega | (dsimp only; omega) | (simp; done) | (simp; omega))))
              clear d0 d1 d2 d3 hc2 hf2 hb2
              go_roundw
              case rel => exact ⟨k + 1, by omega, by go_num, HB2⟩
              case measure => simp [intOf]; omega
            · obtain rfl : k = ql.length := by omega
              go_wp2_with fail
              go_roundw
              case rel => exact ⟨j + 1, by omega, by go_num, HB⟩
              case measure => simp [intOf]; omega
        · obtain rfl : j = L.length := by omega
          go_wp2_with fail
          exact bodyPost_ret (v := _) (by simp [results, Try.results42, go_sem]) rfl ⟨rfl, HB.out⟩
end Go.Proofs.Ytoecmoicaklbaaa
