
/- Contracts of package class: plant, the walk. -/
import Derived.Test.YtlcacocecdnpnaaCls3
import Derived.Deep.DeepCutAuto
set_option linter.unusedVariables false
namespace Go.Proofs.Ytlcacocecdnpnaa
open Go.RowKit Go.Sort Wc Wk

theorem TwoTr.below {w w' : World} {B bt : Nat} {l : List MatchD} {j : Nat} {D1 D2 : Nat → Nat → Option (Nat × Nat)} (t : TwoTr w B bt l j D1 D2) (h : Below w.heap.size w w') : TwoTr w' B bt l j D1 D2 :=
  ⟨t.one.below h, t.two.below h, t.sep, t.up1, t.up2⟩
def PlantSays (w : World) (l : List MatchD) (e : Ending) (w' : World) : Prop := ∃ bt D1 D2, e = .returned (.pointer (some ⟨bt, 0, none⟩)) ∧ TwoTr w' w.heap.size bt l l.length D1 D2 ∧ Below w.heap.size w w'


set_option maxRecDepth 100000 in
set_option maxHeartbeats 1000000 in
theorem plant_any (a : Option Addr) (cap : Nat) (l : List MatchD) (w : World) (hs : Sl w 9 (.slice a l.length cap) (l.map matchCells)) (hlen : l.length ≤ 30) (hok : ∀ q ∈ l, q.ok) :
    Calls Try.prog 52 #[.slice a l.length cap, .bool false] w (PlantSays w l) := by
  have HS := Lib.hid hs
  have HOK := Lib.hid hok
  clear hs hok
  go_enter Try.func52, Try.ntmps52
  go_wp2_with fail
  go_loopw [12] (fun iv wr => ∃ (j : Nat) (D1 D2 : Nat → Nat → Option (Nat × Nat)), j ≤ l.length ∧ iv = .int .i64 j ∧ Hid (TwoTr wr w.heap.size w.heap.size l j D1 D2) ∧ Hid (Below w.heap.size w wr)) (fun iv _ => l.length - (intOf iv).toNat)
  case atStart =>
    refine ⟨0, fun i v => if i = 0 ∧ v = 0 then some (w.heap.size, 0) else none, fun i v => if i = 0 ∧ v = 0 then some (w.heap.size, 3) else none, Nat.zero_le _, rfl, ?_, Lib.hid ((Below.refl _ _).alloc (Nat.le_refl _) _)⟩
    refine Lib.hid ⟨tr_new ⟨by simp, by simp, by simp [ptrV], by simp [ptrV], by simp, by simp, by simp⟩, tr_new ⟨by simp, by simp, by simp [ptrV], by simp [ptrV], by simp, by simp, by simp⟩, ?_, ?_, ?_⟩
    · intro b x h1 h2
      obtain ⟨_, _, h1⟩ := foot_root (fun _ _ => rfl) h1
      obtain ⟨_, h2, _⟩ := foot_root (fun _ _ => rfl) h2
      omega
    · intro i v b o h
      split at h
      · cases h; exact Nat.le_refl _
      · cases h
    · intro i v b o h
      split at h
      · cases h; exact Nat.le_refl _
      · cases h
  case round =>
    obtain ⟨j, D1, D2, hj, rfl, HT, HB⟩ := hrel
    have hzr := HB.out.size
    by_cases hlt : j < l.length
    · obtain ⟨r, hr⟩ : ∃ r, l[j]? = some r := ⟨_, List.getElem?_eq_getElem hlt⟩
      obtain ⟨b, off, rfl, hb, d0, d1, d2, d3, d4, d5, d6, d7, d8⟩ := Sl.mat HS.out HB.out hr
      obtain ⟨ok1, ok2, _, _⟩ := HOK.out r (List.mem_of_getElem? hr)
      have M1 := Lib.hid (show matF l j = (r.n, r.k) by unfold matF; rw [hr]; rfl)
      have M2 := Lib.hid (show matT l j = (r.m, r.l) by unfold matT; rw [hr]; rfl)
      have P1 := Lib.hid (fun w' t => put_any w.heap.size 0 r.n r.k j D1 (plantH (matF l) j) w' t (fun i v => Nat.lt_of_lt_of_le (plantH_lt _ j i v) (Nat.pow_le_pow_right (by decide) (by omega))) ok1 (by omega))
      clear hr
      go_wp2_with fail
      have F0 : (wr.alloc (.cells #[.bool false, .int .u64 (hiOf false r.n), .int .u64 (loOf r.n), .int .i64 r.k, .bool false, .int .u64 (hiOf false r.m), .int .u64 (loOf r.m), .int .i64 r.l, .int .i64 r.cls] 78)).cell? ⟨wr.heap.size, 0, none⟩ = some (.bool false) := by simp
      have F1 : (wr.alloc (.cells #[.bool false, .int .u64 (hiOf false r.n), .int .u64 (loOf r.n), .int .i64 r.k, .bool false, .int .u64 (hiOf false r.m), .int .u64 (loOf r.m), .int .i64 r.l, .int .i64 r.cls] 78)).cell? ⟨wr.heap.size, 1, none⟩ = some (.int .u64 (hiOf false r.n)) := by simp
      have F2 : (wr.alloc (.cells #[.bool false, .int .u64 (hiOf false r.n), .int .u64 (loOf r.n), .int .i64 r.k, .bool false, .int .u64 (hiOf false r.m), .int .u64 (loOf r.m), .int .i64 r.l, .int .i64 r.cls] 78)).cell? ⟨wr.heap.size, 2, none⟩ = some (.int .u64 (loOf r.n)) := by simp
      have F3 : (wr.alloc (.cells #[.bool false, .int .u64 (hiOf false r.n), .int .u64 (loOf r.n), .int .i64 r.k, .bool false, .int .u64 (hiOf false r.m), .int .u64 (loOf r.m), .int .i64 r.l, .int .i64 r.cls] 78)).cell? ⟨wr.heap.size, 3, none⟩ = some (.int .i64 r.k) := by simp
      have F4 : (wr.alloc (.cells #[.bool false, .int .u64 (hiOf false r.n), .int .u64 (loOf r.n), .int .i64 r.k, .bool false, .int .u64 (hiOf false r.m), .int .u64 (loOf r.m), .int .i64 r.l, .int .i64 r.cls] 78)).cell? ⟨wr.heap.size, 4, none⟩ = some (.bool false) := by simp
      have F5 : (wr.alloc (.cells #[.bool false, .int .u64 (hiOf false r.n), .int .u64 (loOf r.n), .int .i64 r.k, .bool false, .int .u64 (hiOf false r.m), .int .u64 (loOf r.m), .int .i64 r.l, .int .i64 r.cls] 78)).cell? ⟨wr.heap.size, 5, none⟩ = some (.int .u64 (hiOf false r.m)) := by simp
      have F6 : (wr.alloc (.cells #[.bool false, .int .u64 (hiOf false r.n), .int .u64 (loOf r.n), .int .i64 r.k, .bool false, .int .u64 (hiOf false r.m), .int .u64 (loOf r.m), .int .i64 r.l, .int .i64 r.cls] 78)).cell? ⟨wr.heap.size, 6, none⟩ = some (.int .u64 (loOf r.m)) := by simp
      have F7 : (wr.alloc (.cells #[.bool false, .int .u64 (hiOf false r.n), .int .u64 (loOf r.n), .int .i64 r.k, .bool false, .int .u64 (hiOf false r.m), .int .u64 (loOf r.m), .int .i64 r.l, .int .i64 r.cls] 78)).cell? ⟨wr.heap.size, 7, none⟩ = some (.int .i64 r.l) := by simp
      have FS : wr.heap.size < (wr.alloc (.cells #[.bool false, .int .u64 (hiOf false r.n), .int .u64 (loOf r.n), .int .i64 r.k, .bool false, .int .u64 (hiOf false r.m), .int .u64 (loOf r.m), .int .i64 r.l, .int .i64 r.cls] 78)).heap.size := by simp
      have FB : Below w.heap.size w (wr.alloc (.cells #[.bool false, .int .u64 (hiOf false r.n), .int .u64 (loOf r.n), .int .i64 r.k, .bool false, .int .u64 (hiOf false r.m), .int .u64 (loOf r.m), .int .i64 r.l, .int .i64 r.cls] 78)) := HB.out.alloc hzr _
      have FT := Lib.hid (HT.out.below (w' := wr.alloc (.cells #[.bool false, .int .u64 (hiOf false r.n), .int .u64 (loOf r.n), .int .i64 r.k, .bool false, .int .u64 (hiOf false r.m), .int .u64 (loOf r.m), .int .i64 r.l, .int .i64 r.cls] 78)) ((Below.refl _ _).alloc (Nat.le_refl _) _))
      have NF1 : Hid (∀ x, ¬ Foot D1 wr.heap.size x) := fun x hx => Nat.lt_irrefl _ (tr_foot_lt HT.out.one hx)
      have NF2 : Hid (∀ x, ¬ Foot D2 wr.heap.size x) := fun x hx => Nat.lt_irrefl _ (tr_foot_lt HT.out.two hx)
      clear d0 d1 d2 d3 d4 d5 d6 d7 d8 HT HB
      generalize wr.alloc (.cells #[.bool false, .int .u64 (hiOf false r.n), .int .u64 (loOf r.n), .int .i64 r.k, .bool false, .int .u64 (hiOf false r.m), .int .u64 (loOf r.m), .int .i64 r.l, .int .i64 r.cls] 78) = W at *
      obtain ⟨B, hB⟩ : ∃ B, B = wr.heap.size := ⟨_, rfl⟩
      rw [← hB] at F0 F1 F2 F3 F4 F5 F6 F7 FS NF1 NF2 ⊢
      have hBe : w.heap.size ≤ B := by omega
      clear hB hzr
      have FSz := FB.size
      go_still_tail 6, (by kernel_rfl)
      change wpList _ _ _ _ _ W.drew
      have FT' := FT.out.below (w' := W.drew) (Below.drew (Below.refl _ _))
      go_wp2_with fail
      refine (P1.out _ FT'.one).mono ?_
      rintro e w1 ⟨rfl, D1', T1, C1, E1⟩
      have S1 := FT'.put1 T1 C1 E1 (by simp; omega)
      have hb1 : Below w.heap.size w w1 := (FB.drew).trans (C1.below (by simp; omega) (fun b x hb ⟨i, v, o, hd, _, _⟩ => by have := FT'.up1 i v b o hd; omega))
      have G4 : w1.cell? ⟨B, 4, none⟩ = some (.bool false) := (C1.cell B 4 (by simpa using FS) (NF1.out 4)).trans (by simpa using F4)
      have G5 : w1.cell? ⟨B, 5, none⟩ = some (.int .u64 (hiOf false r.m)) := (C1.cell B 5 (by simpa using FS) (NF1.out 5)).trans (by simpa using F5)
      have G6 : w1.cell? ⟨B, 6, none⟩ = some (.int .u64 (loOf r.m)) := (C1.cell B 6 (by simpa using FS) (NF1.out 6)).trans (by simpa using F6)
      have G7 : w1.cell? ⟨B, 7, none⟩ = some (.int .i64 r.l) := (C1.cell B 7 (by simpa using FS) (NF1.out 7)).trans (by simpa using F7)
      have GS : B < w1.heap.size := Nat.lt_of_lt_of_le (by simpa using FS) C1.size
      have P2 := Lib.hid (fun w' t => put_any w.heap.size 3 r.m r.l j D2 (plantH (matT l) j) w' t (fun i v => Nat.lt_of_lt_of_le (plantH_lt _ j i v) (Nat.pow_le_pow_right (by decide) (by omega))) ok2 (by omega))
      have HS1 := Lib.hid S1
      have HT1 := Lib.hid T1
      have HU2 := Lib.hid FT'.up2
      have hz1 := hb1.size
      have HB1 := Lib.hid hb1
      clear S1 T1 C1 E1 FT' FT F0 F1 F2 F3 F4 F5 F6 F7 P1 hb1
      go_wp2_with fail
      go_still_tail 6, (by kernel_rfl)
      change wpList _ _ _ _ _ w1.drew
      go_wp2_with fail
      refine (P2.out _ (HS1.out.1.below (Below.drew (Below.refl _ _)))).mono ?_
      rintro e w2 ⟨rfl, D2', T2, C2, E2⟩
      have hb2 : Below w.heap.size w w2 := (HB1.out.drew).trans (C2.below (by simp; omega) (fun b x hb ⟨i, v, o, hd, _, _⟩ => by have := HU2.out i v b o hd; omega))
      have TT : Hid (TwoTr w2 w.heap.size w.heap.size l (j + 1) D1' D2') := by
        refine ⟨?_, ?_, ?_, HS1.out.2.2, ?_⟩
        · show Tr w2 w.heap.size 0 D1' (putH (plantH (matF l) j) (matF l j).1 (matF l j).2 j)
          rw [M1.out]
          exact (HT1.out.below (Below.drew (Below.refl _ _))).keep C2 (fun b x hf hf2 => HS1.out.2.1 b x hf hf2)
        · show Tr w2 w.heap.size 3 D2' (putH (plantH (matT l) j) (matT l j).1 (matT l j).2 j)
          rw [M2.out]
          exact T2
        · intro b x hf hf2
          have hlt := tr_foot_lt HT1.out hf
          exact HS1.out.2.1 b x hf (E2.foot (by simpa using hlt) hf2)
        · intro i v b o hd
          rcases E2.new i v b o hd with h | h
          · exact HU2.out i v b o h
          · have : w1.heap.size ≤ b := by simpa using h
            omega
      have HB2 := Lib.hid hb2
      clear HS1 HT1 HU2 T2 C2 E2 hb2 HB1 P2
      go_wp2
      go_roundw
      case rel => exact ⟨j + 1, D1', D2', by omega, by go_num, TT, HB2⟩
      case measure => simp [intOf]; omega
    · obtain rfl : j = l.length := by omega
      go_wp2
      go_returns
      exact ⟨_, D1, D2, rfl, HT.out, HB.out⟩
end Go.Proofs.Ytlcacocecdnpnaa
