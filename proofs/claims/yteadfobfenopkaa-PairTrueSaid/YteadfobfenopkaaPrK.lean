
/- The laws' makers: Picks; a pair as the laws play it. -/
import Derived.Test.YteadfobfenopkaaPrJ
import Derived.Test.YteadfobfenopkaaQ7
set_option linter.unusedVariables false
set_option linter.unusedSimpArgs false
namespace Go.Proofs.Yteadfobfenopkaa
open Go Go.RowKit Go.Sort Wc Wk

theorem eiPick : EI Try.prog 57 3 1 8 (.int .i64 0) := ⟨by kernel_rfl, by kernel_rfl, rfl, by decide⟩
theorem pickCells_one (n : Nat) : ∀ u ∈ pickCells n, u.oneCell' = true := by
  intro u hu
  simp [pickCells] at hu
  subst hu
  rfl
/-- What Picks hands back: picks that may be, in a slice of its own. -/
def RetPicks (w : World) (n : Nat) (e : Ending) (w' : World) : Prop :=
  ∃ (v : Value) (ps : List Nat), e = .returned v ∧ Wk.Own w' w.heap.size 3 1 v (ps.map pickCells) ∧ (∀ p ∈ ps, p ≤ 4) ∧ ps.length ≤ n ∧ Below w.heap.size w w'

set_option maxRecDepth 100000 in
set_option maxHeartbeats 2000000 in
theorem picks_any (a : Option Addr) (len cap : Nat) (zs : List Int) (n : Nat) (w0 w : World) (h : IsRow .i64 w0 a len cap zs) (hW : Below w0.heap.size w0 w) (hn : n ≤ 1000) :
    Calls Try.prog 34 #[.slice a len cap, .int .i64 n] w (RetPicks w n) := by
  obtain ⟨hlm, hlz⟩ := h.len_le
  have HI := Lib.hid h
  have HW := Lib.hid hW
  have hzw := hW.size
  clear h hW
  go_enter Try.func34, Try.ntmps34
  go_wp2_with fail
  go_loopw [5, 6] (fun v i wr => ∃ k : Nat, k ≤ len ∧ k ≤ n ∧ i = .int .i64 k ∧ (∃ ps : List Nat, Hid (ps.length = k) ∧ Hid (∀ p ∈ ps, p ≤ 4) ∧ Hid (Wk.Own wr w.heap.size 3 1 v (ps.map pickCells))) ∧ Hid (Below w.heap.size w wr)) (fun _ i _ => len - (intOf i).toNat)
  case atStart => exact ⟨0, Nat.zero_le _, Nat.zero_le _, rfl, ⟨[], rfl, fun q h => (by cases h), Wk.Own.nil _ _ _ _⟩, Below.refl _ _⟩
  case round =>
    obtain ⟨k, hk, hkn, rfl, ⟨ps, HK, HQ, HO⟩, HB⟩ := hrel
    have hzr := HB.out.size
    by_cases hlt : k < len
    · by_cases hlt2 : k < n
      · obtain ⟨b, off, rfl, hb, hcs⟩ := HI.out.opened (by omega)
        obtain ⟨hc, x0, x1⟩ := hcs k hlt
        have hcr := ((HW.out.trans (HB.out.mono HW.out.size)).cell (p := ⟨b, off + k, none⟩) hb).trans hc
        generalize zs.getD k 0 = x at *
        have P1 := Lib.hid (fun w => picked_any x 5 w (by decide) (by decide))
        have r0 := Int.emod_nonneg x (show (5 : Int) ≠ 0 by decide)
        have r1 := Int.emod_lt_of_pos x (show (0 : Int) < 5 by decide)
        obtain ⟨r, hr⟩ := Int.eq_ofNat_of_zero_le r0
        rw [hr] at P1 r1
        have HR := Lib.hid r1
        clear hr r0 r1 hcs hc
        have HO2 := Lib.hid (HO.out.below ((Below.refl _ _).alloc (Nat.le_refl _) (.cells (pickCells r).toArray 3)))
        go_wp2_with (first | ((with_reducible refine (P1.out _).mono ?_); rintro e w' ⟨rfl, rfl⟩) | (at_builtin; refine wpList_append_rows rfl _ _ 57 3 1 8 _ rfl eiPick w.heap.size _ (ps.map pickCells) rfl HO2.out _ [pickCells r] rfl (sl_new (c := pickCells r) (by simp) rfl) (by intro c hc; simp at hc; subst hc; exact pickCells_one r) (by have := HK.out; simp; omega) (by decide) (by simp; omega) (by simp) ?_; intro v' w5 hown' hgr hb5))
        have hown2 : Wk.Own w5 w.heap.size 3 1 v' ((ps ++ [r]).map pickCells) := by rw [List.map_append]; exact hown'
        have hB5 : Below w.heap.size w w5 := (HB.out.alloc hzr _).trans (hb5.mono (Nat.le_refl _))
        have HO5 := Lib.hid hown2
        have HB5 := Lib.hid hB5
        clear hown' hgr hb5 hown2 hB5
        go_roundw
        case rel => exact ⟨k + 1, by omega, by omega, by go_num, ⟨ps ++ [r], by have := HK.out; show (ps ++ [r]).length = _; simp; omega, by
          intro x hx
          rcases List.mem_append.1 hx with hx | hx
          · exact HQ.out x hx
          · simp at hx; subst hx; have := HR.out; omega, HO5⟩, HB5⟩
        case measure => simp [intOf]; omega
      · have hd : decide ((k : Int) < n) = false := by simp; omega
        go_wp2
        go_returns
        exact ⟨_, ps, rfl, HO.out, HQ.out, by have := HK.out; omega, HB.out⟩
    · have hd : decide ((k : Int) < len) = false := by simp; omega
      go_wp2
      go_returns
      exact ⟨_, ps, rfl, HO.out, HQ.out, by have := HK.out; omega, HB.out⟩
/-- What paired answers. -/
def RetPaired (w : World) (al : List AskD) (pl : List Nat) (e : Ending) (w' : World) : Prop :=
  ∃ v, e = .returned (.tuple #[v, .int .i64 (prun (pasks al) pl).wt.length, .bool true]) ∧ Wk.Own w' w.heap.size 83 5 v ((prun (pasks al) pl).se.map seenCells) ∧ Below w.heap.size w w'
def oneAsk : List AskD := [⟨true, 0, 0, actZ⟩]
theorem oneAsk_ok : ∀ x ∈ oneAsk, x.ok := by
  intro x hx
  simp [oneAsk] at hx
  subst hx
  exact .inl ⟨rfl, by decide, by unfold Fits wd; decide, rfl⟩
theorem oneAsk_wt : (prun (pasks oneAsk) [0, 0, 0, 0]).wt.length = 0 := by rfl
theorem oneAsk_se : (prun (pasks oneAsk) [0, 0, 0, 0]).se.length = 1 := by rfl

set_option maxRecDepth 100000 in
set_option maxHeartbeats 4000000 in
theorem paired_any (a pa : Option Addr) (cap pcap : Nat) (al : List AskD) (pl : List Nat) (w : World) (hs : Sl w 14 (.slice a al.length cap) (al.map askCells)) (hp : Sl w 1 (.slice pa pl.length pcap) (pl.map pickCells)) (hl : al.length ≤ 100) (hpl : pl.length ≤ 300) (hok : ∀ x ∈ al, AskD.ok x) (hpk : ∀ n ∈ pl, n ≤ 4) :
    Calls Try.prog 35 #[.slice a al.length cap, .slice pa pl.length pcap] w (RetPaired w al pl) := by
  have HS := Lib.hid hs
  have HP := Lib.hid hp
  have HK := Lib.hid hok
  have HK2 := Lib.hid hpk
  clear hs hp hok hpk
  go_enter Try.func35, Try.ntmps35
  go_wp2_with (at_builtin; refine stop_at ?_; intro G hG)
  rw [← hG.out]; clear hG G
  refine wpList_append_any rfl _ _ 72 79 14 112 _ rfl eiAsk _ (.slice none 0 0) [] rfl (Wk.Own.nil _ _ _ _) (.slice a al.length cap) (al.map askCells) rfl HS.out (by intro c hc; obtain ⟨r, _, rfl⟩ := List.mem_map.1 hc; exact askCells_one r) (by simp; omega) (by decide) (Nat.le_refl _) ?_
  intro v1 w1 ho1 hb1
  rw [List.nil_append] at ho1
  obtain ⟨a1, c1, rfl⟩ := ho1.shape
  rw [List.length_map] at ho1 ⊢
  have HS1 := Lib.hid ho1.sl
  have HP1 := Lib.hid (HP.out.below hb1)
  have HB1 := Lib.hid hb1
  clear ho1 hb1
  go_wp2_with (at_builtin; refine stop_at ?_; intro G hG)
  rw [← hG.out]; clear hG G
  refine wpList_append_any rfl _ _ 57 3 1 8 _ rfl eiPick _ (.slice none 0 0) [] rfl (Wk.Own.nil _ _ _ _) (.slice pa pl.length pcap) (pl.map pickCells) rfl HP1.out (by intro c hc; obtain ⟨r, _, rfl⟩ := List.mem_map.1 hc; exact pickCells_one r) (by simp; omega) (by decide) (Nat.le_refl _) ?_
  intro v2 w2 ho2 hb2
  rw [List.nil_append] at ho2
  obtain ⟨a2, c2, rfl⟩ := ho2.shape
  rw [List.length_map] at ho2 ⊢
  have HP2 := Lib.hid ho2.sl
  have HS2 := Lib.hid (HS1.out.below hb2)
  have HB2 := Lib.hid (HB1.out.trans (hb2.mono HB1.out.size))
  clear ho2 hb2
  go_wp2_with fail
  refine (pPlay_any a1 a2 c1 c2 al pl w2 HS2.out HP2.out hl hpl HK.out HK2.out).mono ?_
  rintro e w3 ⟨v3, rfl, ho3, hb3⟩
  obtain ⟨a3, c3, rfl⟩ := ho3.shape
  rw [List.length_map] at ho3 ⊢
  have HS3 := Lib.hid (ho3.base HB2.out.size)
  have HB3 := Lib.hid (HB2.out.trans (hb3.mono HB2.out.size))
  generalize hn3 : (prun (pasks al) pl).se.length = n3 at *
  generalize hl3 : (prun (pasks al) pl).wt.length = l3 at *
  have HN3 := Lib.hid hn3
  have HL3 := Lib.hid hl3
  have hz3 := HB3.out.size
  clear ho3 hb3 hn3 hl3
  go_wp2_with fail
  have HA := Lib.hid (sl_many (W := w3) (sz := 14) (n := 1) (xs := oneAsk.map askCells) (cs := #[.int .i64 1, .int .i64 0, .bool false, .int .u64 0, .int .u64 0, .int .i64 0, .bool false, .int .u64 0, .int .u64 0, .int .i64 0, .int .i64 0, .bool false, .int .u64 0, .int .u64 0]) (E := 79) rfl (by intro c hc; obtain ⟨j, _, rfl⟩ := List.mem_map.1 hc; rfl) rfl rfl (by decide))
  have HI := Lib.hid (sl_many (W := w3.alloc (.cells #[.int .i64 1, .int .i64 0, .bool false, .int .u64 0, .int .u64 0, .int .i64 0, .bool false, .int .u64 0, .int .u64 0, .int .i64 0, .int .i64 0, .bool false, .int .u64 0, .int .u64 0] 79)) (sz := 1) (n := 4) (xs := [0, 0, 0, 0].map pickCells) (cs := #[.int .i64 0, .int .i64 0, .int .i64 0, .int .i64 0]) (E := 3) rfl (by intro c hc; obtain ⟨j, _, rfl⟩ := List.mem_map.1 hc; rfl) rfl rfl (by decide))
  have hI := HI.out
  rw [World.size_alloc] at hI
  refine (pPlay_any _ _ _ _ oneAsk [0, 0, 0, 0] _ (HA.out.below ((Below.refl _ _).alloc (Nat.le_refl _) _)) hI (by decide) (by decide) oneAsk_ok (by decide)).mono ?_
  rintro e w4 ⟨v4, rfl, ho4, hb4⟩
  obtain ⟨a4, c4, rfl⟩ := ho4.shape
  rw [List.length_map, oneAsk_se] at *
  rw [oneAsk_wt]
  have hb34 : Below w3.heap.size w3 w4 := (((Below.refl _ _).alloc (Nat.le_refl _) _).alloc (by simp) _).trans (hb4.mono (by simp; omega))
  have HS4 := Lib.hid (HS3.out.below hb34)
  have HB4 := Lib.hid (HB3.out.trans (hb34.mono hz3))
  clear HA HI hI ho4 hb4 hb34
  go_wp2_with fail
  go_returns
  exact ⟨.slice a3 n3 c3, by rw [HL3.out]; rfl, HS4.out, HB4.out⟩
end Go.Proofs.Yteadfobfenopkaa
