
/- Contract: offers.live. -/
import Derived.Test.YtllemhknmleklaaOfP
import Derived.Test.YtllemhknmleklaaMr
import Derived.Test.YtllemhknmleklaaActs
set_option linter.unusedVariables false
set_option linter.unusedSimpArgs false
namespace Go.Proofs.Ytllemhknmleklaa
open Go.RowKit Go.Sort Wc Wk Go.WideShapes

theorem klKey (o : OfD) : WideAt.IsKeyLit o.kl := trivial
theorem plKey (o : OfD) : WideAt.IsKeyLit o.pl := trivial
theorem run_makeMap0 {P : Program} (t : TypeId) (w : World) : (Instr.makeMap t none).run P w = .ok (.map (some w.heap.size)) (w.alloc (.map #[] 0)) := rfl
theorem grown_cell {w w' : World} {r b o : Nat} (hg : w.grownBy w' (some r)) (hb : b < w.heap.size) (hne : b ≠ r) : w'.cell? ⟨b, o, none⟩ = w.cell? ⟨b, o, none⟩ :=
  World.cell?_of_block (a := ⟨b, o, none⟩) (hg.block b hb (fun e => hne (by cases e; rfl)))
theorem Sl.of8 {w w' : World} {a : Option Addr} {n cap : Nat} {l : List OfD} (hs : Sl w 8 (.slice a n cap) (l.map ofCells)) (hb : Below w.heap.size w w') {i : Nat} {v : OfD} (hv : l[i]? = some v) :
    ∃ b off, a = some ⟨b, off, none⟩ ∧ b < w.heap.size ∧ w'.cell? ⟨b, off + i * 8, none⟩ = some (.bool false) ∧ w'.cell? ⟨b, off + i * 8 + 1, none⟩ = some (.int .u64 (hiOf false v.n)) ∧ w'.cell? ⟨b, off + i * 8 + 2, none⟩ = some (.int .u64 (loOf v.n)) ∧ w'.cell? ⟨b, off + i * 8 + 3, none⟩ = some (.int .i64 v.k) ∧
      w'.cell? ⟨b, off + i * 8 + 4, none⟩ = some (.int .i64 v.src) ∧ w'.cell? ⟨b, off + i * 8 + 5, none⟩ = some (.int .i64 v.peer) ∧ w'.cell? ⟨b, off + i * 8 + 6, none⟩ = some (.int .i64 v.met) ∧ w'.cell? ⟨b, off + i * 8 + 7, none⟩ = some (.int .i64 v.hop) := by
  obtain ⟨b, off, ha, hlt, hc⟩ := Sl.at hs (i := i) (c := ofCells v) (by rw [List.getElem?_map, hv]; rfl)
  have g := fun j u (h : (ofCells v)[j]? = some u) => (hb.cell (p := ⟨b, off + i * 8 + j, none⟩) hlt).trans (hc j u h)
  exact ⟨b, off, ha, hlt, g 0 _ rfl, g 1 _ rfl, g 2 _ rfl, g 3 _ rfl, g 4 _ rfl, g 5 _ rfl, g 6 _ rfl, g 7 _ rfl⟩
theorem take_live {l : List OfD} {j : Nat} {o : OfD} (h : l[j]? = some o) : liveL (l.take (j + 1)) = lstep (liveL (l.take j)) o := by
  rw [List.take_add_one, h]
  exact liveL_snoc _ _


set_option maxRecDepth 100000 in
set_option maxHeartbeats 4000000 in
theorem live_any (a : Option Addr) (cap : Nat) (l : List OfD) (w : World) (hs : Sl w 8 (.slice a l.length cap) (l.map ofCells)) (hlen : l.length ≤ 100) (hok : ∀ v ∈ l, v.ok) :
    Calls Try.prog 111 #[.slice a l.length cap] w fun e w' => ∃ b f, e = .returned (.tuple #[.map (some b), .int .i64 0]) ∧ Mp w' Try.prog 222 b l.length f ∧ MapM OfD.kl f (liveL l) ∧ w.heap.size ≤ b ∧ Below w.heap.size w w' := by
  have HS := Lib.hid hs
  have HOK := Lib.hid hok
  clear hs hok
  have hmm := fun (t : TypeId) (w : World) => run_makeMap0 (P := Try.prog) t w
  go_enter Try.func111, Try.ntmps111
  go_wp2_with fail
  clear hmm
  go_loopw [15] (fun i wr => ∃ j : Nat, j ≤ l.length ∧ i = .int .i64 j ∧ Hid (∃ f, Mp wr Try.prog 222 w.heap.size j f ∧ MapM OfD.kl f (liveL (l.take j))) ∧ Below w.heap.size w wr ∧ w.heap.size < wr.heap.size) (fun i _ => l.length - (intOf i).toNat)
  case atStart => exact ⟨0, Nat.zero_le _, rfl, ⟨_, Mp.made w _ _, MapM.none _⟩, (Below.refl _ _).alloc (Nat.le_refl _) _, by simp⟩
  case round =>
    obtain ⟨j, hj, rfl, HM, hbr, hzr⟩ := hrel
    by_cases hlt : j < l.length
    · obtain ⟨o, ho⟩ : ∃ o, l[j]? = some o := ⟨_, List.getElem?_eq_getElem hlt⟩
      obtain ⟨b, off, rfl, hb, d0, d1, d2, d3, d4, d5, d6, d7⟩ := Sl.of8 HS.out hbr ho
      have hO := HOK.out o (List.mem_of_getElem? ho)
      have C := Lib.hid (fun w => ocheck_any o w hO)
      have KK := Lib.hid hO.key
      have HV := Lib.hid (take_live ho)
      obtain ⟨f, hmp, hmm⟩ := HM.out
      have HMP := Lib.hid hmp
      have HMM := Lib.hid hmm
      clear ho hO HM hmp hmm
      go_wp2_with (first | ((with_reducible refine (C.out _).mono ?_); rintro e w1 ⟨rfl, hb1⟩; (repeat (with_reducible (replace hb1 := Below.undrew hb1))); obtain ⟨hc1, hf1⟩ := bcell hb1; have hz1 := hb1.size; (repeat (first | rw [World.size_alloc] at hz1 | rw [World.size_drew] at hz1 | rw [World.size_setCell] at hz1)); (try have : w.heap.size < w1.heap.size := by omega); (try have : w.heap.size < w1.heap.size + 1 := by omega); (try have : w.heap.size < w1.heap.size + 1 + 1 := by omega); (try have : w.heap.size < w1.heap.size + 1 + 1 + 1 := by omega); (try have : w.heap.size + 1 < w1.heap.size := by omega); (try have : w.heap.size + 1 < w1.heap.size + 1 := by omega); (try have : w.heap.size + 1 < w1.heap.size + 1 + 1 := by omega); (try have : w.heap.size + 1 < w1.heap.size + 1 + 1 + 1 := by omega); (try have : wr.heap.size < w1.heap.size := by omega); (try have : wr.heap.size < w1.heap.size + 1 := by omega); (try have : wr.heap.size < w1.heap.size + 1 + 1 := by omega); (try have : wr.heap.size < w1.heap.size + 1 + 1 + 1 := by omega); (try have : wr.heap.size + 1 < w1.heap.size := by omega); (try have : wr.heap.size + 1 < w1.heap.size + 1 := by omega); (try have : wr.heap.size + 1 < w1.heap.size + 1 + 1 := by omega); (try have : wr.heap.size + 1 < w1.heap.size + 1 + 1 + 1 := by omega)) | (at_mapUpdate; refine stop_at ?_; intro G hG))
      rw [← hG.out]; clear hG G
      obtain ⟨X, hX⟩ : ∃ X, X = w1.alloc (.cells #[.bool false, .int .u64 (hiOf false o.n), .int .u64 (loOf o.n), .int .i64 o.k, .int .i64 o.src, .int .i64 o.peer] 222) := ⟨_, rfl⟩
      have hw1 : wr.heap.size < w1.heap.size := by omega
      have x6 : X.cell? ⟨wr.heap.size, 6, none⟩ = some (.int .i64 o.met) := by
        rw [hX]
        exact (((Below.refl w1.heap.size w1).alloc (Nat.le_refl _) _).cell (p := ⟨wr.heap.size, 6, none⟩) hw1).trans ((hc1 _ _ (by simp)).trans (by simp))
      have k0 : X.cell? ⟨w1.heap.size, 0, none⟩ = some (.bool false) := by rw [hX]; simp
      have k1 : X.cell? ⟨w1.heap.size, 1, none⟩ = some (.int .u64 (hiOf false o.n)) := by rw [hX]; simp
      have k2 : X.cell? ⟨w1.heap.size, 2, none⟩ = some (.int .u64 (loOf o.n)) := by rw [hX]; simp
      have k3 : X.cell? ⟨w1.heap.size, 3, none⟩ = some (.int .i64 o.k) := by rw [hX]; simp
      have k4 : X.cell? ⟨w1.heap.size, 4, none⟩ = some (.int .i64 o.src) := by rw [hX]; simp
      have k5 : X.cell? ⟨w1.heap.size, 5, none⟩ = some (.int .i64 o.peer) := by rw [hX]; simp
      have hXs : X.heap.size = w1.heap.size + 1 := by rw [hX]; simp
      have hB1 : Below wr.heap.size wr X := by
        rw [hX]
        exact ((((Below.refl wr.heap.size wr).alloc (Nat.le_refl _) _).trans (hb1.mono (by simp)))).alloc (by omega) _
      have HMX := Lib.hid (HMP.out.below hB1)
      have HBX := Lib.hid (hbr.trans (hB1.mono (by omega)))
      rw [← hX]
      clear hX hc1 hf1 hb1 hB1 HMP hbr HS d0 d1 d2 d3 d4 d5 d6 d7
      refine wpList_mp_update X rfl _ _ _ 217 rfl _ _ keyedKey Try.underlying217 _ _ _ rfl HMX.out (by unfold maxLen; omega) _ (ofVal o) _ rfl rfl KK.out ?_
      intro w2 hmp2 hgr2
      have hz2 := hgr2.size
      have x6' := (grown_cell (o := 6) hgr2 (b := wr.heap.size) (by omega) (by omega)).trans x6
      have hb2 : Below w.heap.size w w2 := HBX.out.trans (Below.grownMap hgr2 (by omega) (Nat.le_refl _))
      have HM2 := Lib.hid hmp2
      have HP2 := Lib.hid (MapM.put klKey HMM.out o)
      clear hmp2 HMX HMM
      by_cases hm : o.met = 999
      · have k0' := (grown_cell (o := 0) hgr2 (b := w1.heap.size) (by omega) (by omega)).trans k0
        have k1' := (grown_cell (o := 1) hgr2 (b := w1.heap.size) (by omega) (by omega)).trans k1
        have k2' := (grown_cell (o := 2) hgr2 (b := w1.heap.size) (by omega) (by omega)).trans k2
        have k3' := (grown_cell (o := 3) hgr2 (b := w1.heap.size) (by omega) (by omega)).trans k3
        have k4' := (grown_cell (o := 4) hgr2 (b := w1.heap.size) (by omega) (by omega)).trans k4
        have k5' := (grown_cell (o := 5) hgr2 (b := w1.heap.size) (by omega) (by omega)).trans k5
        have HM := Lib.hid hm
        rw [hm] at x6'
        clear hm k0 k1 k2 k3 k4 k5 hgr2 x6
        go_wp2_with (at_delete; refine stop_at ?_; intro G hG)
        rw [← hG.out]; clear hG G
        refine wpList_mp_delete _ rfl _ _ 217 222 rfl _ keyedKey Try.underlying217 _ _ _ rfl HM2.out _ _ rfl KK.out ?_
        intro w3 hmp3 ht3
        have HM3 := Lib.hid hmp3
        have hb3 : Below w.heap.size w w3 := hb2.trans (Below.grownMap ht3.grown (by omega) (Nat.le_refl _))
        have hz3 := ht3.grown.size
        have HP3 := Lib.hid (show MapM OfD.kl _ (liveL (l.take (j + 1))) by
          rw [HV.out]; unfold lstep; rw [if_pos HM.out]; exact MapM.del klKey HP2.out o)
        clear hmp3 ht3 HM2 HP2 hb2
        go_wp2
        go_roundw
        case rel => exact ⟨j + 1, by omega, by go_num, Lib.hid ⟨_, HM3.out, HP3.out⟩, hb3, by omega⟩
        case measure => simp [intOf]; omega
      · have he : ((o.met : Int) == 999) = false := by rw [beq_eq_false_iff_ne]; omega
        have HP3 := Lib.hid (show MapM OfD.kl _ (liveL (l.take (j + 1))) by
          rw [HV.out]; unfold lstep; rw [if_neg hm]; exact HP2.out)
        clear hm k0 k1 k2 k3 k4 k5 hgr2 x6 HP2
        go_wp2
        go_roundw
        case rel => exact ⟨j + 1, by omega, by go_num, Lib.hid ⟨_, HM2.out, HP3.out⟩, hb2, by omega⟩
        case measure => simp [intOf]; omega
    · obtain rfl : j = l.length := by omega
      obtain ⟨f, hmp, hmm⟩ := HM.out
      rw [List.take_length] at hmm
      have HMP := Lib.hid hmp
      have HMM := Lib.hid hmm
      clear HM hmp hmm
      go_wp2
      refine bodyPost_ret (v := .tuple #[.map (some w.heap.size), .int .i64 0]) (by simp [results, Try.results111, go_sem, *]) rfl ⟨_, _, rfl, HMP.out, HMM.out, Nat.le_refl _, hbr⟩
end Go.Proofs.Ytllemhknmleklaa
