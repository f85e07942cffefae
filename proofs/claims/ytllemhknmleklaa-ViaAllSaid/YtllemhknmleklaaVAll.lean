
/- via.All: the walk. -/
import Derived.Test.YtllemhknmleklaaVAllP
import Derived.Test.YtllemhknmleklaaMr
import Derived.Test.YtllemhknmleklaaVias
set_option linter.unusedVariables false
namespace Go.Proofs.Ytllemhknmleklaa
open Go.RowKit Go.Sort Wc Wk

def SortVia : Prop := ∀ (B : Nat) (v : Value) (xs : List ViaD) (w : World), xs.length ≤ 1000 → Own w B 76 3 v (xs.map viaCells) →
    Calls Try.prog 62 #[v, .func (.func 63) #[] #[]] w fun e w' => e = .returned (.tuple #[]) ∧ ∃ ys : List ViaD, ys.Perm xs ∧ ys.Pairwise (fun a b => a.hop ≤ b.hop) ∧ Own w' B 76 3 v (ys.map viaCells) ∧ w.grownBy w' v.ownBlock

theorem own_past {w w' : World} {B sz R : Nat} {e : TypeId} {v : Value} {xs : List (List Value)} (ho : Own w B e sz v xs) (hg : w.grownBy w' (some R)) (hR : R < B) : Own w' B e sz v xs :=
  ⟨ho.1, ho.2.kept hg (.inr (fun he => by have := (ho.lt R he).1; omega))⟩

theorem own_less {w : World} {B B' : Nat} {e : TypeId} {sz : Nat} {v : Value} {xs : List (List Value)} (h : Wk.Own w B e sz v xs) (hB : B' ≤ B) : Wk.Own w B' e sz v xs := by
  refine ⟨h.1, h.2.1, ?_⟩
  rcases h.2.2 with hn | ⟨g, cap, cur, a, b, rest⟩
  · exact .inl hn
  · exact .inr ⟨g, cap, cur, a, Nat.le_trans hB b, rest⟩


set_option maxRecDepth 100000 in
set_option maxHeartbeats 4000000 in
theorem all_any (S : SortVia) (a : Option Addr) (cap : Nat) (l : List ViaD) (w : World) (hs : Sl w 3 (.slice a l.length cap) (l.map viaCells)) (hlen : l.length ≤ 60) (hok : ∀ v ∈ l, v.ok) (hd : hopsApart l) :
    Calls Try.prog 26 #[.slice a l.length cap] w fun e w' => ∃ (v : Value) (ys : List ViaD), e = .returned (.tuple #[v, .int .i64 0]) ∧ Own w' w.heap.size 76 3 v (ys.map viaCells) ∧ AllR l ys ∧ ys.length ≤ 60 ∧ Below w.heap.size w w' := by
  have HOK := Lib.hid hok
  go_enter Try.func26, Try.ntmps26
  go_wp2_with fail
  refine (known_ok a cap l _ hs hlen hok hd).mono ?_
  rintro e w1 ⟨b, rfl, HM, hb, hb1⟩; (repeat (with_reducible (replace hb1 := Below.undrew hb1))); obtain ⟨hc1, hf1⟩ := bcell hb1; have hz1 := hb1.size; (repeat (first | rw [World.size_alloc] at hz1 | rw [World.size_drew] at hz1 | rw [World.size_setCell] at hz1)); (try have : w.heap.size < w1.heap.size := by omega); (try have : w.heap.size < w1.heap.size + 1 := by omega); (try have : w.heap.size < w1.heap.size + 1 + 1 := by omega); (try have : w.heap.size < w1.heap.size + 1 + 1 + 1 := by omega)
  have HM := Lib.hid HM
  have hbl := HM.out.lt
  clear hs hok hd
  go_wp2_with (at_range; refine wpList_mp_range _ rfl _ 151 rfl _ _ keyedInt Try.underlying151 _ _ _ rfl HM.out ?_; intro w0 left0 cnt0 hr0 hl0 hb0 hs0)
  have HR0 := Lib.hid hr0
  have HL0 := Lib.hid (AllI.start hl0)
  have hc0 := hr0.cnt_le
  clear hr0 hl0
  generalize hrr : w1.heap.size = r at *
  go_frame
  go_loopw [6] (fun x wr => ∃ (left : Lit → Bool) (cnt : Nat) (xs : List ViaD), Hid (MpR wr Try.prog 3 b r l.length (viaF l) left cnt) ∧ Hid (AllI l left xs) ∧ xs.length + cnt ≤ l.length ∧ Hid (Own wr (r + 1) 76 3 x (xs.map viaCells)) ∧ Below r w0 wr ∧ r + 1 ≤ wr.heap.size) (fun _ wr => wr.rangeLeft b r)
  case atStart => exact ⟨left0, cnt0, [], HR0, HL0, by simpa using hc0, Own.nil _ _ _ _, Below.refl _ _, by omega⟩
  case round =>
    obtain ⟨left, cnt, xs, HR, HA, hcx, HO, hbr, hzr⟩ := hrel
    have hlr := HR.out.lt
    obtain ⟨a6, cap6, hv6, hcap6, hcap62⟩ := HO.out.sl.shape
    rw [List.length_map] at hv6 hcap6
    subst hv6
    go_wp2_with (at_next; refine wpList_mp_next _ rfl _ rfl _ keyedInt b r l.length _ left cnt rfl HR.out ?_ ?_)
    · intro hl0
      have HL := Lib.hid hl0
      clear hl0
      have SX := Lib.hid (S (r + 1) (.slice a6 xs.length cap6) xs wr (by omega) HO.out)
      go_wp2_with ((with_reducible refine SX.out.mono ?_); rintro e w2 ⟨rfl, ys, hp, hsr, ho2, hg2⟩)
      have hB2 : Below (r + 1) wr w2 := (Below.refl (r + 1) wr).grown hg2 hzr (fun k hk => (HO.out.lt k hk).1)
      have hw2 : Below w.heap.size w w2 := by
        have := hb1.size
        exact hb1.trans ((hb0.mono (by omega)).trans ((hbr.mono (by omega)).trans (hB2.mono (by omega))))
      have hR2 := Lib.hid (AllI.done HA.out HL.out hp hsr)
      have hl2 : ys.length ≤ 60 := by rw [hp.length_eq]; omega
      have ho3 := Lib.hid (own_less (B' := w.heap.size) ho2 (by have := hb1.size; omega))
      clear ho2 hp hsr hg2 HA HL SX
      refine bodyPost_ret (v := .tuple #[.slice a6 xs.length cap6, .int .i64 0]) (by simp [results, Try.results26, go_sem, *]) rfl ⟨_, ys, rfl, ho3.out, hR2.out, hl2, hw2⟩
    · intro key v kl w2 cnt2 hkey hlk hfv hr2 hlt2 hg2 hs2 hen
      obtain ⟨h, rfl, rfl, hwf⟩ := Maps.keyOf_int_inv Try.underlying3 hkey
      obtain ⟨u, hu, rfl⟩ : ∃ u, viaAt l h = some u ∧ viaVal u = v := Option.map_eq_some_iff.1 hfv
      obtain ⟨hmem, rfl⟩ := viaAt_mem hu
      obtain ⟨k1, k2, k3⟩ := HOK.out u hmem
      have hmp2 := hr2.mp
      have PT := Lib.hid (port_any b l.length u.hop l w2 hmp2 HOK.out (by omega))
      have HR2 := Lib.hid hr2
      have HO2 := Lib.hid (own_past HO.out hg2 (Nat.lt_succ_self r))
      have HLK := Lib.hid hlk
      have hb2 : Below r w0 w2 := hbr.trans ((Below.refl r wr).grown hg2 (by omega) (fun k hk => by cases hk; exact Nat.le_refl _))
      have hls : xs.length + cnt2 + 1 ≤ l.length := by omega
      clear hr2 hmp2 hu hmem k3 hwf hkey hfv hlk
      unfold port3 at PT
      have HRS := Lib.hid (show res l u.hop = if (portW l 10 [] u.hop).2.2 = 0 then some (portW l 10 [] u.hop).1 else none from rfl)
      have HPC := Lib.hid (portW_code l 10 [] u.hop rfl)
      generalize portW l 10 [] u.hop = A at *
      obtain ⟨p, d, e⟩ := A
      dsimp only at PT HRS HPC
      by_cases he : e = 0
      · subst he
        have HY := Lib.hid (AllI.yes HA.out HLK.out (show res l u.hop = some p by rw [HRS.out]; rfl))
        clear HA HRS HPC
        go_wp2_with (first | ((with_reducible refine PT.out.mono ?_); rintro e w3 ⟨rfl, hb3⟩; (repeat (with_reducible (replace hb3 := Below.undrew hb3))); obtain ⟨hc3, hf3⟩ := bcell hb3; have hz3 := hb3.size; (repeat (first | rw [World.size_alloc] at hz3 | rw [World.size_drew] at hz3 | rw [World.size_setCell] at hz3)); (try have : w.heap.size < w3.heap.size := by omega); (try have : w.heap.size < w3.heap.size + 1 := by omega); (try have : w.heap.size < w3.heap.size + 1 + 1 := by omega); (try have : w.heap.size < w3.heap.size + 1 + 1 + 1 := by omega); (try have : w1.heap.size < w3.heap.size := by omega); (try have : w1.heap.size < w3.heap.size + 1 := by omega); (try have : w1.heap.size < w3.heap.size + 1 + 1 := by omega); (try have : w1.heap.size < w3.heap.size + 1 + 1 + 1 := by omega); (try have : w2.heap.size < w3.heap.size := by omega); (try have : w2.heap.size < w3.heap.size + 1 := by omega); (try have : w2.heap.size < w3.heap.size + 1 + 1 := by omega); (try have : w2.heap.size < w3.heap.size + 1 + 1 + 1 := by omega)) | (at_builtin; refine stop_at ?_; intro G hG))
        rw [← hG.out]; clear hG G
        refine wpList_append_any rfl _ _ 69 76 3 24 _ rfl eiVia (r + 1) _ ((xs).map viaCells) rfl (((HO2.out.below hb3).alloc _)) _ (([(⟨u.hop, p, 0⟩ : ViaD)]).map viaCells) rfl (sl_via1 (⟨u.hop, p, 0⟩ : ViaD) (by simp)) (by intro c hc; obtain ⟨r, _, rfl⟩ := List.mem_map.1 hc; exact viaCells_one r) (by skip; first | omega | (simp; omega)) (by decide) (by first | omega | (simp; done) | (simp; omega)) ?_
        intro v4 w4 hown4 hb4
        rw [← List.map_append] at hown4
        obtain ⟨xs4, hxs4⟩ : ∃ x : List ViaD, x = (xs) ++ ([(⟨u.hop, p, 0⟩ : ViaD)]) := ⟨_, rfl⟩
        rw [← hxs4] at hown4
        have hl4 : xs4.length = (xs).length + ([(⟨u.hop, p, 0⟩ : ViaD)]).length := by rw [hxs4, List.length_append]
        have HX4 := Lib.hid hxs4
        clear hxs4
        have HL4 := Lib.hid hl4
        clear hl4
        obtain ⟨a4, cap4, rfl⟩ := hown4.shape
        rw [List.length_map] at hown4 ⊢
        have HO4 := Lib.hid hown4
        clear hown4
        obtain ⟨hc4, hf4⟩ := bcellB hb4; have hz4 := hb4.size; (repeat (first | rw [World.size_alloc] at hz4 | rw [World.size_drew] at hz4 | rw [World.size_setCell] at hz4)); (try have : w.heap.size < w4.heap.size := by omega); (try have : w.heap.size < w4.heap.size + 1 := by omega); (try have : w.heap.size < w4.heap.size + 1 + 1 := by omega); (try have : w.heap.size < w4.heap.size + 1 + 1 + 1 := by omega); (try have : w1.heap.size < w4.heap.size := by omega); (try have : w1.heap.size < w4.heap.size + 1 := by omega); (try have : w1.heap.size < w4.heap.size + 1 + 1 := by omega); (try have : w1.heap.size < w4.heap.size + 1 + 1 + 1 := by omega); (try have : w2.heap.size < w4.heap.size := by omega); (try have : w2.heap.size < w4.heap.size + 1 := by omega); (try have : w2.heap.size < w4.heap.size + 1 + 1 := by omega); (try have : w2.heap.size < w4.heap.size + 1 + 1 + 1 := by omega); (try have : w3.heap.size < w4.heap.size := by omega); (try have : w3.heap.size < w4.heap.size + 1 := by omega); (try have : w3.heap.size < w4.heap.size + 1 + 1 := by omega); (try have : w3.heap.size < w4.heap.size + 1 + 1 + 1 := by omega)
        have B4 : Below (r + 1) w2 w4 := (hb3.mono (by omega)).trans (((Below.refl (r + 1) w3).alloc (by omega) _).trans hb4)
        have HR4 := Lib.hid (HR2.out.kept B4 (by omega) (by omega))
        have HY4 : Hid (AllI l (fun z => left z && !z.sameKey (Lit.int IntKind.i64 u.hop)) xs4) := by rw [HX4.out]; exact HY.out
        have h4 : xs4.length = xs.length + 1 := by have := HL4.out; simpa using this
        have hz4 := B4.size
        have hl4 : xs4.length + cnt2 ≤ l.length := by omega
        have H4 := Lib.hid h4
        clear h4 HX4 HL4 HR2 HY hls
        go_wp2
        go_roundw
        case rel => exact ⟨_, cnt2, xs4, HR4, HY4, hl4, HO4, hb2.trans (B4.mono (by omega)), by omega⟩
        case measure => rw [HR4.out.left_eq, HR.out.left_eq]; exact hlt2
      · have HN : res l u.hop = none := by rw [HRS.out]; exact if_neg he
        have HY := Lib.hid (AllI.no HA.out HN)
        have hne : ((e : Int) == 0) = false := by rw [beq_eq_false_iff_ne]; omega
        clear HA HRS HPC HN he
        go_wp2_with ((with_reducible refine PT.out.mono ?_); rintro e w3 ⟨rfl, hb3⟩; (repeat (with_reducible (replace hb3 := Below.undrew hb3))); obtain ⟨hc3, hf3⟩ := bcell hb3; have hz3 := hb3.size; (repeat (first | rw [World.size_alloc] at hz3 | rw [World.size_drew] at hz3 | rw [World.size_setCell] at hz3)); (try have : w.heap.size < w3.heap.size := by omega); (try have : w.heap.size < w3.heap.size + 1 := by omega); (try have : w.heap.size < w3.heap.size + 1 + 1 := by omega); (try have : w.heap.size < w3.heap.size + 1 + 1 + 1 := by omega); (try have : w1.heap.size < w3.heap.size := by omega); (try have : w1.heap.size < w3.heap.size + 1 := by omega); (try have : w1.heap.size < w3.heap.size + 1 + 1 := by omega); (try have : w1.heap.size < w3.heap.size + 1 + 1 + 1 := by omega); (try have : w2.heap.size < w3.heap.size := by omega); (try have : w2.heap.size < w3.heap.size + 1 := by omega); (try have : w2.heap.size < w3.heap.size + 1 + 1 := by omega); (try have : w2.heap.size < w3.heap.size + 1 + 1 + 1 := by omega))
        have hz3 := hb3.size
        go_roundw
        case rel => exact ⟨_, cnt2, xs, HR2.out.kept hb3 (by omega) (by omega), HY, by omega, HO2.out.below hb3, hb2.trans (hb3.mono (by omega)), by omega⟩
        case measure => rw [(HR2.out.kept hb3 (by omega) (by omega)).left_eq, HR.out.left_eq]; exact hlt2
end Go.Proofs.Ytllemhknmleklaa
