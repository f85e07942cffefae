
/- The laws' maker of matches. -/
import Derived.Test.YtlcacocecdnpnaaCls5
import Derived.Test.YtlcacocecdnpnaaRules
import Derived.Deep.DeepCutAuto
set_option linter.unusedVariables false
namespace Go.Proofs.Ytlcacocecdnpnaa
open Go.RowKit Go.Sort Wc Wk

/-- What a slice of integers reads as: its cells, within its length. -/
def Rd (w : World) (a : Option Addr) (len : Nat) (zs : List Int) : Prop := len ≤ 9223372036854775807 ∧ (0 < len → ∃ b off, a = some ⟨b, off, none⟩ ∧ b < w.heap.size ∧
    ∀ i, i < len → w.cell? ⟨b, off + i, none⟩ = some (.int .i64 (zs.getD i 0)) ∧ -9223372036854775808 ≤ zs.getD i 0 ∧ zs.getD i 0 ≤ 9223372036854775807)
theorem IsRow.rd {w : World} {a : Option Addr} {len cap : Nat} {zs : List Int} (h : IsRow .i64 w a len cap zs) : Rd w a len zs := ⟨h.len_le.1, fun hp => h.opened hp⟩

/-- What Matches hands back: matches that may be, in a slice of its own. -/
def RetMats (w : World) (n : Nat) (r : Ending) (w' : World) : Prop := ∃ (v : Value) (ms : List MatchD), r = .returned v ∧ Own w' w.heap.size 78 9 v (ms.map matchCells) ∧ (∀ q ∈ ms, MatchD.ok q) ∧ ms.length ≤ n ∧ Below w.heap.size w w'

structure PC (w : World) (p : Nat) (n k : Nat) : Prop where
  lt : p < w.heap.size
  c0 : w.cell? ⟨p, 0, none⟩ = some (.bool false)
  c1 : w.cell? ⟨p, 1, none⟩ = some (.int .u64 (hiOf false n))
  c2 : w.cell? ⟨p, 2, none⟩ = some (.int .u64 (loOf n))
  c3 : w.cell? ⟨p, 3, none⟩ = some (.int .i64 k)
  f0 : w.frozen? ⟨p, 0, none⟩ = false
  f1 : w.frozen? ⟨p, 1, none⟩ = false
  f2 : w.frozen? ⟨p, 2, none⟩ = false
  f3 : w.frozen? ⟨p, 3, none⟩ = false
structure Two (wr wx : World) (p q : Nat) : Prop where
  bel : Below wr.heap.size wr wx
  lep : wr.heap.size ≤ p
  ltq : p < q
  pcp : ∃ n k, VP false n k ∧ PC wx p n k
  pcq : ∃ n k, VP false n k ∧ PC wx q n k
theorem PC.new (w : World) (n k : Nat) : PC (w.alloc (.cells #[.bool false, .int .u64 (hiOf false n), .int .u64 (loOf n), .int .i64 k] 40)) w.heap.size n k := by constructor <;> simp
theorem PC.below {w w' : World} {p n k : Nat} (h : PC w p n k) (hb : Below w.heap.size w w') : PC w' p n k :=
  ⟨Nat.lt_of_lt_of_le h.lt hb.size, (hb.cell (p := ⟨p, 0, none⟩) h.lt).trans h.c0, (hb.cell (p := ⟨p, 1, none⟩) h.lt).trans h.c1, (hb.cell (p := ⟨p, 2, none⟩) h.lt).trans h.c2, (hb.cell (p := ⟨p, 3, none⟩) h.lt).trans h.c3,
    (hb.frozen (p := ⟨p, 0, none⟩) h.lt).trans h.f0, (hb.frozen (p := ⟨p, 1, none⟩) h.lt).trans h.f1, (hb.frozen (p := ⟨p, 2, none⟩) h.lt).trans h.f2, (hb.frozen (p := ⟨p, 3, none⟩) h.lt).trans h.f3⟩
def zero4 (w : World) (p : Nat) : World := (((w.setCell ⟨p, 0, none⟩ (.bool false)).setCell ⟨p, 1, none⟩ (.int .u64 0)).setCell ⟨p, 2, none⟩ (.int .u64 0)).setCell ⟨p, 3, none⟩ (.int .i64 0)
theorem zero4_chg (w : World) (p : Nat) : Chg w (zero4 w p) (fun k _ => k = p) :=
  have s := fun (w : World) (x : Nat) (u : Value) => (⟨(chg_set w p x u).os, (chg_set w p x u).tape, (chg_set w p x u).output, (chg_set w p x u).size, fun k hk hf => (chg_set w p x u).block k hk (fun y h => hf y h.1), fun k y hk hf => (chg_set w p x u).cell k y hk (fun h => hf h.1), (chg_set w p x u).froz⟩ : Chg w (w.setCell ⟨p, x, none⟩ u) (fun k _ => k = p))
  (((s w 0 _).trans (s _ 1 _) (fun _ _ _ h => h)).trans (s _ 2 _) (fun _ _ _ h => h)).trans (s _ 3 _) (fun _ _ _ h => h)
theorem PC.zero {w : World} {p n k : Nat} (h : PC w p n k) : PC (zero4 w p) p 0 0 := by
  have c := zero4_chg w p
  have s1 := chg_set w p 0 (.bool false)
  have s2 := chg_set (w.setCell ⟨p, 0, none⟩ (.bool false)) p 1 (.int .u64 0)
  have s3 := chg_set ((w.setCell ⟨p, 0, none⟩ (.bool false)).setCell ⟨p, 1, none⟩ (.int .u64 0)) p 2 (.int .u64 0)
  have s4 := chg_set (((w.setCell ⟨p, 0, none⟩ (.bool false)).setCell ⟨p, 1, none⟩ (.int .u64 0)).setCell ⟨p, 2, none⟩ (.int .u64 0)) p 3 (.int .i64 0)
  have l1 : p < (w.setCell ⟨p, 0, none⟩ (.bool false)).heap.size := by simpa using h.lt
  have l2 : p < ((w.setCell ⟨p, 0, none⟩ (.bool false)).setCell ⟨p, 1, none⟩ (.int .u64 0)).heap.size := by simpa using h.lt
  have l3 : p < (((w.setCell ⟨p, 0, none⟩ (.bool false)).setCell ⟨p, 1, none⟩ (.int .u64 0)).setCell ⟨p, 2, none⟩ (.int .u64 0)).heap.size := by simpa using h.lt
  refine ⟨Nat.lt_of_lt_of_le h.lt c.size, ?_, ?_, ?_, ?_, (c.froz _ _ h.lt).trans h.f0, (c.froz _ _ h.lt).trans h.f1, (c.froz _ _ h.lt).trans h.f2, (c.froz _ _ h.lt).trans h.f3⟩
  · exact (s4.cell _ _ l3 (by omega)).trans ((s3.cell _ _ l2 (by omega)).trans ((s2.cell _ _ l1 (by omega)).trans (World.cell?_setCell_same _ _ _ h.c0)))
  · exact (s4.cell _ _ l3 (by omega)).trans ((s3.cell _ _ l2 (by omega)).trans (World.cell?_setCell_same _ _ _ ((s1.cell _ _ h.lt (by omega)).trans h.c1)))
  · exact (s4.cell _ _ l3 (by omega)).trans (World.cell?_setCell_same _ _ _ ((s2.cell _ _ l1 (by omega)).trans ((s1.cell _ _ h.lt (by omega)).trans h.c2)))
  · exact World.cell?_setCell_same _ _ _ ((s3.cell _ _ l2 (by omega)).trans ((s2.cell _ _ l1 (by omega)).trans ((s1.cell _ _ h.lt (by omega)).trans h.c3)))
theorem PC.other {w : World} {p q n k : Nat} (h : PC w q n k) (hne : q ≠ p) : PC (zero4 w p) q n k := by
  have c := zero4_chg w p
  exact ⟨Nat.lt_of_lt_of_le h.lt c.size, (c.cell _ _ h.lt hne).trans h.c0, (c.cell _ _ h.lt hne).trans h.c1, (c.cell _ _ h.lt hne).trans h.c2, (c.cell _ _ h.lt hne).trans h.c3, (c.froz _ _ h.lt).trans h.f0, (c.froz _ _ h.lt).trans h.f1, (c.froz _ _ h.lt).trans h.f2, (c.froz _ _ h.lt).trans h.f3⟩
theorem zero4_bel {w wr : World} {p : Nat} (h : Below wr.heap.size wr w) (hp : wr.heap.size ≤ p) : Below wr.heap.size wr (zero4 w p) :=
  (((h.setCell (p := ⟨p, 0, none⟩) hp _).setCell (p := ⟨p, 1, none⟩) hp _).setCell (p := ⟨p, 2, none⟩) hp _).setCell (p := ⟨p, 3, none⟩) hp _
theorem Two.zero1 {wr wx : World} {p q : Nat} (h : Two wr wx p q) : Two wr (zero4 wx p) p q := by
  obtain ⟨b, l1, l2, ⟨n1, k1, _, p1⟩, ⟨n2, k2, v2, p2⟩⟩ := h
  exact ⟨zero4_bel b l1, l1, l2, ⟨0, 0, vp_zero, p1.zero⟩, ⟨n2, k2, v2, p2.other (by omega)⟩⟩
theorem Two.zero2 {wr wx : World} {p q : Nat} (h : Two wr wx p q) : Two wr (zero4 wx q) p q := by
  obtain ⟨b, l1, l2, ⟨n1, k1, v1, p1⟩, ⟨n2, k2, _, p2⟩⟩ := h
  exact ⟨zero4_bel b (by omega), l1, l2, ⟨n1, k1, v1, p1.other (by omega)⟩, ⟨0, 0, vp_zero, p2.zero⟩⟩
theorem mat_ok {n1 k1 n2 k2 d : Nat} (h1 : VP false n1 k1) (h2 : VP false n2 k2) (hd : d < 9) : MatchD.ok ⟨n1, k1, n2, k2, 1 + d⟩ := ⟨h1, h2, by show 1 ≤ 1 + d; omega, by show 1 + d ≤ 999; omega⟩
theorem with_tail {A : Value → World → Prop} {G : Prop} (T : Value → World → Prop) (h : (∀ v w, A v w → T v w) → G) (h2 : ∀ v w, A v w → T v w) : G := h h2
theorem one_d (d : Nat) (h : d < 9) : wrap64 (1 + (d : Int)) = 1 + (d : Int) ∧ IntKind.i64.wrap (1 + (d : Int)) = 1 + (d : Int) := ⟨wrap64_in (by omega) (by omega), IntWalk.i64_in _ (by omega)⟩


set_option maxRecDepth 100000 in
set_option maxHeartbeats 1000000 in
theorem matches_any (a : Option Addr) (len cap : Nat) (zs : List Int) (n : Nat) (w : World) (h : Rd w a len zs) (hcap : len ≤ cap) (hn : n ≤ 1000) :
    Calls Try.prog 27 #[.slice a len cap, .int .i64 n] w (RetMats w n) := by
  obtain ⟨hlm, hop⟩ := h
  have HOP := Lib.hid hop
  clear hop
  go_enter Try.func27, Try.ntmps27
  go_wp2_with fail
  go_loopw [5, 6] (fun v i wr => ∃ k i2 : Nat, k ≤ n ∧ i2 ≤ len ∧ i2 % 2 = 0 ∧ i = .int .i64 i2 ∧ Hid (∃ ms : List MatchD, ms.length = k ∧ (∀ q ∈ ms, MatchD.ok q) ∧ Own wr w.heap.size 78 9 v (ms.map matchCells)) ∧ Below w.heap.size w wr) (fun _ i _ => len - (intOf i).toNat)
  case atStart => exact ⟨0, 0, Nat.zero_le _, Nat.zero_le _, rfl, rfl, ⟨[], rfl, by simp, Own.nil _ _ _ _⟩, Below.refl _ _⟩
  case round =>
    obtain ⟨k, i, hkn, hk, hev, rfl, HE, hbr⟩ := hrel
    obtain ⟨ms, hmk, hms, hown⟩ := HE.out
    clear HE
    have hzr := hbr.size
    obtain ⟨av, capv, rfl⟩ := hown.shape
    rw [List.length_map] at hown ⊢
    rw [hmk] at hown ⊢
    have HM := Lib.hid hmk
    have HMS := Lib.hid hms
    have HO := Lib.hid hown
    clear hmk hms hown
    have ew : wrap64 ((i : Int) + 1) = (i : Int) + 1 := wrap64_in (by omega) (by omega)
    by_cases hlt : i + 1 < len
    · by_cases hlt2 : k < n
      · obtain ⟨b, off, rfl, hb, hcs⟩ := HOP.out (by omega)
        obtain ⟨hc, x0, x1⟩ := hcs i (by omega)
        obtain ⟨hd, y0, y1⟩ := hcs (i + 1) hlt
        have hcr := (hbr.cell (p := ⟨b, off + i, none⟩) hb).trans hc
        have hdr := (hbr.cell (p := ⟨b, off + (i + 1), none⟩) hb).trans hd
        generalize zs.getD i 0 = x at *
        generalize zs.getD (i + 1) 0 = y at *
        clear hcs hc hd
        have hbw : b < wr.heap.size := by omega
        have HX := Lib.hid (pres_vp x)
        have HY := Lib.hid (pres_vp y)
        have P0 := Lib.hid (fun w => picked_any (x.tdiv 5000) 4 w (by decide) (by decide))
        have P1 := Lib.hid (fun w => picked_any (y.tdiv 5000) 4 w (by decide) (by decide))
        have P2 := Lib.hid (fun w => picked_any (x.tdiv 20000) 9 w (by decide) (by decide))
        have z0 := Int.emod_nonneg (x.tdiv 20000) (show (9 : Int) ≠ 0 by decide)
        have z1 := Int.emod_lt_of_pos (x.tdiv 20000) (show (0 : Int) < 9 by decide)
        obtain ⟨d, hd⟩ := Int.eq_ofNat_of_zero_le z0
        rw [hd] at P2 z1
        have eq0 : IntKind.i64.wrap (x.tdiv 5000) = x.tdiv 5000 := wrap_tdiv x 5000 ⟨x0, x1⟩
        have eq1 : IntKind.i64.wrap (y.tdiv 5000) = y.tdiv 5000 := wrap_tdiv y 5000 ⟨y0, y1⟩
        have eq2 : IntKind.i64.wrap (x.tdiv 20000) = x.tdiv 20000 := wrap_tdiv x 20000 ⟨x0, x1⟩
        have E0 := Lib.hid eq0
        have E1 := Lib.hid eq1
        have E2 := Lib.hid eq2
        clear eq0 eq1 eq2 hd z0
        have hy1 : b < wr.heap.size + 1 := by omega
        go_upto_if 45 with fail
        refine (pres_one wr.heap.size x _ (by simp) ⟨x0, x1⟩).mono ?_
        rintro e w1 ⟨g, gc, rfl, g1, g2, g3, g4, g5, g6, hb1⟩
        (repeat (with_reducible (replace hb1 := Below.undrew hb1))); obtain ⟨hc1, hf1⟩ := bcell hb1; have hz1 := hb1.size; (repeat (first | rw [World.size_alloc] at hz1 | rw [World.size_drew] at hz1 | rw [World.size_setCell] at hz1)); (try have : b < w1.heap.size := by omega); (try have : b < w1.heap.size + 1 := by omega); (try have : b < w1.heap.size + 1 + 1 := by omega); (try have : b < w1.heap.size + 1 + 1 + 1 := by omega); (try have : wr.heap.size < w1.heap.size := by omega); (try have : wr.heap.size < w1.heap.size + 1 := by omega); (try have : wr.heap.size < w1.heap.size + 1 + 1 := by omega); (try have : wr.heap.size < w1.heap.size + 1 + 1 + 1 := by omega)
        have y1r : w1.cell? ⟨b, off + (i + 1), none⟩ = some (.int .i64 y) := (hb1.cell (p := ⟨b, off + (i + 1), none⟩) (by simp; omega)).trans ((Below.cell (p := ⟨b, off + (i + 1), none⟩) ((Below.refl _ _).alloc (Nat.le_refl _) _) hbw).trans hdr)
        have x1r : w1.cell? ⟨b, off + i, none⟩ = some (.int .i64 x) := (hb1.cell (p := ⟨b, off + i, none⟩) (by simp; omega)).trans ((Below.cell (p := ⟨b, off + i, none⟩) ((Below.refl _ _).alloc (Nat.le_refl _) _) hbw).trans hcr)
        clear hc1 hf1
        go_upto_if 45 with fail
        refine (pres_one (w1.heap.size + 1) y _ (by simp) ⟨y0, y1⟩).mono ?_
        rintro e w2 ⟨r, rc, rfl, r1, r2, r3, r4, r5, r6, hb2⟩
        (repeat (with_reducible (replace hb2 := Below.undrew hb2))); obtain ⟨hc2, hf2⟩ := bcell hb2; have hz2 := hb2.size; (repeat (first | rw [World.size_alloc] at hz2 | rw [World.size_drew] at hz2 | rw [World.size_setCell] at hz2)); (try have : b < w2.heap.size := by omega); (try have : b < w2.heap.size + 1 := by omega); (try have : b < w2.heap.size + 1 + 1 := by omega); (try have : b < w2.heap.size + 1 + 1 + 1 := by omega); (try have : wr.heap.size < w2.heap.size := by omega); (try have : wr.heap.size < w2.heap.size + 1 := by omega); (try have : wr.heap.size < w2.heap.size + 1 + 1 := by omega); (try have : wr.heap.size < w2.heap.size + 1 + 1 + 1 := by omega); (try have : w1.heap.size < w2.heap.size := by omega); (try have : w1.heap.size < w2.heap.size + 1 := by omega); (try have : w1.heap.size < w2.heap.size + 1 + 1 := by omega); (try have : w1.heap.size < w2.heap.size + 1 + 1 + 1 := by omega); (try have : w1.heap.size + 1 < w2.heap.size := by omega); (try have : w1.heap.size + 1 < w2.heap.size + 1 := by omega); (try have : w1.heap.size + 1 < w2.heap.size + 1 + 1 := by omega); (try have : w1.heap.size + 1 < w2.heap.size + 1 + 1 + 1 := by omega)
        go_upto_if 45 with (first | ((with_reducible refine (P0.out _).mono ?_); rintro e w' ⟨rfl, rfl⟩))
        have HT : Two wr (w2.alloc (.cells #[.bool false, .int .u64 (hiOf false (presN y)), .int .u64 (loOf (presN y)), .int .i64 (presK y : Nat)] 40)) w1.heap.size w2.heap.size := by
          refine ⟨?_, by omega, by omega, ⟨_, _, HX.out, ((((PC.new w1 _ _).below ((Below.refl _ _).alloc (Nat.le_refl _) _)).below hb2).below ((Below.refl _ _).alloc (Nat.le_refl _) _))⟩, ⟨_, _, HY.out, PC.new w2 _ _⟩⟩
          (repeat' (first | (with_reducible exact Below.refl _ _) | (with_reducible assumption) | (with_reducible refine Below.alloc ?_ ?_ _) | (with_reducible refine Below.drew ?_) | (with_reducible refine Below.stepG ?_ (by assumption) ?_) | (with_reducible refine Below.setCell ?_ ?_ _) | omega | (dsimp only; omega) | (simp; done) | (simp; omega)))
        generalize w2.alloc (.cells #[.bool false, .int .u64 (hiOf false (presN y)), .int .u64 (loOf (presN y)), .int .i64 (presK y : Nat)] 40) = W at *
        have HT1 := Lib.hid HT
        clear HT hb1 hb2 g1 g2 g3 g4 g5 g6 r1 r2 r3 r4 r5 r6 x1r y1r hc2 hf2
        generalize w1.heap.size = pb at *
        generalize w2.heap.size = qb at *
        go_cut [] (fun wx => Hid (Two wr wx pb qb))
        case first =>
          obtain ⟨_, hle, hpq, ⟨n1, k1, hv1, p1⟩, ⟨n2, k2, hv2, p2⟩⟩ := HT1.out
          obtain ⟨lt, c0, c1, c2, c3, f0, f1, f2, f3⟩ := p1
          go_wp2_with fail
          all_goals go_meet
          · exact HT1.out.zero1
          · exact HT1.out
        case rest =>
          have HT2 := hcut
          clear hcut HT1
          have hyr := (HT2.out.bel.cell (p := ⟨b, off + (i + 1), none⟩) hbw).trans hdr
          go_upto_if 54 with (first | ((with_reducible refine (P1.out _).mono ?_); rintro e w' ⟨rfl, rfl⟩))
          clear hyr
          go_cut [] (fun wx => Hid (Two wr wx pb qb))
          case first =>
            obtain ⟨_, hle, hpq, ⟨n1, k1, hv1, p1⟩, ⟨n2, k2, hv2, p2⟩⟩ := HT2.out
            obtain ⟨lt, c0, c1, c2, c3, f0, f1, f2, f3⟩ := p2
            go_wp2_with fail
            all_goals go_meet
            · exact HT2.out.zero2
            · exact HT2.out
          case rest =>
            have HT3 := hcut
            clear hcut HT2
            obtain ⟨hbel, hle, hpq, ⟨n1, k1, hv1, p1⟩, ⟨n2, k2, hv2, p2⟩⟩ := HT3.out
            have hxr := (hbel.cell (p := ⟨b, off + i, none⟩) hbw).trans hcr
            obtain ⟨lt, c0, c1, c2, c3, _, _, _, _⟩ := p1
            obtain ⟨ltq, e0, e1, e2, e3, _, _, _, _⟩ := p2
            have HV1 := Lib.hid hv1
            have HV2 := Lib.hid hv2
            clear HT3 hv1 hv2 hcr hdr
            have ew0 := E2.out
            go_wp2_with fail
            have hd9 : d < 9 := by omega
            obtain ⟨ew1, ew2⟩ := one_d d hd9
            have h2k : i < len := by omega
            have hbz := hbel.size
            have hbwc : b < wc.heap.size := by omega
            have hok : Hid (∀ q ∈ ms ++ [(⟨n1, k1, n2, k2, 1 + d⟩ : MatchD)], MatchD.ok q) := fun q hq => by
              rcases List.mem_append.1 hq with hq | hq
              · exact HMS.out q hq
              · simp only [List.mem_singleton] at hq
                subst hq
                exact mat_ok HV1.out HV2.out hd9
            generalize Value.slice av k capv = v at *
            refine with_tail (A := fun v' w5 => Own w5 w.heap.size 78 9 v' ((ms ++ [(⟨n1, k1, n2, k2, 1 + d⟩ : MatchD)]).map matchCells) ∧ Below w.heap.size w w5) ?T ?one ?two
            case one =>
              intro tail
              go_region_law (first
                | (refine step_append_rows rfl (.tmp 56) (.tmp 67) 66 78 9 72 _ rfl eiMatch w.heap.size _ (ms.map matchCells) rfl (by ((repeat (first | (with_reducible refine Own.alloc ?_ _) | (with_reducible refine Own.dr ?_))); refine Own.below ?_ hbel; (repeat (first | (with_reducible refine Own.alloc ?_ _) | (with_reducible refine Own.dr ?_))); exact HO.out)) _ [matchCells ⟨n1, k1, n2, k2, 1 + d⟩] rfl (sl_new (by simp) rfl) (by intro c hc; simp at hc; subst hc; exact matchCells_one _) (by have := HM.out; simp; omega) (by decide) (by simp; omega) ?_
                   intro v' w5 hown' hb5)
                | (go_simp; ((with_reducible refine (P2.out _).mono ?_); rintro e w' ⟨rfl, rfl⟩)))
              all_goals go_simp
              all_goals exact tail _ _ ⟨by rw [List.map_append, List.map_singleton]; exact hown', Below.trans (by (repeat' (first | (with_reducible exact Below.refl _ _) | (with_reducible assumption) | (with_reducible refine Below.alloc ?_ ?_ _) | (with_reducible refine Below.drew ?_) | (with_reducible refine Below.stepG ?_ (by assumption) ?_) | (with_reducible refine Below.setCell ?_ ?_ _) | omega | (dsimp only; omega) | (simp; done) | (simp; omega)))) hb5⟩
            case two =>
              rintro v' w5 ⟨hown', hb5⟩
              have hrk := HM.out
              have HO5 := Lib.hid hown'
              clear hown'
              have ew5 : wrap64 ((i : Int) + 2) = (i : Int) + 2 := wrap64_in (by omega) (by omega)
              go_wp2
              go_roundw
              case rel => exact ⟨k + 1, i + 2, by omega, by omega, by omega, by go_num, ⟨_, by rw [List.length_append, hrk]; rfl, hok.out, HO5.out⟩, hb5⟩
              case measure => simp [intOf]; omega
      · have hd : decide ((k : Int) < n) = false := by simp; omega
        go_wp2
        go_returns
        exact ⟨_, ms, rfl, HO.out, HMS.out, by have := HM.out; omega, hbr⟩
    · have hd : decide ((i : Int) + 1 < len) = false := by simp; omega
      go_wp2
      go_returns
      exact ⟨_, ms, rfl, HO.out, HMS.out, by have := HM.out; omega, hbr⟩
end Go.Proofs.Ytlcacocecdnpnaa
