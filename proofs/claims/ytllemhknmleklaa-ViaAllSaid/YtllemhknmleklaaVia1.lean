
/- Contracts of package via: known. -/
import Derived.Test.YtllemhknmleklaaMp
import Derived.Test.YtllemhknmleklaaPre4
set_option linter.unusedVariables false
namespace Go.Proofs.Ytllemhknmleklaa
open Go.RowKit Go.Sort Wc Wk

structure ViaD where
  hop : Nat
  port : Nat
  next : Nat
def viaCells (v : ViaD) : List Value := [.int .i64 v.hop, .int .i64 v.port, .int .i64 v.next]
def viaVal (v : ViaD) : Value := .agg #[.int .i64 v.hop, .int .i64 v.port, .int .i64 v.next]
theorem viaCells_one (v : ViaD) : ∀ u ∈ viaCells v, u.oneCell' = true := by
  intro u hu
  simp [viaCells] at hu
  rcases hu with rfl | rfl | rfl <;> rfl
theorem eiVia : EI Try.prog 69 76 3 24 (.agg #[.int .i64 0, .int .i64 0, .int .i64 0]) := ⟨by kernel_rfl, by kernel_rfl, rfl, by decide⟩
def ViaD.ok (v : ViaD) : Prop := 1 ≤ v.hop ∧ v.hop ≤ 999 ∧ ((v.port = 0 ∧ 1 ≤ v.next ∧ v.next ≤ 999) ∨ (1 ≤ v.port ∧ v.port ≤ 999 ∧ v.next = 0))
def viaAt (l : List ViaD) (h : Int) : Option ViaD := l.find? (fun v => decide ((v.hop : Int) = h))
def viaF (l : List ViaD) : Lit → Option Value
  | .int .i64 h => (viaAt l h).map viaVal
  | _ => none
def hopsApart (l : List ViaD) : Prop := l.Pairwise (fun u v => u.hop ≠ v.hop)

theorem viaF_none (l : List ViaD) (i : Nat) (v : ViaD) (hv : l[i]? = some v) (hd : hopsApart l) : viaF (l.take i) (.int .i64 v.hop) = none := by
  show (viaAt (l.take i) v.hop).map viaVal = none
  have : viaAt (l.take i) v.hop = none := by
    unfold viaAt
    rw [List.find?_eq_none]
    intro u hu
    obtain ⟨j, hj, he⟩ := List.getElem_of_mem hu
    rw [List.length_take] at hj
    rw [List.getElem_take] at he
    obtain ⟨hi, hv2⟩ := List.getElem?_eq_some_iff.1 hv
    have := (List.pairwise_iff_getElem.1 hd) j i (by omega) hi (by omega)
    rw [he, hv2] at this
    simp only [decide_eq_true_eq]
    omega
  rw [this]; rfl
theorem viaF_put (l : List ViaD) (i : Nat) (v : ViaD) (hv : l[i]? = some v) (hd : hopsApart l) : ∀ kl, WideAt.IsKeyLit kl → mput (viaF (l.take i)) (.int .i64 v.hop) (viaVal v) kl = viaF (l.take (i + 1)) kl := by
  intro kl hk
  have hn := viaF_none l i v hv hd
  unfold mput
  by_cases h : kl.sameKey (.int .i64 v.hop) = true
  · rw [if_pos h, WideAt.sameKey_eq h]
    have hn' : viaAt (l.take i) v.hop = none := by
      have : (viaAt (l.take i) v.hop).map viaVal = none := hn
      simpa using this
    show _ = (viaAt (l.take (i + 1)) v.hop).map viaVal
    rw [List.take_add_one, hv]
    unfold viaAt at *
    rw [List.find?_append, hn']
    simp
  · rw [if_neg h]
    cases kl with
    | int q h2 =>
      cases q <;> try rfl
      show (viaAt (l.take i) h2).map viaVal = (viaAt (l.take (i + 1)) h2).map viaVal
      have hne : (v.hop : Int) ≠ h2 := by
        rintro rfl
        exact h (WideAt.sameKey_self hk)
      rw [List.take_add_one, hv]
      unfold viaAt
      rw [List.find?_append]
      simp [hne]
    | _ => rfl
theorem mp_congr {P : Program} {k : TypeId} {b n : Nat} {f g : Lit → Option Value} {w : World} (h : Mp w P k b n f) (hfg : ∀ kl, WideAt.IsKeyLit kl → f kl = g kl) : Mp w P k b n g := by
  obtain ⟨D, h1, h2, h3⟩ := h
  exact ⟨D, h1, h2, fun kl hk => by rw [← hfg kl hk]; exact h3 kl hk⟩

theorem out_no (n : Nat) (m : Int) (w : World) (h : m ≤ n) (h2 : n ≤ 999) :
    Calls Try.prog 106 #[.int .i64 n, .int .i64 m] w fun e w' => e = .returned (.bool false) ∧ w = w' := by
  have e1 : decide ((n : Int) < m) = false := by simp; omega
  have e2 : decide ((999 : Int) < n) = false := by simp; omega
  go_enter Try.func106, Try.ntmps106
  go_wp2
  go_ret
  exact ⟨ret_bool (by first | rfl | exact e1 | simp [e1]), rfl⟩

theorem keyedInt : Maps.Keyed Try.prog 3 := Maps.int_keyed Try.underlying3
theorem zeroVia (w : World) : (zeroValue 76).run Try.prog w = .ok (.agg #[.int .i64 0, .int .i64 0, .int .i64 0]) w := by kernel_rfl
theorem keyInt {h : Int} (h0 : -9223372036854775808 ≤ h ∧ h ≤ 9223372036854775807) : keyOf Try.prog 3 (.int .i64 h) = some (.int .i64 h) := by
  simp [keyOf, mapKey, Try.underlying3, Lit.wf, IntKind.min, IntKind.max, IntKind.bits, IntKind.signed]
  omega

theorem Sl.via {w w' : World} {a : Option Addr} {cap : Nat} {l : List ViaD} (hs : Sl w 3 (.slice a l.length cap) (l.map viaCells)) (hb : Below w.heap.size w w') {i : Nat} {v : ViaD} (hv : l[i]? = some v) :
    ∃ b off, a = some ⟨b, off, none⟩ ∧ b < w.heap.size ∧ w'.cell? ⟨b, off + i * 3, none⟩ = some (.int .i64 v.hop) ∧ w'.cell? ⟨b, off + i * 3 + 1, none⟩ = some (.int .i64 v.port) ∧ w'.cell? ⟨b, off + i * 3 + 2, none⟩ = some (.int .i64 v.next) := by
  obtain ⟨_, a', cap', he, _, _, hcc⟩ := hs
  have he' : a = a' := by
    simp only [Value.slice.injEq] at he
    exact he.1
  subst he'
  obtain ⟨b, off, rfl, hlt, hcell⟩ := hcc (by intro h; rw [List.map_eq_nil_iff] at h; rw [h] at hv; simp at hv)
  have hm := hcell i (viaCells v) (by rw [List.getElem?_map, hv]; rfl)
  have g := fun j u (h : (viaCells v)[j]? = some u) => (hb.cell (p := ⟨b, off + i * 3 + j, none⟩) hlt).trans (hm j u h)
  exact ⟨b, off, rfl, hlt, g 0 _ rfl, g 1 _ rfl, g 2 _ rfl⟩


set_option maxRecDepth 100000 in
set_option maxHeartbeats 2000000 in
theorem known_ok (a : Option Addr) (cap : Nat) (l : List ViaD) (w : World) (hs : Sl w 3 (.slice a l.length cap) (l.map viaCells)) (hlen : l.length ≤ 60) (hok : ∀ v ∈ l, v.ok) (hd : hopsApart l) :
    Calls Try.prog 60 #[.slice a l.length cap] w fun e w' => ∃ b, e = .returned (.tuple #[.map (some b), .int .i64 0]) ∧ Mp w' Try.prog 3 b l.length (viaF l) ∧ w.heap.size ≤ b ∧ Below w.heap.size w w' := by
  have hmm := fun n w => run_makeMap_hint (P := Try.prog) Try.underlying151 n w
  have HS := Lib.hid hs
  have HOK := Lib.hid hok
  have HD := Lib.hid hd
  clear hs hok hd
  go_enter Try.func60, Try.ntmps60
  go_wp2_with fail
  clear hmm
  go_loopw [17] (fun i wr => ∃ j : Nat, j ≤ l.length ∧ i = .int .i64 j ∧ Hid (Mp wr Try.prog 3 w.heap.size j (viaF (l.take j))) ∧ Below w.heap.size w wr ∧ w.heap.size < wr.heap.size) (fun i _ => l.length - (intOf i).toNat)
  case atStart => exact ⟨0, Nat.zero_le _, rfl, mp_congr (Mp.made w _ _) (fun kl _ => by unfold viaF; split <;> rfl), (Below.refl _ _).alloc (Nat.le_refl _) _, by simp⟩
  case round =>
    obtain ⟨j, hj, rfl, HM, hbr, hzr⟩ := hrel
    by_cases hlt : j < l.length
    · obtain ⟨v, hv⟩ : ∃ v, l[j]? = some v := ⟨_, List.getElem?_eq_getElem hlt⟩
      obtain ⟨b, off, rfl, hb, d0, d1, d2⟩ := Sl.via HS.out hbr hv
      obtain ⟨k1, k2, k3⟩ := HOK.out v (List.mem_of_getElem? hv)
      have O1 := Lib.hid (fun w => out_no v.hop 1 w (by omega) k2)
      have O2 := Lib.hid (fun w => out_no v.port 0 w (by omega) (by omega))
      have O3 := Lib.hid (fun w => out_no v.next 0 w (by omega) (by omega))
      have hnx : (((v.port : Int) == 0) == ((v.next : Int) == 0)) = false := by
        rcases k3 with ⟨h1, h2, _⟩ | ⟨h1, _, h2⟩
        · have : ((v.next : Int) == 0) = false := by rw [beq_eq_false_iff_ne]; omega
          rw [this, h1]; rfl
        · have : ((v.port : Int) == 0) = false := by rw [beq_eq_false_iff_ne]; omega
          rw [this, h2]; rfl
      have HV := Lib.hid hv
      clear hv k3
      go_wp2_with (first | ((with_reducible refine (O1.out _).mono ?_); rintro e w' ⟨rfl, rfl⟩) | ((with_reducible refine (O2.out _).mono ?_); rintro e w' ⟨rfl, rfl⟩) | ((with_reducible refine (O3.out _).mono ?_); rintro e w' ⟨rfl, rfl⟩) | (at_lookup; refine wpList_mp_look _ rfl _ _ 151 rfl _ _ keyedInt Try.underlying151 (zeroVia _) _ _ _ rfl (Mp.alloc HM.out _) _ _ rfl (keyInt (by omega)) ?_; rw [viaF_none l j v HV.out HD.out]) | (at_mapUpdate; refine stop_at ?_; intro G hG))
      rw [← hG.out]; clear hG G
      refine wpList_mp_update _ rfl _ _ _ 151 rfl _ _ keyedInt Try.underlying151 _ _ _ rfl (Mp.alloc (Mp.alloc HM.out _) _) (by unfold maxLen; omega) _ _ _ rfl rfl (keyInt (by omega)) ?_
      intro w2 hmp2 hgr2
      have hb2 : Below w.heap.size w w2 := Below.trans (by (repeat' (first | (with_reducible exact Below.refl _ _) | (with_reducible assumption) | (with_reducible refine Below.alloc ?_ ?_ _) | (with_reducible refine Below.drew ?_) | (with_reducible refine Below.stepG ?_ (by assumption) ?_) | (with_reducible refine Below.setCell ?_ ?_ _) | omega | (dsimp only; omega) | (simp; done) | (simp; omega)))) (Below.grownMap hgr2 (by simp; omega) (Nat.le_refl _))
      have hz2 : w.heap.size < w2.heap.size := hmp2.lt
      have HM2 : Hid (Mp w2 Try.prog 3 w.heap.size (j + 1) (viaF (l.take (j + 1)))) := mp_congr hmp2 (viaF_put l j v HV.out HD.out)
      clear hmp2 hgr2 HM hbr
      go_wp2
      go_roundw
      case rel => exact ⟨j + 1, by omega, by go_num, HM2, hb2, hz2⟩
      case measure => simp [intOf]; omega
    · obtain rfl : j = l.length := by omega
      have HM2 : Hid (Mp wr Try.prog 3 w.heap.size l.length (viaF l)) := by have := HM.out; rwa [List.take_length] at this
      clear HM
      go_wp2
      refine bodyPost_ret (v := .tuple #[.map (some w.heap.size), .int .i64 0]) (by simp [results, Try.results60, go_sem, *]) rfl ⟨_, rfl, HM2.out, Nat.le_refl _, hbr⟩
end Go.Proofs.Ytllemhknmleklaa
