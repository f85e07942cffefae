
/- Contracts of package queue: Play. -/
import Derived.Test.YteadfobfenopkaaQ4
set_option linter.unusedVariables false
namespace Wk
open Go Go.RowKit Go.Sort
theorem Own.apart {w : World} {B C : Nat} {e e' : TypeId} {sz sz' : Nat} {v v' : Value} {xs xs' : List (List Value)} (h : Own w B e sz v xs) (h' : Own w C e' sz' v' xs') (hne : e ≠ e') (hv : v.ownBlock ≠ none) : v.ownBlock ≠ v'.ownBlock := by
  intro heq
  rcases h.2.2 with ⟨rfl, _⟩ | ⟨g, cap, cur, rfl, _, hg, _⟩
  · exact hv rfl
  · rcases h'.2.2 with ⟨rfl, _⟩ | ⟨g', cap', cur', rfl, _, hg', _⟩
    · simp [Value.ownBlock] at heq
    · simp [Value.ownBlock] at heq
      subst heq
      rw [hg] at hg'
      simp at hg'
      exact hne hg'.2
theorem Own.kept {w w' : World} {B : Nat} {e : TypeId} {sz : Nat} {v v' : Value} {xs : List (List Value)} (h : Own w B e sz v xs) (g : w.grownBy w' v'.ownBlock) (hne : v.ownBlock ≠ none → v.ownBlock ≠ v'.ownBlock) : Own w' B e sz v xs := by
  refine ⟨h.1, h.2.kept g ?_⟩
  by_cases hv : v.ownBlock = none
  · exact .inl hv
  · exact .inr (hne hv)
end Wk
namespace Go.Proofs.Yteadfobfenopkaa
open Go Go.RowKit Go.Sort Wc Wk

theorem eiJob : EI Try.prog 23 37 11 88 (.agg #[.int .i64 0, .int .i64 0, .bool false, .int .u64 0, .int .u64 0, .int .i64 0, .int .i64 0, .bool false, .int .u64 0, .int .u64 0, .int .i64 0]) := ⟨by kernel_rfl, by kernel_rfl, rfl, by decide⟩
theorem eiDone : EI Try.prog 25 40 3 40 (.agg #[.int .i64 0, .bool false, .slice none 0 0]) := ⟨by kernel_rfl, by kernel_rfl, rfl, by decide⟩
def doneCells (d : DoneD) (v : Value) : List Value := [.int .i64 (d.code : Nat), .bool d.merged, v]
theorem doneCells_one (d : DoneD) {u : Value} {a : Option Addr} {n c : Nat} (hu : u = .slice a n c) : ∀ x ∈ doneCells d u, x.oneCell' = true := by
  subst hu
  intro x hx
  simp [doneCells] at hx
  rcases hx with rfl | rfl | rfl <;> rfl
/-- What jobs came to, in memory. -/
structure Dones (w : World) (B : Nat) (v : Value) (ds : List DoneD) (vs : List Value) : Prop where
  len : vs.length = ds.length
  own : Own w B 40 3 v (List.zipWith doneCells ds vs)
  acts : ∀ (i : Nat) (d : DoneD) (u : Value), ds[i]? = some d → vs[i]? = some u → Own w B 35 9 u (d.acts.map actCells)
theorem Dones.base {w : World} {B C : Nat} {v : Value} {ds : List DoneD} {vs : List Value} (h : Dones w C v ds vs) (hB : B ≤ C) : Dones w B v ds vs :=
  ⟨h.len, h.own.base hB, fun i d u h1 h2 => (h.acts i d u h1 h2).base hB⟩
theorem Dones.nil (w : World) (B : Nat) : Dones w B (.slice none 0 0) [] [] := ⟨rfl, Own.nil _ _ _ _, fun i d u h => by simp at h⟩
theorem Dones.below {w w' : World} {B : Nat} {v : Value} {ds : List DoneD} {vs : List Value} (h : Dones w B v ds vs) (hb : Below w.heap.size w w') : Dones w' B v ds vs :=
  ⟨h.len, h.own.below hb, fun i d u h1 h2 => (h.acts i d u h1 h2).below hb⟩
theorem Dones.chg {w w' : World} {B g : Nat} {v : Value} {ds : List DoneD} {vs : List Value} {F : Nat → Nat → Prop} (h : Dones w B v ds vs) (c : Chg w w' F) (hF : ∀ b x, F b x → b = g) (hg : g < B) : Dones w' B v ds vs :=
  ⟨h.len, h.own.chg c hF (fun e => by have := (h.own.lt _ e).1; omega), fun i d u h1 h2 => (h.acts i d u h1 h2).chg c hF (fun e => by have := ((h.acts i d u h1 h2).lt _ e).1; omega)⟩
theorem Dones.snoc {w w' : World} {B : Nat} {v v' : Value} {ds : List DoneD} {vs : List Value} {d : DoneD} {u : Value} (h : Dones w B v ds vs) (ha : Own w B 35 9 u (d.acts.map actCells)) (g : w.grownBy w' v.ownBlock)
    (ho : Own w' B 40 3 v' (List.zipWith doneCells ds vs ++ [doneCells d u])) : Dones w' B v' (ds ++ [d]) (vs ++ [u]) := by
  refine ⟨by simp [h.len], by rw [List.zipWith_append h.len.symm]; exact ho, fun i e z h1 h2 => ?_⟩
  have key : ∀ (e : DoneD) (z : Value), Own w B 35 9 z (e.acts.map actCells) → Own w' B 35 9 z (e.acts.map actCells) := fun e z hz =>
    hz.kept g (fun hn => Own.apart hz h.own (by decide) hn)
  by_cases hi : i < ds.length
  · rw [List.getElem?_append_left hi] at h1
    rw [List.getElem?_append_left (by rw [h.len]; exact hi)] at h2
    exact key e z (h.acts i e z h1 h2)
  · have hil := (List.getElem?_eq_some_iff.1 h1).1
    simp at hil
    obtain rfl : i = ds.length := by omega
    simp at h1
    rw [← h.len] at h2
    simp at h2
    subst h1 h2
    exact key d u ha
/-- What a play hands back. -/
def RetDones (w : World) (js : List JobD) (e : Ending) (w' : World) : Prop :=
  ∃ v vs, e = .returned (.tuple #[v, .int .i64 0]) ∧ Dones w' w.heap.size v (qrun [] js) vs ∧ Below w.heap.size w w'

theorem QR.new (w : World) (cs : Array Value) (E : TypeId) (hs : cs.size = 74) (h72 : cs[72]? = some (.int .i64 0)) (h73 : cs[73]? = some (.int .i64 0)) : QR (w.alloc (.cells cs E)) w.heap.size 0 [] := by
  refine ⟨by simp, by decide, by simp, by rw [World.cell?_alloc_new]; exact h72, by rw [World.cell?_alloc_new]; exact h73, fun i x h => by simp at h, fun o ho => ⟨cs[o]'(by omega), by rw [World.cell?_alloc_new]; exact Array.getElem?_eq_getElem _⟩, fun o ho => by simp⟩
theorem Sl.job {w w' : World} {a : Option Addr} {n cap : Nat} {xs : List JobD} (hs : Sl w 11 (.slice a n cap) (xs.map jobCells)) (hb : Below w.heap.size w w') {i : Nat} {r : JobD} (hr : xs[i]? = some r) :
    ∃ b off, a = some ⟨b, off, none⟩ ∧ b < w.heap.size ∧ w'.cell? ⟨b, off + i * 11, none⟩ = some (.int .i64 (jobKind r)) ∧ w'.cell? ⟨b, off + i * 11 + 1, none⟩ = some (.int .i64 r.act.kind) ∧ w'.cell? ⟨b, off + i * 11 + 2, none⟩ = some (.bool false) ∧ w'.cell? ⟨b, off + i * 11 + 3, none⟩ = some (.int .u64 (hiOf false r.act.n)) ∧
      w'.cell? ⟨b, off + i * 11 + 4, none⟩ = some (.int .u64 (loOf r.act.n)) ∧ w'.cell? ⟨b, off + i * 11 + 5, none⟩ = some (.int .i64 r.act.k) ∧ w'.cell? ⟨b, off + i * 11 + 6, none⟩ = some (.int .i64 r.act.hop) ∧ w'.cell? ⟨b, off + i * 11 + 7, none⟩ = some (.bool false) ∧
      w'.cell? ⟨b, off + i * 11 + 8, none⟩ = some (.int .u64 (hiOf false r.act.a)) ∧ w'.cell? ⟨b, off + i * 11 + 9, none⟩ = some (.int .u64 (loOf r.act.a)) ∧ w'.cell? ⟨b, off + i * 11 + 10, none⟩ = some (.int .i64 r.num) := by
  obtain ⟨b, off, ha, hlt, hc⟩ := Sl.at hs (i := i) (c := jobCells r) (by rw [List.getElem?_map, hr]; rfl)
  have g := fun j u (h : (jobCells r)[j]? = some u) => (hb.cell (p := ⟨b, off + i * 11 + j, none⟩) hlt).trans (hc j u h)
  exact ⟨b, off, ha, hlt, g 0 _ rfl, g 1 _ rfl, g 2 _ rfl, g 3 _ rfl, g 4 _ rfl, g 5 _ rfl, g 6 _ rfl, g 7 _ rfl, g 8 _ rfl, g 9 _ rfl, g 10 _ rfl⟩


set_option maxRecDepth 100000 in
set_option maxHeartbeats 2000000 in
theorem qplay_any (a : Option Addr) (cap : Nat) (js : List JobD) (w : World) (hs : Sl w 11 (.slice a js.length cap) (js.map jobCells)) (hl : js.length ≤ 100) (hok : ∀ j ∈ js, JobD.ok j) :
    Calls Try.prog 40 #[.slice a js.length cap] w (RetDones w js) := by
  have HS := Lib.hid hs
  have HK := Lib.hid hok
  have d1 : decide ((100 : Int) < js.length) = false := by simp; omega
  clear hs hok
  go_enter Try.func40, Try.ntmps40
  go_wp2_with fail
  have HW := Lib.hid (QR.new w Try.zeroCells150 150 (by kernel_rfl) (by kernel_rfl) (by kernel_rfl))
  have HWB : Below w.heap.size w (w.alloc (.cells Try.zeroCells150 150)) := (Below.refl _ _).alloc (Nat.le_refl _) _
  have hWs : (w.alloc (.cells Try.zeroCells150 150)).heap.size = w.heap.size + 1 := by simp
  generalize w.alloc (.cells Try.zeroCells150 150) = W at *
  obtain ⟨qb, hqb⟩ : ∃ qb, qb = w.heap.size := ⟨_, rfl⟩
  rw [← hqb] at HW ⊢
  obtain ⟨C, hC⟩ : ∃ C, C = qb + 1 := ⟨_, rfl⟩
  have HQB := Lib.hid hqb
  have HCE := Lib.hid hC
  have hW1 : C ≤ W.heap.size := by omega
  have hwC : w.heap.size ≤ C := by omega
  have hqC : qb < C := by omega
  have hwq : w.heap.size ≤ qb := by omega
  have hlw1 := HS.out.lens.2.1
  have hlw2 := HS.out.lens.2.2
  clear hqb hC hWs
  go_loopw [5, 15] (fun v i wr => ∃ (m f : Nat) (vs : List Value), m ≤ js.length ∧ i = .int .i64 m ∧ Hid (QR wr qb f (qend [] (js.take m))) ∧ Hid (Dones wr C v (qrun [] (js.take m)) vs) ∧ Hid (Below w.heap.size w wr)) (fun _ i _ => js.length - (intOf i).toNat)
  case atStart => exact ⟨0, 0, [], Nat.zero_le _, rfl, HW.out, Dones.nil _ _, HWB⟩
  case round =>
    obtain ⟨m, f, vs, hm, rfl, HR, HD, HB⟩ := hrel
    have hqr := HR.out.lt
    have hzr := HB.out.size
    have hrC : C ≤ wr.heap.size := by have := HCE.out; omega
    by_cases hlt : m < js.length
    · obtain ⟨j, hj⟩ : ∃ j, js[m]? = some j := ⟨_, List.getElem?_eq_getElem hlt⟩
      obtain ⟨b, off, rfl, hb, d0, d1, d2, d3, d4, d5, d6, d7, d8, d9, d10⟩ := Sl.job HS.out HB.out hj
      have HJ := Lib.hid (HK.out j (List.mem_of_getElem? hj))
      have HA := Lib.hid (qrun_at (q := []) hj)
      have HQO := Lib.hid (qend_ok (q := []) (l := js.take m) (fun x hx => by cases hx) (fun x hx => HK.out x (List.mem_of_mem_take hx)))
      have HT := Lib.hid (show js.take (m + 1) = js.take m ++ [j] by rw [List.take_add_one, hj]; rfl)
      clear hj
      go_wp2_with fail
      have hYB : Below wr.heap.size wr (wr.alloc (.cells (jobCells j).toArray 37)) := (Below.refl _ _).alloc (Nat.le_refl _) _
      refine (do_job qb f (qend [] (js.take m)) j _ (HR.out.below hYB hqr) HQO.out HJ.out).mono ?_
      rintro e w1 ⟨f2, u, rfl, HAc, HR2, HC⟩
      obtain ⟨ua, uc, hu⟩ := HAc.shape
      have hD1 := (HD.out.below (w' := wr.alloc (.cells (jobCells j).toArray 37)) hYB).chg HC (fun b x h => h) hqC
      have hzy : wr.heap.size + 1 ≤ w1.heap.size := by have := HC.size; simpa using this
      have hAc : Own w1 C 35 9 u ((qstep (qend [] (js.take m)) j).2.acts.map actCells) := HAc.base (by simp; omega)
      have HD1 := Lib.hid hD1
      have HA1 := Lib.hid hAc
      have HR3 := Lib.hid HR2
      have HC3 := Lib.hid HC
      generalize hq0 : qend [] (js.take m) = q0 at *
      generalize hds : qrun [] (js.take m) = ds at *
      generalize hdd : (qstep q0 j).2 = d at *
      have HDS := Lib.hid hds
      have HQ0 := Lib.hid hq0
      have HDD := Lib.hid hdd
      have hdl : ds.length = m := by rw [← hds, qrun_len, List.length_take]; omega
      have HDL := Lib.hid hdl
      have HU := Lib.hid hu
      clear hD1 hAc HR2 HC HAc hq0 hds hdd hdl hu
      go_wp2_with (at_builtin; refine wpList_append_rows rfl _ _ 25 40 3 40 _ rfl eiDone C _ (List.zipWith doneCells ds vs) rfl (HD1.out.own.alloc _) _ _ rfl (sl_new (c := doneCells d u) (by simp) rfl) (by intro c hc; simp at hc; subst hc; exact doneCells_one d HU.out) (by have := HDL.out; simp; omega) (by decide) (by simp; omega) (by simp) ?_; intro v' w5 hown' hgr hb5)
      have hD5 := Dones.snoc (d := d) (u := u) (HD1.out.below (w' := w1.alloc (.cells (doneCells d u).toArray 40)) ((Below.refl _ _).alloc (Nat.le_refl _) _)) (HA1.out.alloc _) hgr hown'
      have hR5 := HR3.out.below (B := C) (((Below.refl _ _).alloc (by omega) _).trans hb5) hqC
      have hB5 : Below w.heap.size w w5 := (((HB.out.alloc hzr _).trans (HC3.out.below (B := w.heap.size) (by simp; omega) (fun b x hb hx => by omega))).alloc (by omega) _).trans (hb5.mono hwC)
      have hz5 := hb5.size
      have e1 := HA.out.2
      have e2 : qrun [] (js.take (m + 1)) = ds ++ [d] := by
        rw [HT.out, qrun_app, HDS.out, HQ0.out]
        show ds ++ [(qstep q0 j).2] = _
        rw [HDD.out]
      have HR5 := Lib.hid hR5
      have HD5 := Lib.hid hD5
      have HB5 := Lib.hid hB5
      rw [← e1] at HR5
      rw [← e2] at HD5
      clear hR5 hD5 hB5 hown' hgr hb5 e1 e2
      go_roundw
      case rel => exact ⟨m + 1, f2, vs ++ [u], by omega, by go_num, HR5, HD5, HB5⟩
      case measure => simp [intOf]; omega
    · obtain rfl : m = js.length := by omega
      go_wp2
      go_returns
      have e1 : js.take js.length = js := List.take_of_length_le (Nat.le_refl _)
      rw [e1] at HD
      exact ⟨_, vs, rfl, HD.out.base hwC, HB.out⟩
end Go.Proofs.Yteadfobfenopkaa
