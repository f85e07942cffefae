
/- A pair of tables: the writer's steps. -/
import Derived.Test.YtllemhknmleklaaPrA
set_option linter.unusedVariables false
set_option linter.unusedSimpArgs false
namespace Go.Proofs.Ytllemhknmleklaa
open Go Go.RowKit Go.Sort Wc Wk

theorem run_act_tail1 (b off : Nat) (W : World) : (Instr.slice 43 (.slice (some ⟨b, off, none⟩) 1 1) (some (.int .i64 1)) none none).run Try.prog W = .ok (.slice (some ⟨b, off, none⟩) 0 0) W := by
  go_simp
theorem run_act_tail2 (b off la c : Nat) (hp : 1 ≤ la) (h1 : la ≤ c) (h2 : c ≤ 9223372036854775807) (hne : c ≠ 1) (W : World) : (Instr.slice 43 (.slice (some ⟨b, off, none⟩) la c) (some (.int .i64 1)) none none).run Try.prog W = .ok (.slice (some ⟨b, off + 1 * 9, none⟩) (la - 1) (c - 1)) W := by
  have h3 : ¬ (la : Int) < 1 := by omega
  go_simp
/-- The first of what is to be done; what lies behind it. -/
theorem StS.act1 {α : Type} {cells : α → List Value} {ws : World} {col : Nat → Nat} {v : Value} {x : α} {l : List α} (h : StS ws col 9 v ((x :: l).map cells)) :
    ∃ b off n c v', v = .slice (some ⟨b, off, none⟩) n c ∧ 1 ≤ n ∧ n ≤ 9223372036854775807 ∧ n = l.length + 1 ∧ b < ws.heap.size ∧ col b = 0 ∧ (∀ j u, (cells x)[j]? = some u → ws.cell? ⟨b, off + j, none⟩ = some u) ∧
      (∀ W : World, (Instr.slice 43 (.slice (some ⟨b, off, none⟩) n c) (some (.int .i64 1)) none none).run Try.prog W = .ok v' W) ∧ StS ws col 9 v' (l.map cells) := by
  obtain ⟨hs, hcol⟩ := h
  obtain ⟨a, c, rfl, hc1, hc2⟩ := hs.shape
  rw [List.length_map] at hs hc1 hcol
  have hlen : (x :: l).length = l.length + 1 := rfl
  rw [hlen] at hs hc1 hcol
  obtain ⟨b, off, rfl, hlt, hc⟩ := Sl.at hs (i := 0) (c := cells x) rfl
  have hb := hcol ⟨b, off, none⟩ _ _ rfl
  refine ⟨b, off, l.length + 1, c, ?_⟩
  have hcell : ∀ j u, (cells x)[j]? = some u → ws.cell? ⟨b, off + j, none⟩ = some u := fun j u hu => by
    have := hc j u hu
    rwa [Nat.zero_mul, Nat.add_zero] at this
  rcases hs.behind 1 (by simp) with ⟨rfl, h0, _, hs'⟩ | ⟨hne, hs'⟩
  · have h0' : l.length = 0 := by omega
    refine ⟨_, by rw [List.length_map]; rfl, by omega, by omega, rfl, hb.1, hb.2, hcell, fun W => ?_, hs', fun a n c' e => ?_⟩
    · rw [h0']; exact run_act_tail1 b off W
    · simp only [Value.slice.injEq, Option.some.injEq] at e
      obtain ⟨rfl, _, _⟩ := e
      exact hb
  · refine ⟨_, by rw [List.length_map]; rfl, by omega, by omega, rfl, hb.1, hb.2, hcell, fun W => run_act_tail2 b off _ c (by omega) hc1 hc2 hne W, hs', fun a n c' e => ?_⟩
    simp only [Value.slice.injEq, Option.some.injEq] at e
    obtain ⟨rfl, _, _⟩ := e
    exact hb
theorem run_addr_tail1 (b off : Nat) (W : World) : (Instr.slice 132 (.slice (some ⟨b, off, none⟩) 1 1) (some (.int .i64 1)) none none).run Try.prog W = .ok (.slice (some ⟨b, off, none⟩) 0 0) W := by
  go_simp
theorem run_addr_tail2 (b off la c : Nat) (hp : 1 ≤ la) (h1 : la ≤ c) (h2 : c ≤ 9223372036854775807) (hne : c ≠ 1) (W : World) : (Instr.slice 132 (.slice (some ⟨b, off, none⟩) la c) (some (.int .i64 1)) none none).run Try.prog W = .ok (.slice (some ⟨b, off + 1 * 3, none⟩) (la - 1) (c - 1)) W := by
  have h3 : ¬ (la : Int) < 1 := by omega
  go_simp
/-- The first of what is to be done; what lies behind it. -/
theorem StS.addr1 {α : Type} {cells : α → List Value} {ws : World} {col : Nat → Nat} {v : Value} {x : α} {l : List α} (h : StS ws col 3 v ((x :: l).map cells)) :
    ∃ b off n c v', v = .slice (some ⟨b, off, none⟩) n c ∧ 1 ≤ n ∧ n ≤ 9223372036854775807 ∧ n = l.length + 1 ∧ b < ws.heap.size ∧ col b = 0 ∧ (∀ j u, (cells x)[j]? = some u → ws.cell? ⟨b, off + j, none⟩ = some u) ∧
      (∀ W : World, (Instr.slice 132 (.slice (some ⟨b, off, none⟩) n c) (some (.int .i64 1)) none none).run Try.prog W = .ok v' W) ∧ StS ws col 3 v' (l.map cells) := by
  obtain ⟨hs, hcol⟩ := h
  obtain ⟨a, c, rfl, hc1, hc2⟩ := hs.shape
  rw [List.length_map] at hs hc1 hcol
  have hlen : (x :: l).length = l.length + 1 := rfl
  rw [hlen] at hs hc1 hcol
  obtain ⟨b, off, rfl, hlt, hc⟩ := Sl.at hs (i := 0) (c := cells x) rfl
  have hb := hcol ⟨b, off, none⟩ _ _ rfl
  refine ⟨b, off, l.length + 1, c, ?_⟩
  have hcell : ∀ j u, (cells x)[j]? = some u → ws.cell? ⟨b, off + j, none⟩ = some u := fun j u hu => by
    have := hc j u hu
    rwa [Nat.zero_mul, Nat.add_zero] at this
  rcases hs.behind 1 (by simp) with ⟨rfl, h0, _, hs'⟩ | ⟨hne, hs'⟩
  · have h0' : l.length = 0 := by omega
    refine ⟨_, by rw [List.length_map]; rfl, by omega, by omega, rfl, hb.1, hb.2, hcell, fun W => ?_, hs', fun a n c' e => ?_⟩
    · rw [h0']; exact run_addr_tail1 b off W
    · simp only [Value.slice.injEq, Option.some.injEq] at e
      obtain ⟨rfl, _, _⟩ := e
      exact hb
  · refine ⟨_, by rw [List.length_map]; rfl, by omega, by omega, rfl, hb.1, hb.2, hcell, fun W => run_addr_tail2 b off _ c (by omega) hc1 hc2 hne W, hs', fun a n c' e => ?_⟩
    simp only [Value.slice.injEq, Option.some.injEq] at e
    obtain ⟨rfl, _, _⟩ := e
    exact hb
theorem StS.none {ws : World} {col : Nat → Nat} {sz : Nat} {v : Value} (h : StS ws col sz v []) : ∃ a c, v = .slice a 0 c := by
  obtain ⟨a, c, hv, _⟩ := h.1.shape
  exact ⟨a, c, hv⟩

def waitsSays (w : World) (B : Nat) (s : PSt) (ptr : Nat → Nat) (rv : Nat → Value) (wv sv : Value) (e : Ending) (w' : World) : Prop :=
  e = .returned (.bool true) ∧ PW w' B { s with ww := s.ww + 1 } ptr rv wv sv ∧ Chg w w' (fun b _ => b = B)
set_option maxRecDepth 100000 in
theorem waits_yes (B pb wb k : Nat) (s : PSt) (ptr : Nat → Nat) (rv : Nat → Value) (wv sv : Value) (w : World) (h : PW w B s ptr rv wv sv) (hk : k < 2) (hp : w.cell? ⟨pb, 0, none⟩ = some (.pointer (some ⟨B, 0, none⟩))) (hw : w.cell? ⟨wb, 0, none⟩ = some (.pointer (some ⟨B, 20, none⟩))) (hc : 0 < s.C k) (hww : s.ww ≤ 1000) :
    Calls Try.prog 156 #[.int .i64 k, .pointer (some ⟨pb, 0, none⟩), .pointer (some ⟨wb, 0, none⟩)] w (waitsSays w B s ptr rv wv sv) := by
  have HP := Lib.hid h
  have hct := h.ct k hk
  have hcw := h.ww
  have hfw := h.fz 22 (by decide)
  have hk0 : (0 : Int) ≤ k := by omega
  have d : decide ((0 : Int) < s.C k) = true := decide_eq_true hc
  have HQ := Lib.hid (show PW (w.setCell ⟨B, 22, none⟩ (.int .i64 ((s.ww : Int) + 1))) B { s with ww := s.ww + 1 } ptr rv wv sv by have := h.setWw (s.ww + 1); rwa [show ((s.ww + 1 : Nat) : Int) = (s.ww : Int) + 1 by omega] at this)
  have hlt := h.lt
  generalize s.C k = cc at *
  clear h hc
  go_enter Try.func156, Try.ntmps156
  go_wp2
  go_returns
  exact ⟨rfl, HQ.out, chg_blk w B 22 _⟩
set_option maxRecDepth 100000 in
theorem waits_no (B pb wb k : Nat) (s : PSt) (ptr : Nat → Nat) (rv : Nat → Value) (wv sv : Value) (w : World) (h : PW w B s ptr rv wv sv) (hk : k < 2) (hp : w.cell? ⟨pb, 0, none⟩ = some (.pointer (some ⟨B, 0, none⟩))) (hc : ¬ 0 < s.C k) :
    Calls Try.prog 156 #[.int .i64 k, .pointer (some ⟨pb, 0, none⟩), .pointer (some ⟨wb, 0, none⟩)] w fun e w' => e = .returned (.bool false) ∧ w = w' := by
  have hct := h.ct k hk
  have hk0 : (0 : Int) ≤ k := by omega
  have d : decide ((0 : Int) < s.C k) = false := decide_eq_false hc
  generalize s.C k = cc at *
  clear h hc
  go_enter Try.func156, Try.ntmps156
  go_wp2
  go_returns
  exact ⟨rfl, rfl⟩

theorem waits_yes_i (B pb wb k : Nat) (kk : Int) (s : PSt) (ptr : Nat → Nat) (rv : Nat → Value) (wv sv : Value) (w : World) (h : PW w B s ptr rv wv sv) (hk : k < 2) (hkk : kk = (k : Int)) (hp : w.cell? ⟨pb, 0, none⟩ = some (.pointer (some ⟨B, 0, none⟩))) (hw : w.cell? ⟨wb, 0, none⟩ = some (.pointer (some ⟨B, 20, none⟩))) (hc : 0 < s.C k) (hww : s.ww ≤ 1000) :
    Calls Try.prog 156 #[.int .i64 kk, .pointer (some ⟨pb, 0, none⟩), .pointer (some ⟨wb, 0, none⟩)] w (waitsSays w B s ptr rv wv sv) := by
  subst hkk; exact waits_yes B pb wb k s ptr rv wv sv w h hk hp hw hc hww
theorem waits_no_i (B pb wb k : Nat) (kk : Int) (s : PSt) (ptr : Nat → Nat) (rv : Nat → Value) (wv sv : Value) (w : World) (h : PW w B s ptr rv wv sv) (hk : k < 2) (hkk : kk = (k : Int)) (hp : w.cell? ⟨pb, 0, none⟩ = some (.pointer (some ⟨B, 0, none⟩))) (hc : ¬ 0 < s.C k) :
    Calls Try.prog 156 #[.int .i64 kk, .pointer (some ⟨pb, 0, none⟩), .pointer (some ⟨wb, 0, none⟩)] w fun e w' => e = .returned (.bool false) ∧ w = w' := by
  subst hkk; exact waits_no B pb wb k s ptr rv wv sv w h hk hp hc
theorem PI.below {w0 ws w w' : World} {B : Nat} {s : PSt} {col : Nat → Nat} {ptr : Nat → Nat} {rv : Nat → Value} {wv sv : Value} (h : PI w0 ws w B s col ptr rv wv sv) (hb : Below w.heap.size w w') : PI w0 ws w' B s (recol w col 5) ptr rv wv sv :=
  h.step 5 (by decide) (Chg.of_below hb (fun _ _ => False)) (fun b _ hf => hf.elim) (h.pw.below hb) (fun i hi e => by omega) (fun i hi _ => rfl) h.rs h.wsx rfl
theorem PI.put {w0 ws w : World} {B : Nat} {s s' : PSt} {col : Nat → Nat} {ptr : Nat → Nat} {rv rv' : Nat → Value} {wv wv' sv : Value} {y : Nat} {v : Value} (h : PI w0 ws w B s col ptr rv wv sv) (pw : PW (w.setCell ⟨B, y, none⟩ v) B s' ptr rv' wv' sv) (hT : s'.T = s.T)
    (rs : ∀ n, n < 4 → StS ws col 3 (rv' n) ((s'.R n).todo.map addrCells)) (wsx : StS ws col 9 wv' (s'.wt.map actCells)) (se : s'.se = s.se) : PI w0 ws (w.setCell ⟨B, y, none⟩ v) B s' (recol w col 5) ptr rv' wv' sv :=
  h.step 5 (by decide) (chg_blk w B y v) (fun b _ hf => .inl (by rw [hf]; exact h.cB)) pw (fun i hi e => by omega) (fun i hi _ => by rw [hT]) rs wsx se
/-- An act that is done to the table that is not looked at. -/
theorem PI.acted {w0 ws w w' : World} {B : Nat} {s : PSt} {col : Nat → Nat} {ptr : Nat → Nat} {rv : Nat → Value} {wv sv : Value} {x : ActD} (h : PI w0 ws w B s col ptr rv wv sv) (hfr : s.fr < 2)
    (pw : PW w' B (s.act x) ptr rv wv sv) (t : Tab w' (ptr (1 - s.fr)) ((s.act x).T (1 - s.fr)) (fun b => (b < w.heap.size ∧ col b = 2 + (1 - s.fr)) ∨ w.heap.size ≤ b)) (ch : Chg w w' (fun b _ => b = B ∨ (b < w.heap.size ∧ col b = 2 + (1 - s.fr)))) :
    PI w0 ws w' B (s.act x) (recol w col (2 + (1 - s.fr))) ptr rv wv sv :=
  h.step (2 + (1 - s.fr)) (by omega) ch (fun b _ hf => by rcases hf with rfl | hf; (· exact .inl h.cB); exact .inr hf.2) pw (fun i hi e => by
    obtain rfl : i = 1 - s.fr := by omega
    exact t) (fun i hi hne => up_other _ _ (by omega)) h.rs h.wsx rfl
/-- What is done there: the contract once more. -/
theorem pdo_pi {w0 ws w : World} {B : Nat} {s : PSt} {col : Nat → Nat} {ptr : Nat → Nat} {rv : Nat → Value} {wv sv : Value} {x : ActD} (h : PI w0 ws w B s col ptr rv wv sv) (hok : s.ok 1000) (hx : x.fit) :
    Calls Try.prog 157 #[.pointer (some ⟨B, 0, none⟩), Value.agg #[.int .i64 x.kind, .bool false, .int .u64 (hiOf false x.n), .int .u64 (loOf x.n), .int .i64 x.k, .int .i64 x.hop, .bool false, .int .u64 (hiOf false x.a), .int .u64 (loOf x.a)]] w fun e w' => e = .returned (.tuple #[]) ∧ PI w0 ws w' B (s.act x) (recol w col (2 + (1 - s.fr))) ptr rv wv sv ∧ Chg w w' (fun b _ => b < w.heap.size ∧ col b ≠ 0 ∧ col b ≠ 5) := by
  refine (pdo_any B s ptr rv wv sv (fun b => b < w.heap.size ∧ col b = 2 + (1 - s.fr)) x w h.pw hok.fr (h.tab _ (by omega)) (fun b hb e => by
    subst e
    have := h.cB
    omega) hx (hok.T _).len (hok.A _)).mono ?_
  rintro e w' ⟨rfl, p, t, c⟩
  refine ⟨rfl, h.acted hok.fr p t c, c.mono (fun b _ hb => ?_)⟩
  rcases hb with rfl | hb
  · have := h.cB
    exact ⟨h.pw.lt, by omega, by omega⟩
  · have := hok.fr
    exact ⟨hb.1, by omega, by omega⟩

def wstepSays (w0 ws w : World) (B : Nat) (s : PSt) (ptr : Nat → Nat) (rv : Nat → Value) (sv : Value) (e : Ending) (w' : World) : Prop :=
  e = .returned (.tuple #[]) ∧ (∃ col' wv', PI w0 ws w' B (wstep s) col' ptr rv wv' sv) ∧ w.heap.size ≤ w'.heap.size
set_option maxRecDepth 100000 in
set_option maxHeartbeats 4000000 in
theorem wstep_any (w0 ws w : World) (B : Nat) (s : PSt) (col : Nat → Nat) (ptr : Nat → Nat) (rv : Nat → Value) (wv sv : Value) (h : PI w0 ws w B s col ptr rv wv sv) (hok : s.ok 1000) :
    Calls Try.prog 131 #[.pointer (some ⟨B, 20, none⟩), .pointer (some ⟨B, 0, none⟩)] w (wstepSays w0 ws w B s ptr rv sv) := by
  have HP := Lib.hid h
  have HK := Lib.hid hok
  have hlt := h.pw.lt
  cases hwt : s.wt with
  | nil =>
    have hv := h.wsx
    rw [hwt] at hv
    obtain ⟨a, c, rfl⟩ := StS.none hv
    have HQ : Hid (∀ w', Below w.heap.size w w' → wstepSays w0 ws w B s ptr rv sv (.returned (.tuple #[])) w') := Lib.hid (fun w' hb => by
      have e : wstep s = s := by unfold wstep; rw [hwt]
      refine ⟨rfl, ?_, hb.size⟩
      rw [e]
      exact ⟨_, _, h.step 5 (by decide) (Chg.of_below hb (fun _ _ => False)) (fun b _ hf => hf.elim) (h.pw.below hb) (fun i hi e => by omega) (fun i hi _ => rfl) h.rs h.wsx rfl⟩)
    have hw := h.pw.wt
    clear h hok hwt hv
    go_enter Try.func131, Try.ntmps131
    go_wp2
    go_returns
    exact HQ.out _ (((Below.refl _ _).alloc (Nat.le_refl _) _).alloc (by simp) _)
  | cons x l =>
    have hv := h.wsx
    rw [hwt] at hv
    obtain ⟨b, off, n, c, v', rfl, hn1, hn2, hnl, hbl, hcb, hcell, htl, hst⟩ := StS.act1 hv
    obtain ⟨a2, c2, hv2, _⟩ := hst.1.shape
    rw [List.length_map] at hv2
    subst hv2
    have hx : x.ok := hok.wt x (by rw [hwt]; simp)
    have HX := Lib.hid hx
    have HWT := Lib.hid hwt
    have HST := Lib.hid hst
    have hw := h.pw.wt
    have ha := h.pw.wa
    have hd1 : ((n : Int) == 0) = false := by rw [beq_eq_false_iff_ne]; omega
    have hn0 : ¬ n = 0 := by omega
    have hnp : 0 < n := by omega
    have HC := Lib.hid (fun (W : World) (hW : ∀ o, W.cell? ⟨b, o, none⟩ = ws.cell? ⟨b, o, none⟩) (j : Nat) (u : Value) (hu : (actCells x)[j]? = some u) => (hW (off + j)).trans (hcell j u hu))
    have hbw : b < w.heap.size := Nat.lt_of_lt_of_le hbl h.zs
    have hwas : s.wa = 0 ∨ s.wa = 1 ∨ s.wa = 2 ∨ s.wa = 3 := by have := hok.wa; omega
    clear hv hcell hst hwt hx hnl
    -- the two boxes
    have hB2 : Below w.heap.size w ((w.alloc (.cells #[.pointer (some ⟨B, 20, none⟩)] 272)).alloc (.cells #[.pointer (some ⟨B, 0, none⟩)] 246)) := ((Below.refl _ _).alloc (Nat.le_refl _) _).alloc (by simp) _
    have HB2 := Lib.hid hB2
    have q1 : ((w.alloc (.cells #[.pointer (some ⟨B, 20, none⟩)] 272)).alloc (.cells #[.pointer (some ⟨B, 0, none⟩)] 246)).cell? ⟨w.heap.size, 0, none⟩ = some (.pointer (some ⟨B, 20, none⟩)) := by simp
    have q2 : ((w.alloc (.cells #[.pointer (some ⟨B, 20, none⟩)] 272)).alloc (.cells #[.pointer (some ⟨B, 0, none⟩)] 246)).cell? ⟨w.heap.size + 1, 0, none⟩ = some (.pointer (some ⟨B, 0, none⟩)) := by
      have := World.cell?_alloc_new (w.alloc (.cells #[.pointer (some ⟨B, 20, none⟩)] 272)) #[.pointer (some ⟨B, 0, none⟩)] 246 0
      rw [World.size_alloc] at this
      exact this
    have HQ1 := Lib.hid q1
    have HQ2 := Lib.hid q2
    have HSZ := Lib.hid (show ((w.alloc (.cells #[.pointer (some ⟨B, 20, none⟩)] 272)).alloc (.cells #[.pointer (some ⟨B, 0, none⟩)] 246)).heap.size = w.heap.size + 2 by simp)
    clear hB2 q1 q2 h hok
    rcases hwas with hwa | hwa | hwa | hwa
    · rw [hwa] at ha
      have HWA := Lib.hid hwa
      clear hwa
      go_enter Try.func131, Try.ntmps131
      go_wp2_with fail
      change Code.wp _ _ _ _ ((w.alloc (.cells #[.pointer (some ⟨B, 20, none⟩)] 272)).alloc (.cells #[.pointer (some ⟨B, 0, none⟩)] 246))
      generalize (w.alloc (.cells #[.pointer (some ⟨B, 20, none⟩)] 272)).alloc (.cells #[.pointer (some ⟨B, 0, none⟩)] 246) = X at *
      have HPX := Lib.hid (HP.out.below HB2.out)
      have q1 := HQ1.out
      have q2 := HQ2.out
      obtain ⟨N, hN⟩ : ∃ N, N = w.heap.size := ⟨_, rfl⟩
      rw [← hN] at q1 q2 ⊢
      have hNX : N + 1 < X.heap.size := by have := HSZ.out; omega
      have HNW := Lib.hid hN
      clear hN hw ha
      have hw := HPX.out.pw.wt
      have ha := HPX.out.pw.wa
      rw [HWA.out] at ha
      have hbX : b < X.heap.size := by have := HB2.out.size; omega
      have k := HC.out X (fun o => HPX.out.old b o hbl (by rw [recol_old hbw]; exact hcb))
      have k0 := k 0 _ rfl
      have k1 := k 1 _ rfl
      have k2 := k 2 _ rfl
      have k3 := k 3 _ rfl
      have k4 := k 4 _ rfl
      have k5 := k 5 _ rfl
      have k6 := k 6 _ rfl
      have k7 := k 7 _ rfl
      have k8 := k 8 _ rfl
      rw [Nat.add_zero] at k0
      clear k
      go_still_tail 7, (by kernel_rfl)
      change wpList _ _ _ _ _ X.drew
      have HPY := Lib.hid (HPX.out.below (w' := X.drew) (Below.drew (Below.refl _ _)))
      have q1y : X.drew.cell? ⟨N, 0, none⟩ = some (.pointer (some ⟨B, 20, none⟩)) := q1
      have q2y : X.drew.cell? ⟨N + 1, 0, none⟩ = some (.pointer (some ⟨B, 0, none⟩)) := q2
      have hNY : N + 1 < X.drew.heap.size := hNX
      have hcN : recol X (recol w col 5) 5 N = 5 := by rw [recol_old (by omega), recol_new (by have := HNW.out; omega)]
      clear q1 q2 k0 k1 k2 k3 k4 k5 k6 k7 k8 hw ha hNX HPX
      have HZX := Lib.hid (show X.heap.size ≤ X.drew.heap.size from Nat.le_refl _)
      generalize recol X (recol w col 5) 5 = colY at *
      generalize X.drew = Y at *
      go_wp2_with fail
      refine (pdo_pi HPY.out HK.out (okA_fit HX.out)).mono ?_
      rintro e w3 ⟨rfl, hp3, hc3⟩
      have HP3 := Lib.hid hp3
      have q13 := (hc3.cell N 0 (by omega) (fun hg => hg.2.2 hcN)).trans q1y
      have ha := hp3.pw.wa
      have hfa := hp3.pw.fz 21 (by decide)
      have hlt3 := hp3.pw.lt
      have hN3 : N < w3.heap.size := Nat.lt_of_lt_of_le (by omega) hc3.size
      have HZ3 := Lib.hid hc3.size
      change w3.cell? ⟨B, 21, none⟩ = some (.int .i64 s.wa) at ha
      rw [HWA.out] at ha
      clear hp3 hc3 q1y q2y hNY hcN
      go_wp2_with fail
      go_still_tail 9, (by kernel_rfl)
      change wpList _ _ _ _ _ w3.drew
      have HPZ := Lib.hid (HP3.out.below (w' := w3.drew) (Below.drew (Below.refl _ _)))
      have ha : w3.drew.cell? ⟨B, 21, none⟩ = some (.int .i64 0) := ha
      have hfa : w3.drew.frozen? ⟨B, 21, none⟩ = false := hfa
      have hltz : B < w3.drew.heap.size := hlt3
      have HZZ := Lib.hid (show w.heap.size ≤ w3.drew.heap.size from Nat.le_trans (Nat.le_trans HB2.out.size HZX.out) HZ3.out)
      clear q13 hN3 hlt3
      generalize w3.drew = Z at *
      go_wp2_with fail
      go_end0
      refine ⟨rfl, ?_, by have := HZZ.out; simpa using this⟩
      have e : wstep s = { (s.act x) with wa := 1 } := by
        unfold wstep
        rw [HWT.out]
        simp only [HWA.out]
        rfl
      rw [e]
      exact ⟨_, _, HPZ.out.put (HPZ.out.pw.setWa 1) rfl HPZ.out.rs HPZ.out.wsx rfl⟩
    · rw [hwa] at ha
      have HWA := Lib.hid hwa
      clear hwa
      go_enter Try.func131, Try.ntmps131
      go_wp2_with fail
      change Code.wp _ _ _ _ ((w.alloc (.cells #[.pointer (some ⟨B, 20, none⟩)] 272)).alloc (.cells #[.pointer (some ⟨B, 0, none⟩)] 246))
      generalize (w.alloc (.cells #[.pointer (some ⟨B, 20, none⟩)] 272)).alloc (.cells #[.pointer (some ⟨B, 0, none⟩)] 246) = X at *
      have HPX := Lib.hid (HP.out.below HB2.out)
      have q1 := HQ1.out
      have q2 := HQ2.out
      obtain ⟨N, hN⟩ : ∃ N, N = w.heap.size := ⟨_, rfl⟩
      rw [← hN] at q1 q2 ⊢
      have hNX : N + 1 < X.heap.size := by have := HSZ.out; omega
      have HNW := Lib.hid hN
      clear hN hw ha
      have hw := HPX.out.pw.wt
      have ha := HPX.out.pw.wa
      rw [HWA.out] at ha
      have hbX : b < X.heap.size := by have := HB2.out.size; omega
      have hNB : N ≠ B := by
        intro e
        have := HP.out.pw.lt
        have := HNW.out
        omega
      have hcX : X.cell? ⟨B, 4, none⟩ = some (.int .i64 s.fr) := HPX.out.pw.fr
      have hlX := HPX.out.pw.lt
      have HF2 := Lib.hid (show s.fr < 2 from HK.out.fr)
      have ew : IntKind.i64.wrap (1 - (s.fr : Int)) = ((1 - s.fr : Nat) : Int) := by
        rw [IntWalk.i64_in _ (by have := HF2.out; omega)]
        have := HF2.out; omega
      go_still_tail 8, (by kernel_rfl)
      change wpList _ _ _ _ _ X.drew
      have HPY := Lib.hid (HPX.out.below (w' := X.drew) (Below.drew (Below.refl _ _)))
      have q1y : X.drew.cell? ⟨N, 0, none⟩ = some (.pointer (some ⟨B, 20, none⟩)) := q1
      have q2y : X.drew.cell? ⟨N + 1, 0, none⟩ = some (.pointer (some ⟨B, 0, none⟩)) := q2
      have hNY : N + 1 < X.drew.heap.size := hNX
      have hcN : recol X (recol w col 5) 5 N = 5 := by rw [recol_old (by omega), recol_new (by have := HNW.out; omega)]
      clear ew hcX hlX q1 q2 hw ha hNX HPX
      have HZX := Lib.hid (show X.heap.size ≤ X.drew.heap.size from Nat.le_refl _)
      generalize recol X (recol w col 5) 5 = colY at *
      generalize X.drew = Y at *
      have hfz : Y.frozen? ⟨B, 4, none⟩ = false := HPY.out.pw.fz 4 (by decide)
      have hcY : Y.cell? ⟨B, 4, none⟩ = some (.int .i64 s.fr) := HPY.out.pw.fr
      have hltY := HPY.out.pw.lt
      go_wp2_with fail
      have hp3 := HPY.out.put (v := .int .i64 ((1 - s.fr : Nat) : Int)) (HPY.out.pw.setFr (1 - s.fr)) rfl HPY.out.rs HPY.out.wsx rfl
      have q13 : (Y.setCell ⟨B, 4, none⟩ (.int .i64 ((1 - s.fr : Nat) : Int))).cell? ⟨N, 0, none⟩ = some (.pointer (some ⟨B, 20, none⟩)) := ((chg_blk Y B 4 (.int .i64 ((1 - s.fr : Nat) : Int))).cell N 0 (by omega) (fun e => hNB e)).trans q1y
      have HZ3 := Lib.hid (show X.heap.size ≤ (Y.setCell ⟨B, 4, none⟩ (.int .i64 ((1 - s.fr : Nat) : Int))).heap.size by rw [World.size_setCell]; exact HZX.out)
      have hN3 : N < (Y.setCell ⟨B, 4, none⟩ (.int .i64 ((1 - s.fr : Nat) : Int))).heap.size := by rw [World.size_setCell]; omega
      change Code.wp _ _ _ _ (Y.setCell ⟨B, 4, none⟩ (.int .i64 ((1 - s.fr : Nat) : Int)))
      generalize Y.setCell ⟨B, 4, none⟩ (.int .i64 ((1 - s.fr : Nat) : Int)) = w3 at *
      clear hcY hfz q1y q2y hNY hltY
      have HP3 := Lib.hid hp3
      have ha := hp3.pw.wa
      have hfa := hp3.pw.fz 21 (by decide)
      have hlt3 := hp3.pw.lt
      change w3.cell? ⟨B, 21, none⟩ = some (.int .i64 s.wa) at ha
      rw [HWA.out] at ha
      clear hp3
      go_wp2_with fail
      go_still_tail 9, (by kernel_rfl)
      change wpList _ _ _ _ _ w3.drew
      have HPZ := Lib.hid (HP3.out.below (w' := w3.drew) (Below.drew (Below.refl _ _)))
      have ha : w3.drew.cell? ⟨B, 21, none⟩ = some (.int .i64 1) := ha
      have hfa : w3.drew.frozen? ⟨B, 21, none⟩ = false := hfa
      have hltz : B < w3.drew.heap.size := hlt3
      have HZZ := Lib.hid (show w.heap.size ≤ w3.drew.heap.size from Nat.le_trans HB2.out.size HZ3.out)
      clear q13 hN3 hlt3
      generalize w3.drew = Z at *
      go_wp2_with fail
      go_end0
      refine ⟨rfl, ?_, by have := HZZ.out; simpa using this⟩
      have e : wstep s = { ({ s with fr := 1 - s.fr }) with wa := 2 } := by
        unfold wstep
        rw [HWT.out]
        simp only [HWA.out]
        rfl
      rw [e]
      exact ⟨_, _, HPZ.out.put (HPZ.out.pw.setWa 2) rfl HPZ.out.rs HPZ.out.wsx rfl⟩
    · rw [hwa] at ha
      have HWA := Lib.hid hwa
      clear hwa
      go_enter Try.func131, Try.ntmps131
      go_upto_region 12 with fail
      change Code.wp _ _ _ _ ((w.alloc (.cells #[.pointer (some ⟨B, 20, none⟩)] 272)).alloc (.cells #[.pointer (some ⟨B, 0, none⟩)] 246))
      generalize (w.alloc (.cells #[.pointer (some ⟨B, 20, none⟩)] 272)).alloc (.cells #[.pointer (some ⟨B, 0, none⟩)] 246) = X at *
      have HPX := Lib.hid (HP.out.below HB2.out)
      have q1 := HQ1.out
      have q2 := HQ2.out
      obtain ⟨N, hN⟩ : ∃ N, N = w.heap.size := ⟨_, rfl⟩
      rw [← hN] at q1 q2 ⊢
      have hNX : N + 1 < X.heap.size := by have := HSZ.out; omega
      have HNW := Lib.hid hN
      clear hN hw ha
      have hw := HPX.out.pw.wt
      have ha := HPX.out.pw.wa
      rw [HWA.out] at ha
      have hbX : b < X.heap.size := by have := HB2.out.size; omega
      have hNB : N ≠ B := by
        intro e
        have := HP.out.pw.lt
        have := HNW.out
        omega
      have hcu : X.cell? ⟨B, 7, none⟩ = some (.int .i64 s.us) := HPX.out.pw.us
      have hu1 : s.us ≤ 1 := by have := HK.out.us; omega
      by_cases hc : 0 < s.C (1 - s.us)
      · have HCY := Lib.hid hc
        clear hc
        go_wp2_with fail
        refine (waits_yes_i B (N + 1) N (1 - s.us) _ s ptr rv _ sv X HPX.out.pw (by omega) (by omega) q2 q1 HCY.out (HK.out.ww)).mono ?_
        rintro e w3 ⟨rfl, hp3, hc3⟩
        have HP3 := Lib.hid (HPX.out.step 5 (by decide) hc3 (fun b _ hf => .inl (by rw [hf, recol_old (by have := HP.out.pw.lt; omega)]; exact HP.out.cB)) hp3 (fun i hi e => by omega) (fun i hi _ => rfl) HPX.out.rs HPX.out.wsx rfl)
        have HZ3 := Lib.hid (Nat.le_trans HB2.out.size hc3.size)
        clear hp3 hc3
        go_wp2
        go_returns
        have e : wstep s = { s with ww := s.ww + 1 } := by
          unfold wstep
          rw [HWT.out]
          simp only [HWA.out]
          simp [HCY.out]
        refine ⟨rfl, ?_, HZ3.out⟩
        rw [e]
        exact ⟨_, _, HP3.out⟩
      · have HNC := Lib.hid hc
        clear hc
        go_wp2_with fail
        refine (waits_no_i B (N + 1) N (1 - s.us) _ s ptr rv _ sv X HPX.out.pw (by omega) (by omega) q2 (by have := HNC.out; omega)).mono ?_
        rintro e w' ⟨rfl, rfl⟩
        go_wp2_with fail
        have ew : IntKind.i64.wrap (1 - (s.us : Int)) = ((1 - s.us : Nat) : Int) := by
          rw [IntWalk.i64_in _ (by omega)]
          omega
        go_still_tail 8, (by kernel_rfl)
        change wpList _ _ _ _ _ X.drew
        have HPY := Lib.hid (HPX.out.below (w' := X.drew) (Below.drew (Below.refl _ _)))
        have q1y : X.drew.cell? ⟨N, 0, none⟩ = some (.pointer (some ⟨B, 20, none⟩)) := q1
        have q2y : X.drew.cell? ⟨N + 1, 0, none⟩ = some (.pointer (some ⟨B, 0, none⟩)) := q2
        have hNY : N + 1 < X.drew.heap.size := hNX
        have hcN : recol X (recol w col 5) 5 N = 5 := by rw [recol_old (by omega), recol_new (by have := HNW.out; omega)]
        clear ew hcu q1 q2 hw ha hNX HPX
        have HZX := Lib.hid (show X.heap.size ≤ X.drew.heap.size from Nat.le_refl _)
        generalize recol X (recol w col 5) 5 = colY at *
        generalize X.drew = Y at *
        have hfz : Y.frozen? ⟨B, 7, none⟩ = false := HPY.out.pw.fz 7 (by decide)
        have hcY : Y.cell? ⟨B, 7, none⟩ = some (.int .i64 s.us) := HPY.out.pw.us
        have hltY := HPY.out.pw.lt
        go_wp2_with fail
        have hp3 := HPY.out.put (v := .int .i64 ((1 - s.us : Nat) : Int)) (HPY.out.pw.setUs (1 - s.us)) rfl HPY.out.rs HPY.out.wsx rfl
        have q13 : (Y.setCell ⟨B, 7, none⟩ (.int .i64 ((1 - s.us : Nat) : Int))).cell? ⟨N, 0, none⟩ = some (.pointer (some ⟨B, 20, none⟩)) := ((chg_blk Y B 7 (.int .i64 ((1 - s.us : Nat) : Int))).cell N 0 (by omega) (fun e => hNB e)).trans q1y
        have HZ3 := Lib.hid (show X.heap.size ≤ (Y.setCell ⟨B, 7, none⟩ (.int .i64 ((1 - s.us : Nat) : Int))).heap.size by rw [World.size_setCell]; exact HZX.out)
        have hN3 : N < (Y.setCell ⟨B, 7, none⟩ (.int .i64 ((1 - s.us : Nat) : Int))).heap.size := by rw [World.size_setCell]; omega
        change Code.wp _ _ _ _ (Y.setCell ⟨B, 7, none⟩ (.int .i64 ((1 - s.us : Nat) : Int)))
        generalize Y.setCell ⟨B, 7, none⟩ (.int .i64 ((1 - s.us : Nat) : Int)) = w3 at *
        clear hcY hfz q1y q2y hNY hltY
        have HP3 := Lib.hid hp3
        have ha := hp3.pw.wa
        have hfa := hp3.pw.fz 21 (by decide)
        have hlt3 := hp3.pw.lt
        change w3.cell? ⟨B, 21, none⟩ = some (.int .i64 s.wa) at ha
        rw [HWA.out] at ha
        clear hp3
        go_wp2_with fail
        go_still_tail 9, (by kernel_rfl)
        change wpList _ _ _ _ _ w3.drew
        have HPZ := Lib.hid (HP3.out.below (w' := w3.drew) (Below.drew (Below.refl _ _)))
        have ha : w3.drew.cell? ⟨B, 21, none⟩ = some (.int .i64 2) := ha
        have hfa : w3.drew.frozen? ⟨B, 21, none⟩ = false := hfa
        have hltz : B < w3.drew.heap.size := hlt3
        have HZZ := Lib.hid (show w.heap.size ≤ w3.drew.heap.size from Nat.le_trans HB2.out.size HZ3.out)
        clear q13 hN3 hlt3
        generalize w3.drew = Z at *
        go_wp2_with fail
        go_end0
        refine ⟨rfl, ?_, by have := HZZ.out; simpa using this⟩
        have e : wstep s = { ({ s with us := 1 - s.us }) with wa := 3 } := by
          unfold wstep
          rw [HWT.out]
          simp [HWA.out, HNC.out]
        rw [e]
        exact ⟨_, _, HPZ.out.put (HPZ.out.pw.setWa 3) rfl HPZ.out.rs HPZ.out.wsx rfl⟩
    · rw [hwa] at ha
      have HWA := Lib.hid hwa
      clear hwa
      go_enter Try.func131, Try.ntmps131
      go_upto_region 4 with fail
      change Code.wp _ _ _ _ ((w.alloc (.cells #[.pointer (some ⟨B, 20, none⟩)] 272)).alloc (.cells #[.pointer (some ⟨B, 0, none⟩)] 246))
      generalize (w.alloc (.cells #[.pointer (some ⟨B, 20, none⟩)] 272)).alloc (.cells #[.pointer (some ⟨B, 0, none⟩)] 246) = X at *
      have HPX := Lib.hid (HP.out.below HB2.out)
      have q1 := HQ1.out
      have q2 := HQ2.out
      obtain ⟨N, hN⟩ : ∃ N, N = w.heap.size := ⟨_, rfl⟩
      rw [← hN] at q1 q2 ⊢
      have hNX : N + 1 < X.heap.size := by have := HSZ.out; omega
      have HNW := Lib.hid hN
      clear hN hw ha
      have hw := HPX.out.pw.wt
      have ha := HPX.out.pw.wa
      rw [HWA.out] at ha
      have hbX : b < X.heap.size := by have := HB2.out.size; omega
      have hNB : N ≠ B := by
        intro e
        have := HP.out.pw.lt
        have := HNW.out
        omega
      have hcu : X.cell? ⟨B, 7, none⟩ = some (.int .i64 s.us) := HPX.out.pw.us
      have hu1 : s.us ≤ 1 := by have := HK.out.us; omega
      have k := HC.out X (fun o => HPX.out.old b o hbl (by rw [recol_old hbw]; exact hcb))
      have k0 := k 0 _ rfl
      have k1 := k 1 _ rfl
      have k2 := k 2 _ rfl
      have k3 := k 3 _ rfl
      have k4 := k 4 _ rfl
      have k5 := k 5 _ rfl
      have k6 := k 6 _ rfl
      have k7 := k 7 _ rfl
      have k8 := k 8 _ rfl
      rw [Nat.add_zero] at k0
      clear k
      have HKK := Lib.hid (⟨k0, k1, k2, k3, k4, k5, k6, k7, k8⟩ : _ ∧ _ ∧ _ ∧ _ ∧ _ ∧ _ ∧ _ ∧ _ ∧ _)
      clear k0 k1 k2 k3 k4 k5 k6 k7 k8
      by_cases hc : 0 < s.C (1 - s.us)
      · have HCY := Lib.hid hc
        clear hc
        go_wp2_with fail
        refine (waits_yes_i B (N + 1) N (1 - s.us) _ s ptr rv _ sv X HPX.out.pw (by omega) (by omega) q2 q1 HCY.out (HK.out.ww)).mono ?_
        rintro e w3 ⟨rfl, hp3, hc3⟩
        have HP3 := Lib.hid (HPX.out.step 5 (by decide) hc3 (fun b _ hf => .inl (by rw [hf, recol_old (by have := HP.out.pw.lt; omega)]; exact HP.out.cB)) hp3 (fun i hi e => by omega) (fun i hi _ => rfl) HPX.out.rs HPX.out.wsx rfl)
        have HZ3 := Lib.hid (Nat.le_trans HB2.out.size hc3.size)
        clear hp3 hc3
        go_wp2
        go_returns
        have e : wstep s = { s with ww := s.ww + 1 } := by
          unfold wstep
          rw [HWT.out]
          simp only [HWA.out]
          simp [HCY.out]
        refine ⟨rfl, ?_, HZ3.out⟩
        rw [e]
        exact ⟨_, _, HP3.out⟩
      · have HNC := Lib.hid hc
        clear hc
        go_wp2_with fail
        refine (waits_no_i B (N + 1) N (1 - s.us) _ s ptr rv _ sv X HPX.out.pw (by omega) (by omega) q2 (by have := HNC.out; omega)).mono ?_
        rintro e w' ⟨rfl, rfl⟩
        go_wp2_with fail
        obtain ⟨k0, k1, k2, k3, k4, k5, k6, k7, k8⟩ := HKK.out
        go_still_tail 7, (by kernel_rfl)
        change wpList _ _ _ _ _ X.drew
        have HPY := Lib.hid (HPX.out.below (w' := X.drew) (Below.drew (Below.refl _ _)))
        have q1y : X.drew.cell? ⟨N, 0, none⟩ = some (.pointer (some ⟨B, 20, none⟩)) := q1
        have q2y : X.drew.cell? ⟨N + 1, 0, none⟩ = some (.pointer (some ⟨B, 0, none⟩)) := q2
        have hNY : N + 1 < X.drew.heap.size := hNX
        have hcN : recol X (recol w col 5) 5 N = 5 := by rw [recol_old (by omega), recol_new (by have := HNW.out; omega)]
        have HSTY := Lib.hid (show StS ws (recol X (recol w col 5) 5) 9 (.slice a2 l.length c2) (l.map actCells) from (HST.out.recol HP.out.zs).recol HPX.out.zs)
        clear hcu q1 q2 k0 k1 k2 k3 k4 k5 k6 k7 k8 hw ha hNX HPX
        have HZX := Lib.hid (show X.heap.size ≤ X.drew.heap.size from Nat.le_refl _)
        generalize recol X (recol w col 5) 5 = colY at *
        generalize X.drew = Y at *
        go_wp2_with fail
        refine (pdo_pi HPY.out HK.out (okA_fit HX.out)).mono ?_
        rintro e w4 ⟨rfl, hp4, hc4⟩
        have HP4 := Lib.hid hp4
        have q14 := (hc4.cell N 0 (by omega) (fun hg => hg.2.2 hcN)).trans q1y
        have hw4 : w4.cell? ⟨B, 20, none⟩ = some (.slice (some ⟨b, off, none⟩) n c) := hp4.pw.wt
        have hlt4 := hp4.pw.lt
        have hN4 : N < w4.heap.size := Nat.lt_of_lt_of_le (by omega) hc4.size
        have HZ4 := Lib.hid (Nat.le_trans HZX.out hc4.size)
        clear hp4 hc4 q1y q2y hNY hcN
        go_wp2_with fail
        go_still_tail 8, (by kernel_rfl)
        change wpList _ _ _ _ _ w4.drew
        have HP5 := Lib.hid (HP4.out.below (w' := w4.drew) (Below.drew (Below.refl _ _)))
        have q15 : w4.drew.cell? ⟨N, 0, none⟩ = some (.pointer (some ⟨B, 20, none⟩)) := q14
        have hN5 : N < w4.drew.heap.size := hN4
        have hw5 : w4.drew.cell? ⟨B, 20, none⟩ = some (.slice (some ⟨b, off, none⟩) n c) := hw4
        have HZ5 := Lib.hid (show X.heap.size ≤ w4.drew.heap.size from HZ4.out)
        clear q14 hN4 hw4 hlt4
        generalize w4.drew = Y2 at *
        have hlt5 := HP5.out.pw.lt
        have hfz5 := HP5.out.pw.fz 20 (by decide)
        go_wp2_with fail
        have hp3 := HP5.out.put (s' := { (s.act x) with wt := l }) (HP5.out.pw.setWt l (.slice a2 l.length c2)) rfl HP5.out.rs ((HSTY.out.recol HPY.out.zs).recol HP4.out.zs) rfl
        have q13 : (Y2.setCell ⟨B, 20, none⟩ (.slice a2 l.length c2)).cell? ⟨N, 0, none⟩ = some (.pointer (some ⟨B, 20, none⟩)) := ((chg_blk Y2 B 20 (.slice a2 l.length c2)).cell N 0 hN5 (fun e => hNB e)).trans q15
        have HZ3 := Lib.hid (show X.heap.size ≤ (Y2.setCell ⟨B, 20, none⟩ (.slice a2 l.length c2)).heap.size by rw [World.size_setCell]; exact HZ5.out)
        have hN3 : N < (Y2.setCell ⟨B, 20, none⟩ (.slice a2 l.length c2)).heap.size := by rw [World.size_setCell]; omega
        change Code.wp _ _ _ _ (Y2.setCell ⟨B, 20, none⟩ (.slice a2 l.length c2))
        generalize Y2.setCell ⟨B, 20, none⟩ (.slice a2 l.length c2) = w3 at *
        clear q15 hN5 hw5 hlt5 hfz5
        have HP3 := Lib.hid hp3
        have ha := hp3.pw.wa
        have hfa := hp3.pw.fz 21 (by decide)
        have hlt3 := hp3.pw.lt
        change w3.cell? ⟨B, 21, none⟩ = some (.int .i64 s.wa) at ha
        rw [HWA.out] at ha
        clear hp3
        go_wp2_with fail
        go_still_tail 9, (by kernel_rfl)
        change wpList _ _ _ _ _ w3.drew
        have HPZ := Lib.hid (HP3.out.below (w' := w3.drew) (Below.drew (Below.refl _ _)))
        have ha : w3.drew.cell? ⟨B, 21, none⟩ = some (.int .i64 3) := ha
        have hfa : w3.drew.frozen? ⟨B, 21, none⟩ = false := hfa
        have hltz : B < w3.drew.heap.size := hlt3
        have HZZ := Lib.hid (show w.heap.size ≤ w3.drew.heap.size from Nat.le_trans HB2.out.size HZ3.out)
        clear q13 hN3 hlt3
        generalize w3.drew = Z at *
        go_wp2_with fail
        go_end0
        refine ⟨rfl, ?_, by have := HZZ.out; simpa using this⟩
        have e : wstep s = { ({ (s.act x) with wt := l }) with wa := 0 } := by
          unfold wstep
          rw [HWT.out]
          simp [HWA.out, HNC.out]
        rw [e]
        exact ⟨_, _, HPZ.out.put (HPZ.out.pw.setWa 0) rfl HPZ.out.rs HPZ.out.wsx rfl⟩
end Go.Proofs.Ytllemhknmleklaa
