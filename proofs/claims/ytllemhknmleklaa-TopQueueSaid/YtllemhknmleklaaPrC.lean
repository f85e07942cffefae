
/- A pair of tables: a reader's steps. -/
import Derived.Test.YtllemhknmleklaaPrB
set_option linter.unusedVariables false
set_option linter.unusedSimpArgs false
namespace Go.Proofs.Ytllemhknmleklaa
open Go Go.RowKit Go.Sort Wc Wk

theorem up_up {α : Type} (f : Nat → α) (i : Nat) (u v : α) : up (up f i u) i v = up f i v := by
  funext j
  unfold up
  split <;> rfl
/-- What a reader is told. -/
def rtold (s : PSt) (n : Nat) : Bool × Nat × Nat × Nat :=
  match (s.R n).todo with
  | [] => (false, 0, 0, 0)
  | a :: _ => if (s.R n).at_ = 2 then (true, (goesL (s.T s.fr) a).1, (goesL (s.T s.fr) a).2, s.A s.fr) else (false, 0, 0, 0)
def rmove (s : PSt) (n : Nat) : PSt := { rstep s n with se := s.se }
theorem rstep_eq (s : PSt) (n : Nat) : rstep s n = { rmove s n with se := s.se ++ (if (rtold s n).1 then [⟨n, (rtold s n).2.1, (rtold s n).2.2.1, (rtold s n).2.2.2⟩] else []) } := by
  unfold rmove rstep rtold
  cases htd : (s.R n).todo with
  | nil => simp
  | cons a l =>
    by_cases h0 : (s.R n).at_ = 0
    · simp [h0]
    · by_cases h1 : (s.R n).at_ = 1
      · simp [h1]
      · by_cases h2 : (s.R n).at_ = 2
        · simp [h2]
        · simp [h0, h1, h2]
def rstepSays (w0 ws w : World) (B : Nat) (s : PSt) (n : Nat) (col : Nat → Nat) (ptr : Nat → Nat) (wv sv : Value) (e : Ending) (w' : World) : Prop :=
  e = .returned (.tuple #[.agg #[.int .i64 0, .int .i64 (rtold s n).2.1, .int .i64 (rtold s n).2.2.1], .int .i64 (rtold s n).2.2.2, .bool (rtold s n).1]) ∧ (∃ col' rv', PI w0 ws w' B (rmove s n) col' ptr rv' wv sv ∧ ∀ b, b < w.heap.size → col' b = col b) ∧ w.heap.size ≤ w'.heap.size ∧ Chg w w' (fun b _ => b = B)
/-- The box of a result, which nobody else knows. -/
theorem PI.junk {w0 ws w w' : World} {B M : Nat} {s : PSt} {col : Nat → Nat} {ptr : Nat → Nat} {rv : Nat → Value} {wv sv : Value} (h : PI w0 ws w B s col ptr rv wv sv) (hM : col M = 5) (ch : Chg w w' (fun b _ => b = M)) : PI w0 ws w' B s (recol w col 5) ptr rv wv sv :=
  h.step 5 (by decide) ch (fun b _ hf => .inr (by rw [hf]; exact hM)) (h.pw.keep ch (fun x e => by have := h.cB; rw [e] at this; omega)) (fun i hi e => by omega) (fun i hi _ => rfl) h.rs h.wsx rfl
theorem StS.up {ws : World} {col : Nat → Nat} {rv : Nat → Value} {R : Nat → RdS} {n : Nat} {v : Value} {r : RdS} (h : ∀ n, n < 4 → StS ws col 3 (rv n) ((R n).todo.map addrCells)) (hv : StS ws col 3 v (r.todo.map addrCells)) : ∀ m, m < 4 → StS ws col 3 (up rv n v m) ((up R n r m).todo.map addrCells) := by
  intro m hm
  unfold Go.Proofs.Ytllemhknmleklaa.up
  split
  · exact hv
  · exact h m hm
theorem StS.up0 {ws : World} {col : Nat → Nat} {rv : Nat → Value} {R : Nat → RdS} {n : Nat} {r : RdS} (h : ∀ n, n < 4 → StS ws col 3 (rv n) ((R n).todo.map addrCells)) (hr : r.todo = (R n).todo) : ∀ m, m < 4 → StS ws col 3 (rv m) ((Go.Proofs.Ytllemhknmleklaa.up R n r m).todo.map addrCells) := by
  intro m hm
  unfold Go.Proofs.Ytllemhknmleklaa.up
  split
  · rename_i e; rw [hr, e]; rw [e] at hm; exact h n hm
  · exact h m hm

theorem rfin {w0 ws w X : World} {B N n : Nat} {s s1 : PSt} {col col1 : Nat → Nat} {ptr : Nat → Nat} {rv1 : Nat → Value} {wv sv : Value} {lk : Bool} {hop len acts : Nat} (hp : PI w0 ws X B s1 col1 ptr rv1 wv sv) (hs : rmove s n = s1) (hM : col1 N = 5) (hz : w.heap.size ≤ X.heap.size) (hN : w.heap.size ≤ N) (hch : Chg w X (fun b _ => b = B)) (hco : ∀ b, b < w.heap.size → col1 b = col b) (ht : rtold s n = (lk, hop, len, acts)) (u0 u1 u2 : Value) :
    rstepSays w0 ws w B s n col ptr wv sv (.returned (.tuple #[.agg #[.int .i64 0, .int .i64 hop, .int .i64 len], .int .i64 acts, .bool lk])) (((X.setCell ⟨N, 0, none⟩ u0).setCell ⟨N, 1, none⟩ u1).setCell ⟨N, 2, none⟩ u2) := by
  have c := b3_chg X N u0 u1 u2
  refine ⟨by rw [ht], ?_, Nat.le_trans hz c.size, hch.trans c (fun b y hb h => by omega)⟩
  rw [hs]
  exact ⟨_, _, hp.junk hM c, fun b hb => (recol_old (Nat.lt_of_lt_of_le hb hz)).trans (hco b hb)⟩

set_option maxRecDepth 100000 in
set_option maxHeartbeats 4000000 in
theorem rstep_any (w0 ws w : World) (B n : Nat) (s : PSt) (col : Nat → Nat) (ptr : Nat → Nat) (rv : Nat → Value) (wv sv : Value) (h : PI w0 ws w B s col ptr rv wv sv) (hok : s.ok 1000) (hn : n < 4) :
    Calls Try.prog 132 #[.pointer (some ⟨B, 8 + n * 3, none⟩), .pointer (some ⟨B, 0, none⟩)] w (rstepSays w0 ws w B s n col ptr wv sv) := by
  have HK := Lib.hid hok
  have hB2 : Below w.heap.size w (w.alloc (.cells #[.int .i64 0, .int .i64 0, .int .i64 0] 53)) := (Below.refl _ _).alloc (Nat.le_refl _) _
  have HB2 := Lib.hid hB2
  have HM3 := Lib.hid (b3_new w 53)
  have HSZ := Lib.hid (show (w.alloc (.cells #[.int .i64 0, .int .i64 0, .int .i64 0] 53)).heap.size = w.heap.size + 1 by simp)
  have HPX := Lib.hid (h.below hB2)
  have hltB := h.pw.lt
  have hzs := h.zs
  obtain ⟨R, hR⟩ : ∃ R, R = 8 + n * 3 := ⟨_, rfl⟩
  have HRT := Lib.hid (fun (W : World) (s' : PSt) (rv' : Nat → Value) (wv' sv' : Value) (hp : PW W B s' ptr rv' wv' sv') => hp.rt n hn)
  have HRA := Lib.hid (fun (W : World) (s' : PSt) (rv' : Nat → Value) (wv' sv' : Value) (hp : PW W B s' ptr rv' wv' sv') => hp.ra n hn)
  have HRC := Lib.hid (fun (W : World) (s' : PSt) (rv' : Nat → Value) (wv' sv' : Value) (hp : PW W B s' ptr rv' wv' sv') => hp.rc n hn)
  have HF0 := Lib.hid (fun (W : World) (s' : PSt) (rv' : Nat → Value) (wv' sv' : Value) (hp : PW W B s' ptr rv' wv' sv') => (⟨hp.fz (8 + n * 3) (by omega), hp.fz (8 + n * 3 + 1) (by omega), hp.fz (8 + n * 3 + 2) (by omega)⟩ : _ ∧ _ ∧ _))
  have HSA := Lib.hid (fun (W : World) (s' : PSt) (rv' : Nat → Value) (wv' sv' : Value) (hp : PW W B s' ptr rv' wv' sv') (m : Nat) => hp.setRa hn m)
  have HSC := Lib.hid (fun (W : World) (s' : PSt) (rv' : Nat → Value) (wv' sv' : Value) (hp : PW W B s' ptr rv' wv' sv') (m : Nat) => hp.setRc hn m)
  have HST := Lib.hid (fun (W : World) (s' : PSt) (rv' : Nat → Value) (wv' sv' : Value) (hp : PW W B s' ptr rv' wv' sv') (l : List Nat) (v : Value) => hp.setRt hn l v)
  rw [← hR] at HRT HRA HRC HF0 HSA HSC HST ⊢
  have hM5 : recol w col 5 w.heap.size = 5 := recol_new (Nat.le_refl _)
  have HHI := Lib.hid hn
  clear hR hB2 h hok
  have HCOX : Hid (∀ b, b < w.heap.size → recol w col 5 b = col b) := Lib.hid (fun b hb => recol_old hb)
  generalize recol w col 5 = colX at *
  have HRS := Lib.hid (HPX.out.rs n HHI.out)
  obtain ⟨N, hN⟩ : ∃ N, N = w.heap.size := ⟨_, rfl⟩
  cases htd : (s.R n).todo with
  | nil =>
    have hv := HRS.out
    rw [htd] at hv
    obtain ⟨a, c, hva⟩ := StS.none hv
    have HT : Hid (rtold s n = (false, 0, 0, 0)) := Lib.hid (by unfold rtold; rw [htd])
    have HE : Hid (rmove s n = s) := Lib.hid (by unfold rmove rstep; rw [htd])
    clear hv htd
    go_enter Try.func132, Try.ntmps132
    go_upto_region 1 with fail
    change Code.wp _ _ _ _ (w.alloc (.cells #[.int .i64 0, .int .i64 0, .int .i64 0] 53))
    generalize w.alloc (.cells #[.int .i64 0, .int .i64 0, .int .i64 0] 53) = X at *
    rw [← hN] at HM3 hM5 ⊢
    have hz : w.heap.size ≤ X.heap.size := HB2.out.size
    have hNw : w.heap.size ≤ N := by omega
    clear hN
    obtain ⟨lt3, m0, m1, m2, f0, f1, f2⟩ := HM3.out
    have hw := HRT.out _ _ _ _ _ HPX.out.pw
    rw [hva] at hw
    have hlt := HPX.out.pw.lt
    go_wp2_with fail
    have BB := HM3.out.set 0 0 0
    obtain ⟨_, e0, e1, e2, _, _, _⟩ := BB
    exact bodyPost_ret (v := .tuple #[.agg #[.int .i64 0, .int .i64 (0 : Nat), .int .i64 (0 : Nat)], .int .i64 (0 : Nat), .bool false]) (by simp [results, Try.results132, go_sem, e0, e1, e2]) rfl (rfin HPX.out HE.out hM5 hz hNw (Chg.of_below HB2.out _) HCOX.out HT.out _ _ _)
  | cons x l =>
    have hv := HRS.out
    rw [htd] at hv
    obtain ⟨b, off, m, c, v', hva, hn1, hn2, hnl, hbl, hcb, hcell, htl, hst⟩ := StS.addr1 hv
    obtain ⟨a2, c2, hv2, _⟩ := hst.1.shape
    rw [List.length_map] at hv2
    subst hv2
    have hfx : Fits false x := HK.out.rt n x (by rw [htd]; simp)
    have HX := Lib.hid hfx
    have HTD := Lib.hid htd
    have HSTT := Lib.hid hst
    have hd1 : ((m : Int) == 0) = false := by rw [beq_eq_false_iff_ne]; omega
    have hn0 : ¬ m = 0 := by omega
    have hnp : 0 < m := by omega
    have HC := Lib.hid (fun (W : World) (hW : ∀ o, W.cell? ⟨b, o, none⟩ = ws.cell? ⟨b, o, none⟩) (j : Nat) (u : Value) (hu : (addrCells x)[j]? = some u) => (hW (off + j)).trans (hcell j u hu))
    have hats : (s.R n).at_ = 0 ∨ (s.R n).at_ = 1 ∨ (s.R n).at_ = 2 ∨ (s.R n).at_ = 3 := by have := HK.out.at_ n; omega
    clear hv hcell hst htd hfx hnl
    rcases hats with hat | hat | hat | hat
    · have HAT := Lib.hid hat
      clear hat
      go_enter Try.func132, Try.ntmps132
      go_upto_region 1 with fail
      change Code.wp _ _ _ _ (w.alloc (.cells #[.int .i64 0, .int .i64 0, .int .i64 0] 53))
      generalize w.alloc (.cells #[.int .i64 0, .int .i64 0, .int .i64 0] 53) = X at *
      rw [← hN] at HM3 hM5 ⊢
      have hz : w.heap.size ≤ X.heap.size := HB2.out.size
      have hNB : N ≠ B := by omega
      have HNW := Lib.hid hN
      have hNw : w.heap.size ≤ N := by omega
      have HCHX := Lib.hid (Chg.of_below HB2.out (fun b _ => b = B))
      clear hN
      have hltN := HM3.out.lt
      have hw := HRT.out _ _ _ _ _ HPX.out.pw
      rw [hva] at hw
      have ha : X.cell? ⟨B, R + 1, none⟩ = some (.int .i64 (0 : Nat)) := by
        have := HRA.out _ _ _ _ _ HPX.out.pw
        rw [HAT.out] at this
        exact this
      have hlt := HPX.out.pw.lt
      obtain ⟨fz0, fz1, fz2⟩ := HF0.out _ _ _ _ _ HPX.out.pw
      have hrc := HRC.out _ _ _ _ _ HPX.out.pw
      have hus := HPX.out.pw.us
      go_upto_region 12 with fail
      have hpw1 := HSC.out _ _ _ _ _ HPX.out.pw s.us
      have HP1 := Lib.hid (HPX.out.put hpw1 rfl (StS.up0 HPX.out.rs rfl) HPX.out.wsx rfl)
      have HM1 := Lib.hid (B3.chg HM3.out (chg_blk X B (R + 2) (.int .i64 s.us)) hNB)
      have hM51 : recol X colX 5 N = 5 := by rw [recol_old HM3.out.lt]; exact hM5
      have hz1 : w.heap.size ≤ (X.setCell ⟨B, R + 2, none⟩ (.int .i64 s.us)).heap.size := by rw [World.size_setCell]; exact hz
      have HCH1 := Lib.hid (HCHX.out.trans (chg_blk X B (R + 2) (.int .i64 s.us)) (fun b y _ h => h))
      change Code.wp _ _ _ _ (X.setCell ⟨B, R + 2, none⟩ (.int .i64 s.us))
      have HCO1 : Hid (∀ b, b < w.heap.size → recol X colX 5 b = col b) := Lib.hid (fun b hb => (recol_old (Nat.lt_of_lt_of_le hb hz)).trans (HCOX.out b hb))
      generalize recol X colX 5 = col1 at *
      generalize X.setCell ⟨B, R + 2, none⟩ (.int .i64 s.us) = W1 at *
      clear hpw1
      clear hus ha hw hlt fz0 fz1 fz2 hrc
      have ha : W1.cell? ⟨B, R + 1, none⟩ = some (.int .i64 (0 : Nat)) := by
        have := HRA.out _ _ _ _ _ HP1.out.pw
        (try simp only [up_same] at this)
        rw [HAT.out] at this
        exact this
      have hlt := HP1.out.pw.lt
      have fz1 := (HF0.out _ _ _ _ _ HP1.out.pw).2.1
      go_upto_region 13 with fail
      have hpwz := HSA.out _ _ _ _ _ HP1.out.pw 1
      have HPz := Lib.hid (HP1.out.put hpwz rfl (StS.up0 HP1.out.rs rfl) HP1.out.wsx rfl)
      have HMz := Lib.hid (B3.chg HM1.out (chg_blk W1 B (R + 1) (.int .i64 (1 : Nat))) hNB)
      have hM5z : recol W1 col1 5 N = 5 := by rw [recol_old HM1.out.lt]; exact hM51
      have hzz : w.heap.size ≤ (W1.setCell ⟨B, R + 1, none⟩ (.int .i64 (1 : Nat))).heap.size := by rw [World.size_setCell]; exact hz1
      have HCHz := Lib.hid (HCH1.out.trans (chg_blk W1 B (R + 1) (.int .i64 (1 : Nat))) (fun b y _ h => h))
      change Code.wp _ _ _ _ (W1.setCell ⟨B, R + 1, none⟩ (.int .i64 (1 : Nat)))
      have HCOz : Hid (∀ b, b < w.heap.size → recol W1 col1 5 b = col b) := Lib.hid (fun b hb => (recol_old (Nat.lt_of_lt_of_le hb hz1)).trans (HCO1.out b hb))
      generalize recol W1 col1 5 = colz at *
      generalize W1.setCell ⟨B, R + 1, none⟩ (.int .i64 (1 : Nat)) = Y at *
      clear hpwz
      clear ha hlt fz1
      obtain ⟨lt3, m0, m1, m2, f0, f1, f2⟩ := HMz.out
      go_wp2_with fail
      have BB := HMz.out.set 0 0 0
      obtain ⟨_, e0, e1, e2, _, _, _⟩ := BB
      exact bodyPost_ret (v := .tuple #[.agg #[.int .i64 0, .int .i64 (0 : Nat), .int .i64 (0 : Nat)], .int .i64 (0 : Nat), .bool false]) (by simp [results, Try.results132, go_sem, e0, e1, e2]) rfl (rfin HPz.out (by
        unfold rmove rstep
        rw [HTD.out]
        simp [HAT.out, up_up, up_same, HTD.out]) hM5z hzz hNw HCHz.out HCOz.out (by unfold rtold; rw [HTD.out]; simp [HAT.out]) _ _ _)
    · have HAT := Lib.hid hat
      clear hat
      go_enter Try.func132, Try.ntmps132
      go_upto_region 1 with fail
      change Code.wp _ _ _ _ (w.alloc (.cells #[.int .i64 0, .int .i64 0, .int .i64 0] 53))
      generalize w.alloc (.cells #[.int .i64 0, .int .i64 0, .int .i64 0] 53) = X at *
      rw [← hN] at HM3 hM5 ⊢
      have hz : w.heap.size ≤ X.heap.size := HB2.out.size
      have hNB : N ≠ B := by omega
      have HNW := Lib.hid hN
      have hNw : w.heap.size ≤ N := by omega
      have HCHX := Lib.hid (Chg.of_below HB2.out (fun b _ => b = B))
      clear hN
      have hltN := HM3.out.lt
      have hw := HRT.out _ _ _ _ _ HPX.out.pw
      rw [hva] at hw
      have ha : X.cell? ⟨B, R + 1, none⟩ = some (.int .i64 (1 : Nat)) := by
        have := HRA.out _ _ _ _ _ HPX.out.pw
        rw [HAT.out] at this
        exact this
      have hlt := HPX.out.pw.lt
      obtain ⟨fz0, fz1, fz2⟩ := HF0.out _ _ _ _ _ HPX.out.pw
      have hrc := HRC.out _ _ _ _ _ HPX.out.pw
      have hcn : (s.R n).cnt < 2 := HK.out.cnt n
      have hci0 : (0 : Int) ≤ (s.R n).cnt := by omega
      have hci2 : ((s.R n).cnt : Int) < 2 := by omega
      have hct := HPX.out.pw.ct _ (HK.out.cnt n)
      have ew : IntKind.i64.wrap (s.C (s.R n).cnt + 1) = s.C (s.R n).cnt + 1 := IntWalk.i64_in _ (by have := HK.out.C (s.R n).cnt; omega)
      go_upto_region 9 with fail
      go_still_tail 13, (by kernel_rfl)
      change wpList _ _ _ _ _ X.drew
      have HPy := Lib.hid (HPX.out.below (w' := X.drew) (Below.drew (Below.refl _ _)))
      have HMy := Lib.hid (HM3.out.below (w' := X.drew) (Below.drew (Below.refl _ _)))
      have hM5y : recol X colX 5 N = 5 := by rw [recol_old hltN]; exact hM5
      have hzy : w.heap.size ≤ X.drew.heap.size := hz
      have HCHy := Lib.hid (HCHX.out.trans (Chg.of_below ((Below.refl _ _).drew : Below X.heap.size X X.drew) (fun b _ => b = B)) (fun b y _ h => h))
      have HSTY := Lib.hid (show StS ws (recol X colX 5) 3 (.slice a2 l.length c2) (l.map addrCells) from HSTT.out.recol HPX.out.zs)
      clear ha hw hlt fz0 fz1 fz2 hrc hct ew
      have HCOy : Hid (∀ b, b < w.heap.size → recol X colX 5 b = col b) := Lib.hid (fun b hb => (recol_old (Nat.lt_of_lt_of_le hb hz)).trans (HCOX.out b hb))
      generalize recol X colX 5 = coly at *
      generalize X.drew = Y0 at *
      have hct := HPy.out.pw.ct _ (HK.out.cnt n)
      have fzc := HPy.out.pw.fz (5 + (s.R n).cnt) (by have := HK.out.cnt n; omega)
      have hlt := HPy.out.pw.lt
      go_upto_region 12 with fail
      have hpw1 := HPy.out.pw.setC hcn (s.C (s.R n).cnt + 1)
      have HP1 := Lib.hid (HPy.out.put hpw1 rfl (HPy.out.rs) HPy.out.wsx rfl)
      have HM1 := Lib.hid (B3.chg HMy.out (chg_blk Y0 B (5 + (s.R n).cnt) (.int .i64 (s.C (s.R n).cnt + 1))) hNB)
      have hM51 : recol Y0 coly 5 N = 5 := by rw [recol_old HMy.out.lt]; exact hM5y
      have hz1 : w.heap.size ≤ (Y0.setCell ⟨B, 5 + (s.R n).cnt, none⟩ (.int .i64 (s.C (s.R n).cnt + 1))).heap.size := by rw [World.size_setCell]; exact hzy
      have HCH1 := Lib.hid (HCHy.out.trans (chg_blk Y0 B (5 + (s.R n).cnt) (.int .i64 (s.C (s.R n).cnt + 1))) (fun b y _ h => h))
      change Code.wp _ _ _ _ (Y0.setCell ⟨B, 5 + (s.R n).cnt, none⟩ (.int .i64 (s.C (s.R n).cnt + 1)))
      have HCO1 : Hid (∀ b, b < w.heap.size → recol Y0 coly 5 b = col b) := Lib.hid (fun b hb => (recol_old (Nat.lt_of_lt_of_le hb hzy)).trans (HCOy.out b hb))
      generalize recol Y0 coly 5 = col1 at *
      generalize Y0.setCell ⟨B, 5 + (s.R n).cnt, none⟩ (.int .i64 (s.C (s.R n).cnt + 1)) = W1 at *
      clear hpw1
      clear hct fzc hlt HSTY
      have ha : W1.cell? ⟨B, R + 1, none⟩ = some (.int .i64 (1 : Nat)) := by
        have := HRA.out _ _ _ _ _ HP1.out.pw
        (try simp only [up_same] at this)
        rw [HAT.out] at this
        exact this
      have hlt := HP1.out.pw.lt
      have fz1 := (HF0.out _ _ _ _ _ HP1.out.pw).2.1
      go_upto_region 13 with fail
      have hpwz := HSA.out _ _ _ _ _ HP1.out.pw 2
      have HPz := Lib.hid (HP1.out.put hpwz rfl (StS.up0 HP1.out.rs rfl) HP1.out.wsx rfl)
      have HMz := Lib.hid (B3.chg HM1.out (chg_blk W1 B (R + 1) (.int .i64 (2 : Nat))) hNB)
      have hM5z : recol W1 col1 5 N = 5 := by rw [recol_old HM1.out.lt]; exact hM51
      have hzz : w.heap.size ≤ (W1.setCell ⟨B, R + 1, none⟩ (.int .i64 (2 : Nat))).heap.size := by rw [World.size_setCell]; exact hz1
      have HCHz := Lib.hid (HCH1.out.trans (chg_blk W1 B (R + 1) (.int .i64 (2 : Nat))) (fun b y _ h => h))
      change Code.wp _ _ _ _ (W1.setCell ⟨B, R + 1, none⟩ (.int .i64 (2 : Nat)))
      have HCOz : Hid (∀ b, b < w.heap.size → recol W1 col1 5 b = col b) := Lib.hid (fun b hb => (recol_old (Nat.lt_of_lt_of_le hb hz1)).trans (HCO1.out b hb))
      generalize recol W1 col1 5 = colz at *
      generalize W1.setCell ⟨B, R + 1, none⟩ (.int .i64 (2 : Nat)) = Y at *
      clear hpwz
      clear ha hlt fz1
      obtain ⟨lt3, m0, m1, m2, f0, f1, f2⟩ := HMz.out
      go_wp2_with fail
      have BB := HMz.out.set 0 0 0
      obtain ⟨_, e0, e1, e2, _, _, _⟩ := BB
      exact bodyPost_ret (v := .tuple #[.agg #[.int .i64 0, .int .i64 (0 : Nat), .int .i64 (0 : Nat)], .int .i64 (0 : Nat), .bool false]) (by simp [results, Try.results132, go_sem, e0, e1, e2]) rfl (rfin HPz.out (by
        unfold rmove rstep
        rw [HTD.out]
        simp [HAT.out, up_up, up_same, HTD.out]) hM5z hzz hNw HCHz.out HCOz.out (by unfold rtold; rw [HTD.out]; simp [HAT.out]) _ _ _)
    · have HAT := Lib.hid hat
      clear hat
      go_enter Try.func132, Try.ntmps132
      go_upto_region 1 with fail
      change Code.wp _ _ _ _ (w.alloc (.cells #[.int .i64 0, .int .i64 0, .int .i64 0] 53))
      generalize w.alloc (.cells #[.int .i64 0, .int .i64 0, .int .i64 0] 53) = X at *
      rw [← hN] at HM3 hM5 ⊢
      have hz : w.heap.size ≤ X.heap.size := HB2.out.size
      have hNB : N ≠ B := by omega
      have HNW := Lib.hid hN
      have hNw : w.heap.size ≤ N := by omega
      have HCHX := Lib.hid (Chg.of_below HB2.out (fun b _ => b = B))
      clear hN
      have hltN := HM3.out.lt
      have hw := HRT.out _ _ _ _ _ HPX.out.pw
      rw [hva] at hw
      have ha : X.cell? ⟨B, R + 1, none⟩ = some (.int .i64 (2 : Nat)) := by
        have := HRA.out _ _ _ _ _ HPX.out.pw
        rw [HAT.out] at this
        exact this
      have hlt := HPX.out.pw.lt
      obtain ⟨fz0, fz1, fz2⟩ := HF0.out _ _ _ _ _ HPX.out.pw
      have hrc := HRC.out _ _ _ _ _ HPX.out.pw
      have hfr2 : s.fr < 2 := HK.out.fr
      have hfi0 : (0 : Int) ≤ s.fr := by omega
      have hfi2 : (s.fr : Int) < 2 := by omega
      have hfr := HPX.out.pw.fr
      have htb := HPX.out.pw.tb _ hfr2
      have hac := HPX.out.pw.ac _ hfr2
      have hbX : b < w.heap.size := Nat.lt_of_lt_of_le hbl hzs
      have k := HC.out X (fun o => HPX.out.old b o hbl hcb)
      have k0 := k 0 _ rfl
      have k1 := k 1 _ rfl
      have k2 := k 2 _ rfl
      rw [Nat.add_zero] at k0
      clear k
      have fN0 := HM3.out.f0
      have fN1 := HM3.out.f1
      have fN2 := HM3.out.f2
      go_upto_region 11 with fail
      refine wp_region_held_drew (S := (fun w' => Below w.heap.size X w')) (by kernel_rfl) ?_ (fun hHeld => ?_)
      · ((try dsimp only); (repeat' (first | (with_reducible exact Below.refl _ _) | (with_reducible assumption) | (with_reducible refine Below.alloc ?_ ?_ _) | (with_reducible refine Below.drew ?_) | (with_reducible refine Below.stepG ?_ (by assumption) ?_) | (with_reducible refine Below.setCell ?_ ?_ _) | omega | (dsimp only; omega) | (simp; done) | (simp; omega))))
      (refine wpAnyH_take (i := 0) (oi := _) (v := ?_) (by simp only [List.getElem?_toArray, List.getElem?_cons_zero, List.getElem?_cons_succ]; rfl) (by kernel_rfl) (by decide +kernel) (by decide +kernel) (by exact fun _ _ _ h => h) (Or.inl ⟨by rfl, ?_⟩) (by assumption) ?_; rotate_left; (· ((intro w hSw); (have hSc := Below.cellAt hSw); clear hSw; go_simp; (try with_reducible rfl))); (try simp only [Act.put, List.setIfInBounds_toArray, List.set_cons_zero, List.set_cons_succ]))
      (refine wpAnyH_take (i := 1) (oi := _) (v := ?_) (by simp only [List.getElem?_toArray, List.getElem?_cons_zero, List.getElem?_cons_succ]; rfl) (by kernel_rfl) (by decide +kernel) (by decide +kernel) (by exact fun _ _ _ h => h) (Or.inl ⟨by rfl, ?_⟩) (by assumption) ?_; rotate_left; (· ((intro w hSw); (have hSc := Below.cellAt hSw); clear hSw; go_simp; (try with_reducible rfl))); (try simp only [Act.put, List.setIfInBounds_toArray, List.set_cons_zero, List.set_cons_succ]))
      (refine wpAnyH_take (i := 2) (oi := _) (v := ?_) (by simp only [List.getElem?_toArray, List.getElem?_cons_zero, List.getElem?_cons_succ]; rfl) (by kernel_rfl) (by decide +kernel) (by decide +kernel) (by exact fun _ _ _ h => h) (Or.inl ⟨by rfl, ?_⟩) (by assumption) ?_; rotate_left; (· ((intro w hSw); (have hSc := Below.cellAt hSw); clear hSw; go_simp; (try with_reducible rfl))); (try simp only [Act.put, List.setIfInBounds_toArray, List.set_cons_zero, List.set_cons_succ]))
      (refine wpAnyH_take (i := 3) (oi := _) (v := ?_) (by simp only [List.getElem?_toArray, List.getElem?_cons_zero, List.getElem?_cons_succ]; rfl) (by kernel_rfl) (by decide +kernel) (by decide +kernel) (by exact fun _ _ _ h => h) (Or.inl ⟨by rfl, ?_⟩) (by assumption) ?_; rotate_left; (· ((intro w hSw); (have hSc := Below.cellAt hSw); clear hSw; go_simp; (try with_reducible rfl))); (try simp only [Act.put, List.setIfInBounds_toArray, List.set_cons_zero, List.set_cons_succ]))
      (refine wpAnyH_take (i := 4) (oi := _) (v := ?_) (by simp only [List.getElem?_toArray, List.getElem?_cons_zero, List.getElem?_cons_succ]; rfl) (by kernel_rfl) (by decide +kernel) (by decide +kernel) (by exact fun _ _ _ h => h) (Or.inl ⟨by rfl, ?_⟩) (by assumption) ?_; rotate_left; (· ((intro w hSw); (have hSc := Below.cellAt hSw); clear hSw; go_simp; (try with_reducible rfl))); (try simp only [Act.put, List.setIfInBounds_toArray, List.set_cons_zero, List.set_cons_succ]))
      (refine wpAnyH_take (i := 5) (oi := _) (v := ?_) (by simp only [List.getElem?_toArray, List.getElem?_cons_zero, List.getElem?_cons_succ]; rfl) (by kernel_rfl) (by decide +kernel) (by decide +kernel) (by exact fun _ _ _ h => h) (Or.inl ⟨by rfl, ?_⟩) (by assumption) ?_; rotate_left; (· ((intro w hSw); (have hSc := Below.cellAt hSw); clear hSw; go_simp; (try with_reducible rfl))); (try simp only [Act.put, List.setIfInBounds_toArray, List.set_cons_zero, List.set_cons_succ]))
      (refine wpAnyH_take (i := 6) (oi := _) (v := ?_) (by simp only [List.getElem?_toArray, List.getElem?_cons_zero, List.getElem?_cons_succ]; rfl) (by kernel_rfl) (by decide +kernel) (by decide +kernel) (by exact fun _ _ _ h => h) (Or.inl ⟨by rfl, ?_⟩) (by assumption) ?_; rotate_left; (· ((intro w hSw); (have hSc := Below.cellAt hSw); clear hSw; go_simp; (try with_reducible rfl))); (try simp only [Act.put, List.setIfInBounds_toArray, List.set_cons_zero, List.set_cons_succ]))
      (refine wpAnyH_take (i := 7) (oi := _) (v := ?_) (by simp only [List.getElem?_toArray, List.getElem?_cons_zero, List.getElem?_cons_succ]; rfl) (by kernel_rfl) (by decide +kernel) (by decide +kernel) (by exact fun _ _ _ h => h) (Or.inl ⟨by rfl, ?_⟩) (by assumption) ?_; rotate_left; (· ((intro w hSw); (have hSc := Below.cellAt hSw); clear hSw; go_simp; (try with_reducible rfl))); (try simp only [Act.put, List.setIfInBounds_toArray, List.set_cons_zero, List.set_cons_succ]))
      (refine wpAnyH_take (i := 8) (oi := _) (v := ?_) (by simp only [List.getElem?_toArray, List.getElem?_cons_zero, List.getElem?_cons_succ]; rfl) (by kernel_rfl) (by decide +kernel) (by decide +kernel) (by exact fun _ _ _ h => h) (Or.inl ⟨by rfl, ?_⟩) (by assumption) ?_; rotate_left; (· ((intro w hSw); (have hSc := Below.cellAt hSw); clear hSw; go_simp; (try with_reducible rfl))); (try simp only [Act.put, List.setIfInBounds_toArray, List.set_cons_zero, List.set_cons_succ]))
      (refine wpAnyH_take (i := 9) (oi := _) (v := ?_) (by simp only [List.getElem?_toArray, List.getElem?_cons_zero, List.getElem?_cons_succ]; rfl) (by kernel_rfl) (by decide +kernel) (by decide +kernel) (by exact fun _ _ _ h => h) (Or.inl ⟨by rfl, ?_⟩) (by assumption) ?_; rotate_left; (· ((intro w hSw); (have hSc := Below.cellAt hSw); clear hSw; go_simp; (try with_reducible rfl))); (try simp only [Act.put, List.setIfInBounds_toArray, List.set_cons_zero, List.set_cons_succ]))
      (refine wpAnyH_take (i := 10) (oi := _) (v := ?_) (by simp only [List.getElem?_toArray, List.getElem?_cons_zero, List.getElem?_cons_succ]; rfl) (by kernel_rfl) (by decide +kernel) (by decide +kernel) (by exact fun _ _ _ h => h) (Or.inl ⟨by rfl, ?_⟩) (by assumption) ?_; rotate_left; (· ((intro w hSw); (have hSc := Below.cellAt hSw); clear hSw; go_simp; (try with_reducible rfl))); (try simp only [Act.put, List.setIfInBounds_toArray, List.set_cons_zero, List.set_cons_succ]))
      (refine wpAnyH_take (i := 11) (oi := _) (v := ?_) (by simp only [List.getElem?_toArray, List.getElem?_cons_zero, List.getElem?_cons_succ]; rfl) (by kernel_rfl) (by decide +kernel) (by decide +kernel) (by exact fun _ _ _ h => h) (Or.inl ⟨by rfl, ?_⟩) (by assumption) ?_; rotate_left; (· ((intro w hSw); (have hSc := Below.cellAt hSw); clear hSw; go_simp; (try with_reducible rfl))); (try simp only [Act.put, List.setIfInBounds_toArray, List.set_cons_zero, List.set_cons_succ]))
      (refine wpAnyH_take (i := 12) (oi := _) (v := ?_) (by simp only [List.getElem?_toArray, List.getElem?_cons_zero, List.getElem?_cons_succ]; rfl) (by kernel_rfl) (by decide +kernel) (by decide +kernel) (by exact fun _ _ _ h => h) (Or.inl ⟨by rfl, ?_⟩) (by assumption) ?_; rotate_left; (· ((intro w hSw); (have hSc := Below.cellAt hSw); clear hSw; go_simp; (try with_reducible rfl))); (try simp only [Act.put, List.setIfInBounds_toArray, List.set_cons_zero, List.set_cons_succ]))
      (refine wpAnyH_take (i := 13) (oi := _) (v := ?_) (by simp only [List.getElem?_toArray, List.getElem?_cons_zero, List.getElem?_cons_succ]; rfl) (by kernel_rfl) (by decide +kernel) (by decide +kernel) (by exact fun _ _ _ h => h) (Or.inl ⟨by rfl, ?_⟩) (by assumption) ?_; rotate_left; (· ((intro w hSw); (have hSc := Below.cellAt hSw); clear hSw; go_simp; (try with_reducible rfl))); (try simp only [Act.put, List.setIfInBounds_toArray, List.set_cons_zero, List.set_cons_succ]))
      (refine wpAnyH_take (i := 14) (oi := _) (v := ?_) (by simp only [List.getElem?_toArray, List.getElem?_cons_zero, List.getElem?_cons_succ]; rfl) (by kernel_rfl) (by decide +kernel) (by decide +kernel) (by exact fun _ _ _ h => h) (Or.inl ⟨by rfl, ?_⟩) (by assumption) ?_; rotate_left; (· ((intro w hSw); (have hSc := Below.cellAt hSw); clear hSw; go_simp; (try with_reducible rfl))); (try simp only [Act.put, List.setIfInBounds_toArray, List.set_cons_zero, List.set_cons_succ]))
      (refine wpAnyH_take (i := 16) (oi := _) (v := ?_) (by simp only [List.getElem?_toArray, List.getElem?_cons_zero, List.getElem?_cons_succ]; rfl) (by kernel_rfl) (by decide +kernel) (by decide +kernel) (by exact fun _ _ _ h => h) (Or.inl ⟨by rfl, ?_⟩) (by assumption) ?_; rotate_left; (· ((intro w hSw); (have hSc := Below.cellAt hSw); clear hSw; go_simp; (try with_reducible rfl))); (try simp only [Act.put, List.setIfInBounds_toArray, List.set_cons_zero, List.set_cons_succ]))
      (refine wpAnyH_take (i := 17) (oi := _) (v := ?_) (by simp only [List.getElem?_toArray, List.getElem?_cons_zero, List.getElem?_cons_succ]; rfl) (by kernel_rfl) (by decide +kernel) (by decide +kernel) (by exact fun _ _ _ h => h) (Or.inl ⟨by rfl, ?_⟩) (by assumption) ?_; rotate_left; (· ((intro w hSw); (have hSc := Below.cellAt hSw); clear hSw; go_simp; (try with_reducible rfl))); (try simp only [Act.put, List.setIfInBounds_toArray, List.set_cons_zero, List.set_cons_succ]))
      (refine wpAnyH_take (i := 18) (oi := _) (v := ?_) (by simp only [List.getElem?_toArray, List.getElem?_cons_zero, List.getElem?_cons_succ]; rfl) (by kernel_rfl) (by decide +kernel) (by decide +kernel) (by exact fun _ _ _ h => h) (Or.inl ⟨by rfl, ?_⟩) (by assumption) ?_; rotate_left; (· ((intro w hSw); (have hSc := Below.cellAt hSw); clear hSw; go_simp; (try with_reducible rfl))); (try simp only [Act.put, List.setIfInBounds_toArray, List.set_cons_zero, List.set_cons_succ]))
      (refine wpAnyH_take (i := 19) (oi := _) (v := ?_) (by simp only [List.getElem?_toArray, List.getElem?_cons_zero, List.getElem?_cons_succ]; rfl) (by kernel_rfl) (by decide +kernel) (by decide +kernel) (by exact fun _ _ _ h => h) (Or.inl ⟨by rfl, ?_⟩) (by assumption) ?_; rotate_left; (· ((intro w hSw); (have hSc := Below.cellAt hSw); clear hSw; go_simp; (try with_reducible rfl))); (try simp only [Act.put, List.setIfInBounds_toArray, List.set_cons_zero, List.set_cons_succ]))
      (refine wpAnyH_take (i := 20) (oi := _) (v := ?_) (by simp only [List.getElem?_toArray, List.getElem?_cons_zero, List.getElem?_cons_succ]; rfl) (by kernel_rfl) (by decide +kernel) (by decide +kernel) (by exact fun _ _ _ h => h) (Or.inl ⟨by rfl, ?_⟩) (by assumption) ?_; rotate_left; (· ((intro w hSw); (have hSc := Below.cellAt hSw); clear hSw; go_simp; (try with_reducible rfl))); (try simp only [Act.put, List.setIfInBounds_toArray, List.set_cons_zero, List.set_cons_succ]))
      (refine wpAnyH_take (i := 21) (oi := _) (v := ?_) (by simp only [List.getElem?_toArray, List.getElem?_cons_zero, List.getElem?_cons_succ]; rfl) (by kernel_rfl) (by decide +kernel) (by decide +kernel) (by exact fun _ _ _ h => h) (Or.inl ⟨by rfl, ?_⟩) (by assumption) ?_; rotate_left; (· ((intro w hSw); (have hSc := Below.cellAt hSw); clear hSw; go_simp; (try with_reducible rfl))); (try simp only [Act.put, List.setIfInBounds_toArray, List.set_cons_zero, List.set_cons_succ]))
      (refine wpAnyH_take (i := 22) (oi := _) (v := ?_) (by simp only [List.getElem?_toArray, List.getElem?_cons_zero, List.getElem?_cons_succ]; rfl) (by kernel_rfl) (by decide +kernel) (by decide +kernel) (by exact fun _ _ _ h => h) (Or.inl ⟨by rfl, ?_⟩) (by assumption) ?_; rotate_left; (· ((intro w hSw); (have hSc := Below.cellAt hSw); clear hSw; go_simp; (try with_reducible rfl))); (try simp only [Act.put, List.setIfInBounds_toArray, List.set_cons_zero, List.set_cons_succ]))
      (refine wpAnyH_take (i := 23) (oi := _) (v := ?_) (by simp only [List.getElem?_toArray, List.getElem?_cons_zero, List.getElem?_cons_succ]; rfl) (by kernel_rfl) (by decide +kernel) (by decide +kernel) (by exact fun _ _ _ h => h) (Or.inl ⟨by rfl, ?_⟩) (by assumption) ?_; rotate_left; (· ((intro w hSw); (have hSc := Below.cellAt hSw); clear hSw; go_simp; (try with_reducible rfl))); (try simp only [Act.put, List.setIfInBounds_toArray, List.set_cons_zero, List.set_cons_succ]))
      (refine wpAnyH_take (i := 24) (oi := _) (v := ?_) (by simp only [List.getElem?_toArray, List.getElem?_cons_zero, List.getElem?_cons_succ]; rfl) (by kernel_rfl) (by decide +kernel) (by decide +kernel) (by exact fun _ _ _ h => h) (Or.inl ⟨by rfl, ?_⟩) (by assumption) ?_; rotate_left; (· ((intro w hSw); (have hSc := Below.cellAt hSw); clear hSw; go_simp; (try with_reducible rfl))); (try simp only [Act.put, List.setIfInBounds_toArray, List.set_cons_zero, List.set_cons_succ]))
      repeat' (first
        | (refine wpAnyH_take (i := 26) (oi := _) (v := ?_) (by simp only [List.getElem?_toArray, List.getElem?_cons_zero, List.getElem?_cons_succ]; rfl) (by kernel_rfl) (by decide +kernel) (by decide +kernel) (by exact fun _ _ _ h => h) (Or.inl ⟨by rfl, ?_⟩) (by assumption) ?_; rotate_left; (· ((intro w hSw); (have hSc := Below.cellAt hSw); clear hSw; go_simp; (try with_reducible rfl))); (try simp only [Act.put, List.setIfInBounds_toArray, List.set_cons_zero, List.set_cons_succ]))
        | (refine wpAnyH_take (i := 27) (oi := _) (v := ?_) (by simp only [List.getElem?_toArray, List.getElem?_cons_zero, List.getElem?_cons_succ]; rfl) (by kernel_rfl) (by decide +kernel) (by decide +kernel) (by exact fun _ _ _ h => h) (Or.inl ⟨by rfl, ?_⟩) (by assumption) ?_; rotate_left; (· ((intro w hSw); (have hSc := Below.cellAt hSw); clear hSw; go_simp; (try with_reducible rfl))); (try simp only [Act.put, List.setIfInBounds_toArray, List.set_cons_zero, List.set_cons_succ]))
        | (refine wpAnyH_ready (rs := [15]) (by decide +kernel) (by simp) (AllReadyH.cons (by simp only [List.getElem?_toArray, List.getElem?_cons_zero, List.getElem?_cons_succ]; rfl) (fun K hK => ?_) AllReadyH.nil); all_goals ((first | fail | (go_simp; (first | ((refine (tab_look _ x _ _ _ ((HPX.out.tab s.fr hfr2).below (by (repeat' (first | (with_reducible exact Below.refl _ _) | (with_reducible assumption) | (with_reducible refine Below.alloc ?_ ?_ _) | (with_reducible refine Below.drew ?_) | (with_reducible refine Below.stepG ?_ (by assumption) ?_) | (with_reducible refine Below.setCell ?_ ?_ _) | omega | (dsimp only; omega) | (simp; done) | (simp; omega))))) HX.out).mono ?_); rintro e wL ⟨rfl, hbL⟩; have hnL := B3.below (B3.below HM3.out (Below.drew (Below.refl _ _))) hbL; (have HNL := Lib.hid hnL); (have HBL := Lib.hid hbL); obtain ⟨ltL, n0, n1, n2, g0, g1, g2⟩ := hnL; skip) | skip))); (refine hK.out _ _ ?_ (fun hHeld => ?_)); (· ((try dsimp only); (repeat' (first | (with_reducible exact Below.refl _ _) | (with_reducible assumption) | (with_reducible refine Below.alloc ?_ ?_ _) | (with_reducible refine Below.drew ?_) | (with_reducible refine Below.stepG ?_ (by assumption) ?_) | (with_reducible refine Below.setCell ?_ ?_ _) | omega | (dsimp only; omega) | (simp; done) | (simp; omega))))); (clear hK K; (try simp only [Act.put, List.setIfInBounds_toArray, List.set_cons_zero, List.set_cons_succ]))))
        | (refine wpAnyH_ready (rs := [25]) (by decide +kernel) (by simp) (AllReadyH.cons (by simp only [List.getElem?_toArray, List.getElem?_cons_zero, List.getElem?_cons_succ]; rfl) (fun K hK => ?_) AllReadyH.nil); all_goals ((first | fail | (go_simp; (first | ((refine (tab_look _ x _ _ _ ((HPX.out.tab s.fr hfr2).below (by (repeat' (first | (with_reducible exact Below.refl _ _) | (with_reducible assumption) | (with_reducible refine Below.alloc ?_ ?_ _) | (with_reducible refine Below.drew ?_) | (with_reducible refine Below.stepG ?_ (by assumption) ?_) | (with_reducible refine Below.setCell ?_ ?_ _) | omega | (dsimp only; omega) | (simp; done) | (simp; omega))))) HX.out).mono ?_); rintro e wL ⟨rfl, hbL⟩; have hnL := B3.below (B3.below HM3.out (Below.drew (Below.refl _ _))) hbL; (have HNL := Lib.hid hnL); (have HBL := Lib.hid hbL); obtain ⟨ltL, n0, n1, n2, g0, g1, g2⟩ := hnL; skip) | skip))); (refine hK.out _ _ ?_ (fun hHeld => ?_)); (· ((try dsimp only); (repeat' (first | (with_reducible exact Below.refl _ _) | (with_reducible assumption) | (with_reducible refine Below.alloc ?_ ?_ _) | (with_reducible refine Below.drew ?_) | (with_reducible refine Below.stepG ?_ (by assumption) ?_) | (with_reducible refine Below.setCell ?_ ?_ _) | omega | (dsimp only; omega) | (simp; done) | (simp; omega))))); (clear hK K; (try simp only [Act.put, List.setIfInBounds_toArray, List.set_cons_zero, List.set_cons_succ]))))
        | (refine wpAnyH_done (by decide +kernel) ?_ _)
        | fail)
      go_upto_region 12 with fail
      have hbT : Below X.heap.size X wL := ((Below.refl X.heap.size X).drew).trans (HBL.out.mono (Nat.le_refl _))
      have hch : Chg X (((wL.setCell ⟨N, 0, none⟩ (.int .i64 0)).setCell ⟨N, 1, none⟩ (.int .i64 ((goesL (s.T s.fr) x).1 : Nat))).setCell ⟨N, 2, none⟩ (.int .i64 ((goesL (s.T s.fr) x).2 : Nat))) (fun b _ => b = N) := (Chg.of_below hbT _).trans (b3_chg wL N _ _ _) (fun b y _ h => h)
      have HP1 := Lib.hid (HPX.out.junk hM5 hch)
      have HM1 := Lib.hid (HNL.out.set 0 ((goesL (s.T s.fr) x).1 : Nat) ((goesL (s.T s.fr) x).2 : Nat))
      have hM51 : recol X colX 5 N = 5 := by rw [recol_old hltN]; exact hM5
      have HCH1 := Lib.hid (HCHX.out.trans hch (fun b y hb h => by omega))
      have hz1 : w.heap.size ≤ (((wL.setCell ⟨N, 0, none⟩ (.int .i64 0)).setCell ⟨N, 1, none⟩ (.int .i64 ((goesL (s.T s.fr) x).1 : Nat))).setCell ⟨N, 2, none⟩ (.int .i64 ((goesL (s.T s.fr) x).2 : Nat))).heap.size := Nat.le_trans hz hch.size
      change Code.wp _ _ _ _ (((wL.setCell ⟨N, 0, none⟩ (.int .i64 0)).setCell ⟨N, 1, none⟩ (.int .i64 ((goesL (s.T s.fr) x).1 : Nat))).setCell ⟨N, 2, none⟩ (.int .i64 ((goesL (s.T s.fr) x).2 : Nat)))
      clear hch hbT HNL HBL ltL n0 n1 n2 g0 g1 g2 hbL k0 k1 k2 hac htb hfr fN0 fN1 fN2 ha hw hlt fz0 fz1 fz2 hrc hHeld
      have HCO1 : Hid (∀ b, b < w.heap.size → recol X colX 5 b = col b) := Lib.hid (fun b hb => (recol_old (Nat.lt_of_lt_of_le hb hz)).trans (HCOX.out b hb))
      generalize recol X colX 5 = col1 at *
      generalize ((wL.setCell ⟨N, 0, none⟩ (.int .i64 0)).setCell ⟨N, 1, none⟩ (.int .i64 ((goesL (s.T s.fr) x).1 : Nat))).setCell ⟨N, 2, none⟩ (.int .i64 ((goesL (s.T s.fr) x).2 : Nat)) = W1 at *
      have ha : W1.cell? ⟨B, R + 1, none⟩ = some (.int .i64 (2 : Nat)) := by
        have := HRA.out _ _ _ _ _ HP1.out.pw
        (try simp only [up_same] at this)
        rw [HAT.out] at this
        exact this
      have hlt := HP1.out.pw.lt
      have fz1 := (HF0.out _ _ _ _ _ HP1.out.pw).2.1
      go_upto_region 13 with fail
      have hpwz := HSA.out _ _ _ _ _ HP1.out.pw 3
      have HPz := Lib.hid (HP1.out.put hpwz rfl (StS.up0 HP1.out.rs rfl) HP1.out.wsx rfl)
      have HMz := Lib.hid (B3.chg HM1.out (chg_blk W1 B (R + 1) (.int .i64 (3 : Nat))) hNB)
      have hM5z : recol W1 col1 5 N = 5 := by rw [recol_old HM1.out.lt]; exact hM51
      have hzz : w.heap.size ≤ (W1.setCell ⟨B, R + 1, none⟩ (.int .i64 (3 : Nat))).heap.size := by rw [World.size_setCell]; exact hz1
      have HCHz := Lib.hid (HCH1.out.trans (chg_blk W1 B (R + 1) (.int .i64 (3 : Nat))) (fun b y _ h => h))
      change Code.wp _ _ _ _ (W1.setCell ⟨B, R + 1, none⟩ (.int .i64 (3 : Nat)))
      have HCOz : Hid (∀ b, b < w.heap.size → recol W1 col1 5 b = col b) := Lib.hid (fun b hb => (recol_old (Nat.lt_of_lt_of_le hb hz1)).trans (HCO1.out b hb))
      generalize recol W1 col1 5 = colz at *
      generalize W1.setCell ⟨B, R + 1, none⟩ (.int .i64 (3 : Nat)) = Y at *
      clear hpwz
      clear ha hlt fz1
      obtain ⟨lt3, m0, m1, m2, f0, f1, f2⟩ := HMz.out
      go_wp2_with fail
      have BB := HMz.out.set 0 ((goesL (s.T s.fr) x).1 : Nat) ((goesL (s.T s.fr) x).2 : Nat)
      obtain ⟨_, e0, e1, e2, _, _, _⟩ := BB
      exact bodyPost_ret (v := .tuple #[.agg #[.int .i64 0, .int .i64 ((goesL (s.T s.fr) x).1 : Nat), .int .i64 ((goesL (s.T s.fr) x).2 : Nat)], .int .i64 ((s.A s.fr) : Nat), .bool true]) (by simp [results, Try.results132, go_sem, e0, e1, e2]) rfl (rfin HPz.out (by
        unfold rmove rstep
        rw [HTD.out]
        simp [HAT.out, up_up, up_same, HTD.out]) hM5z hzz hNw HCHz.out HCOz.out (by unfold rtold; rw [HTD.out]; simp [HAT.out]) _ _ _)

    · have HAT := Lib.hid hat
      clear hat
      go_enter Try.func132, Try.ntmps132
      go_upto_region 1 with fail
      change Code.wp _ _ _ _ (w.alloc (.cells #[.int .i64 0, .int .i64 0, .int .i64 0] 53))
      generalize w.alloc (.cells #[.int .i64 0, .int .i64 0, .int .i64 0] 53) = X at *
      rw [← hN] at HM3 hM5 ⊢
      have hz : w.heap.size ≤ X.heap.size := HB2.out.size
      have hNB : N ≠ B := by omega
      have HNW := Lib.hid hN
      have hNw : w.heap.size ≤ N := by omega
      have HCHX := Lib.hid (Chg.of_below HB2.out (fun b _ => b = B))
      clear hN
      have hltN := HM3.out.lt
      have hw := HRT.out _ _ _ _ _ HPX.out.pw
      rw [hva] at hw
      have ha : X.cell? ⟨B, R + 1, none⟩ = some (.int .i64 (3 : Nat)) := by
        have := HRA.out _ _ _ _ _ HPX.out.pw
        rw [HAT.out] at this
        exact this
      have hlt := HPX.out.pw.lt
      obtain ⟨fz0, fz1, fz2⟩ := HF0.out _ _ _ _ _ HPX.out.pw
      have hrc := HRC.out _ _ _ _ _ HPX.out.pw
      have hcn : (s.R n).cnt < 2 := HK.out.cnt n
      have hci0 : (0 : Int) ≤ (s.R n).cnt := by omega
      have hci2 : ((s.R n).cnt : Int) < 2 := by omega
      have hct := HPX.out.pw.ct _ (HK.out.cnt n)
      have ew : IntKind.i64.wrap (s.C (s.R n).cnt - 1) = s.C (s.R n).cnt - 1 := IntWalk.i64_in _ (by have := HK.out.C (s.R n).cnt; omega)
      go_upto_region 4 with fail
      go_still_tail 13, (by kernel_rfl)
      change wpList _ _ _ _ _ X.drew
      have HPy := Lib.hid (HPX.out.below (w' := X.drew) (Below.drew (Below.refl _ _)))
      have HMy := Lib.hid (HM3.out.below (w' := X.drew) (Below.drew (Below.refl _ _)))
      have hM5y : recol X colX 5 N = 5 := by rw [recol_old hltN]; exact hM5
      have hzy : w.heap.size ≤ X.drew.heap.size := hz
      have HCHy := Lib.hid (HCHX.out.trans (Chg.of_below ((Below.refl _ _).drew : Below X.heap.size X X.drew) (fun b _ => b = B)) (fun b y _ h => h))
      have HSTY := Lib.hid (show StS ws (recol X colX 5) 3 (.slice a2 l.length c2) (l.map addrCells) from HSTT.out.recol HPX.out.zs)
      clear ha hw hlt fz0 fz1 fz2 hrc hct ew
      have HCOy : Hid (∀ b, b < w.heap.size → recol X colX 5 b = col b) := Lib.hid (fun b hb => (recol_old (Nat.lt_of_lt_of_le hb hz)).trans (HCOX.out b hb))
      generalize recol X colX 5 = coly at *
      generalize X.drew = Y0 at *
      have hct := HPy.out.pw.ct _ (HK.out.cnt n)
      have fzc := HPy.out.pw.fz (5 + (s.R n).cnt) (by have := HK.out.cnt n; omega)
      have hlt := HPy.out.pw.lt
      go_upto_region 5 with fail
      have hpw1 := HPy.out.pw.setC hcn (s.C (s.R n).cnt - 1)
      have HP1 := Lib.hid (HPy.out.put hpw1 rfl (HPy.out.rs) HPy.out.wsx rfl)
      have HM1 := Lib.hid (B3.chg HMy.out (chg_blk Y0 B (5 + (s.R n).cnt) (.int .i64 (s.C (s.R n).cnt - 1))) hNB)
      have hM51 : recol Y0 coly 5 N = 5 := by rw [recol_old HMy.out.lt]; exact hM5y
      have hz1 : w.heap.size ≤ (Y0.setCell ⟨B, 5 + (s.R n).cnt, none⟩ (.int .i64 (s.C (s.R n).cnt - 1))).heap.size := by rw [World.size_setCell]; exact hzy
      have HCH1 := Lib.hid (HCHy.out.trans (chg_blk Y0 B (5 + (s.R n).cnt) (.int .i64 (s.C (s.R n).cnt - 1))) (fun b y _ h => h))
      replace HSTY := Lib.hid (HSTY.out.recol (c := 5) HPy.out.zs)
      change Code.wp _ _ _ _ (Y0.setCell ⟨B, 5 + (s.R n).cnt, none⟩ (.int .i64 (s.C (s.R n).cnt - 1)))
      have HCO1 : Hid (∀ b, b < w.heap.size → recol Y0 coly 5 b = col b) := Lib.hid (fun b hb => (recol_old (Nat.lt_of_lt_of_le hb hzy)).trans (HCOy.out b hb))
      generalize recol Y0 coly 5 = col1 at *
      generalize Y0.setCell ⟨B, 5 + (s.R n).cnt, none⟩ (.int .i64 (s.C (s.R n).cnt - 1)) = W1 at *
      clear hpw1
      clear hct fzc hlt
      have hw := HRT.out _ _ _ _ _ HP1.out.pw
      rw [hva] at hw
      have hlt := HP1.out.pw.lt
      have fz0 := (HF0.out _ _ _ _ _ HP1.out.pw).1
      go_upto_region 12 with fail
      have hpw2 := HST.out _ _ _ _ _ HP1.out.pw l (.slice a2 l.length c2)
      have HP2 := Lib.hid (HP1.out.put hpw2 rfl (StS.up HP1.out.rs HSTY.out) HP1.out.wsx rfl)
      have HM2 := Lib.hid (B3.chg HM1.out (chg_blk W1 B (R) (.slice a2 l.length c2)) hNB)
      have hM52 : recol W1 col1 5 N = 5 := by rw [recol_old HM1.out.lt]; exact hM51
      have hz2 : w.heap.size ≤ (W1.setCell ⟨B, R, none⟩ (.slice a2 l.length c2)).heap.size := by rw [World.size_setCell]; exact hz1
      have HCH2 := Lib.hid (HCH1.out.trans (chg_blk W1 B (R) (.slice a2 l.length c2)) (fun b y _ h => h))
      change Code.wp _ _ _ _ (W1.setCell ⟨B, R, none⟩ (.slice a2 l.length c2))
      have HCO2 : Hid (∀ b, b < w.heap.size → recol W1 col1 5 b = col b) := Lib.hid (fun b hb => (recol_old (Nat.lt_of_lt_of_le hb hz1)).trans (HCO1.out b hb))
      generalize recol W1 col1 5 = col2 at *
      generalize W1.setCell ⟨B, R, none⟩ (.slice a2 l.length c2) = W2 at *
      clear hpw2
      clear hw hlt fz0
      have ha : W2.cell? ⟨B, R + 1, none⟩ = some (.int .i64 (3 : Nat)) := by
        have := HRA.out _ _ _ _ _ HP2.out.pw
        (try simp only [up_same] at this)
        rw [HAT.out] at this
        exact this
      have hlt := HP2.out.pw.lt
      have fz1 := (HF0.out _ _ _ _ _ HP2.out.pw).2.1
      go_upto_region 13 with fail
      have hpwz := HSA.out _ _ _ _ _ HP2.out.pw 0
      have HPz := Lib.hid (HP2.out.put hpwz rfl (StS.up0 HP2.out.rs rfl) HP2.out.wsx rfl)
      have HMz := Lib.hid (B3.chg HM2.out (chg_blk W2 B (R + 1) (.int .i64 (0 : Nat))) hNB)
      have hM5z : recol W2 col2 5 N = 5 := by rw [recol_old HM2.out.lt]; exact hM52
      have hzz : w.heap.size ≤ (W2.setCell ⟨B, R + 1, none⟩ (.int .i64 (0 : Nat))).heap.size := by rw [World.size_setCell]; exact hz2
      have HCHz := Lib.hid (HCH2.out.trans (chg_blk W2 B (R + 1) (.int .i64 (0 : Nat))) (fun b y _ h => h))
      change Code.wp _ _ _ _ (W2.setCell ⟨B, R + 1, none⟩ (.int .i64 (0 : Nat)))
      have HCOz : Hid (∀ b, b < w.heap.size → recol W2 col2 5 b = col b) := Lib.hid (fun b hb => (recol_old (Nat.lt_of_lt_of_le hb hz2)).trans (HCO2.out b hb))
      generalize recol W2 col2 5 = colz at *
      generalize W2.setCell ⟨B, R + 1, none⟩ (.int .i64 (0 : Nat)) = Y at *
      clear hpwz
      clear ha hlt fz1
      obtain ⟨lt3, m0, m1, m2, f0, f1, f2⟩ := HMz.out
      go_wp2_with fail
      have BB := HMz.out.set 0 0 0
      obtain ⟨_, e0, e1, e2, _, _, _⟩ := BB
      exact bodyPost_ret (v := .tuple #[.agg #[.int .i64 0, .int .i64 (0 : Nat), .int .i64 (0 : Nat)], .int .i64 (0 : Nat), .bool false]) (by simp [results, Try.results132, go_sem, e0, e1, e2]) rfl (rfin HPz.out (by
        unfold rmove rstep
        rw [HTD.out]
        simp [HAT.out, up_up, up_same, HTD.out]) hM5z hzz hNw HCHz.out HCOz.out (by unfold rtold; rw [HTD.out]; simp [HAT.out]) _ _ _)
end Go.Proofs.Ytllemhknmleklaa
