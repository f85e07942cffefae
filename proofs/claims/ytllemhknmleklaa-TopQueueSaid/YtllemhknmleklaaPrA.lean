
/- A pair of tables: an act is done; the writer's steps. -/
import Derived.Test.YtllemhknmleklaaPrM
import Derived.Test.YtllemhknmleklaaQ6
import Derived.StillTailTactics
set_option linter.unusedVariables false
set_option linter.unusedSimpArgs false
namespace Go.Proofs.Ytllemhknmleklaa
open Go Go.RowKit Go.Sort Wc Wk

def pdoSays (w : World) (B : Nat) (s : PSt) (ptr : Nat → Nat) (rv : Nat → Value) (wv sv : Value) (F : Nat → Prop) (x : ActD) (e : Ending) (w' : World) : Prop :=
  e = .returned (.tuple #[]) ∧ PW w' B (s.act x) ptr rv wv sv ∧ Tab w' (ptr (1 - s.fr)) ((s.act x).T (1 - s.fr)) (fun b => F b ∨ w.heap.size ≤ b) ∧ Chg w w' (fun b _ => b = B ∨ F b)
theorem PW.act {w : World} {B : Nat} {s : PSt} {ptr : Nat → Nat} {rv : Nat → Value} {wv sv : Value} (h : PW w B s ptr rv wv sv) (hfr : s.fr < 2) (x : ActD) :
    PW (w.setCell ⟨B, 2 + (1 - s.fr), none⟩ (.int .i64 (s.A (1 - s.fr) + 1))) B (s.act x) ptr rv wv sv := by
  refine h.store (by omega) _ (fun i hi => by omega) (fun i hi => ?_) (if_neg (by omega)) (fun i hi => if_neg (by omega)) (if_neg (by omega)) (fun n hn => if_neg (by omega)) (fun n hn => if_neg (by omega)) (fun n hn => if_neg (by omega)) (if_neg (by omega)) (if_neg (by omega)) (if_neg (by omega)) (if_neg (by omega))
  show _ = some (Value.int .i64 (up s.A (1 - s.fr) (s.A (1 - s.fr) + 1) i : Nat))
  unfold up
  by_cases e : i = 1 - s.fr
  · rw [if_pos (by omega), if_pos e]; simp
  · rw [if_neg (by omega), if_neg e]

set_option maxRecDepth 100000 in
set_option maxHeartbeats 2000000 in
theorem pdo_any (B : Nat) (s : PSt) (ptr : Nat → Nat) (rv : Nat → Value) (wv sv : Value) (F : Nat → Prop) (x : ActD) (w : World) (h : PW w B s ptr rv wv sv) (hfr : s.fr < 2) (t : Tab w (ptr (1 - s.fr)) (s.T (1 - s.fr)) F) (hB : ∀ b, F b → b ≠ B) (hx : x.fit) (hl : (s.T (1 - s.fr)).length ≤ 60) (hA : s.A (1 - s.fr) ≤ 1000) :
    Calls Try.prog 157 #[.pointer (some ⟨B, 0, none⟩), Value.agg #[.int .i64 x.kind, .bool false, .int .u64 (hiOf false x.n), .int .u64 (loOf x.n), .int .i64 x.k, .int .i64 x.hop, .bool false, .int .u64 (hiOf false x.a), .int .u64 (loOf x.a)]] w (pdoSays w B s ptr rv wv sv F x) := by
  have HP := Lib.hid h
  have HT := Lib.hid t
  have HB := Lib.hid hB
  have HX := Lib.hid hx
  have HL := Lib.hid hl
  have HFR := Lib.hid hfr
  have hcf := h.fr
  have hlt := h.lt
  obtain ⟨k, hk⟩ : ∃ k, k = 1 - s.fr := ⟨_, rfl⟩
  have HPA := Lib.hid (fun (W : World) (hp : PW W B s ptr rv wv sv) => hp.act hfr x)
  rw [← hk] at hA HT HL HPA
  have HQ : Hid (∀ w', PW w' B (s.act x) ptr rv wv sv → Tab w' (ptr k) ((s.act x).T k) (fun b => F b ∨ w.heap.size ≤ b) → Chg w w' (fun b _ => b = B ∨ F b) → pdoSays w B s ptr rv wv sv F x (.returned (.tuple #[])) w') := Lib.hid (fun w' h1 h2 h3 => ⟨rfl, h1, by rw [← hk]; exact h2, h3⟩)
  have HTK := Lib.hid (show (s.act x).T k = (tstep (s.T k) x).1 by show up s.T (1 - s.fr) (tstep (s.T (1 - s.fr)) x).1 k = _; rw [← hk, up_same])
  have hks : (s.fr = 0 ∧ k = 1) ∨ (s.fr = 1 ∧ k = 0) := by omega
  have HTBg := Lib.hid (fun (W : World) (hp : PW W B s ptr rv wv sv) (i : Nat) (hi : i < 2) => hp.tb i hi)
  obtain ⟨av, hav⟩ : ∃ av, av = s.A k := ⟨_, rfl⟩
  have HACg := Lib.hid (fun (W : World) (hp : PW W B s ptr rv wv sv) => hp.ac k (by omega))
  rw [← hav] at hA HPA HACg
  clear h t hB hx hl hfr hk hav
  rcases hks with ⟨h0, h1⟩ | ⟨h0, h1⟩
  · rw [h0] at hcf
    subst h1
    clear h0
    go_enter Try.func157, Try.ntmps157
    go_wp2_with fail
    have hbW : Below w.heap.size w (w.alloc (.cells (actCells x).toArray 31)) := (Below.refl _ _).alloc (Nat.le_refl _) _
    have AX := AcC.new w x 31
    change Code.wp _ _ _ _ (w.alloc (.cells (actCells x).toArray 31))
    have HPW := Lib.hid (HP.out.below hbW)
    have HTW := Lib.hid (HT.out.below hbW)
    have HBW := Lib.hid hbW
    clear hbW hcf
    generalize w.alloc (.cells (actCells x).toArray 31) = W at *
    obtain ⟨bx, hbx⟩ : ∃ bx, bx = w.heap.size := ⟨_, rfl⟩
    rw [← hbx] at AX ⊢
    have hbx0 : w.heap.size ≤ bx := by omega
    clear hbx
    have c0 := AX.at_ 0 _ rfl
    have c1 := AX.at_ 1 _ rfl
    have c2 := AX.at_ 2 _ rfl
    have c3 := AX.at_ 3 _ rfl
    have c4 := AX.at_ 4 _ rfl
    have c5 := AX.at_ 5 _ rfl
    have c6 := AX.at_ 6 _ rfl
    have c7 := AX.at_ 7 _ rfl
    have c8 := AX.at_ 8 _ rfl
    have hbxl := AX.lt
    have htb := HTBg.out _ HPW.out 1 (by decide)
    go_still_tail 7, (by kernel_rfl)
    change wpList _ _ _ _ _ W.drew
    have HPX := Lib.hid (HPW.out.below (w' := W.drew) (Below.drew (Below.refl _ _)))
    have HTX := Lib.hid (HTW.out.below (w' := W.drew) (Below.drew (Below.refl _ _)))
    have HBX := Lib.hid (HBW.out.drew)
    clear htb c0 c1 c2 c3 c4 c5 c6 c7 c8 HPW HTW HBW AX hbxl
    generalize W.drew = X at *
    go_wp2_with fail
    refine (tdo_any _ _ F x X HTX.out HL.out HX.out).mono ?_
    rintro e w3 ⟨rfl, t3, ch3⟩
    have HP3 := Lib.hid (HPX.out.keep ch3 (fun _ hf => HB.out B hf rfl))
    have HT3 := Lib.hid t3
    have HC3 := Lib.hid ch3
    have hac : w3.cell? ⟨B, 3, none⟩ = some (.int .i64 av) := HACg.out _ HP3.out
    have hfz : w3.frozen? ⟨B, 3, none⟩ = false := HP3.out.fz 3 (by decide)
    have hlt3 := HP3.out.lt
    have ew : IntKind.i64.wrap ((av : Int) + 1) = (av : Int) + 1 := IntWalk.i64_in _ (by omega)
    clear t3 ch3
    go_wp2_with fail
    go_still_tail 10, (by kernel_rfl)
    change wpList _ _ _ _ _ w3.drew
    have HP4 := Lib.hid (HP3.out.below (w' := w3.drew) (Below.drew (Below.refl _ _)))
    have HT4 := Lib.hid (HT3.out.below (w' := w3.drew) (Below.drew (Below.refl _ _)))
    have HC4 := Lib.hid (HC3.out.trans (Chg.of_below ((Below.refl _ _).drew : Below w3.heap.size w3 w3.drew) (fun b _ => F b)) (fun b x _ h => h))
    clear hac hfz
    generalize w3.drew = Y at *
    have hac : Y.cell? ⟨B, 3, none⟩ = some (.int .i64 av) := HACg.out _ HP4.out
    have hfz : Y.frozen? ⟨B, 3, none⟩ = false := HP4.out.fz 3 (by decide)
    have hlt4 := HP4.out.lt
    go_wp2_with fail
    have HPZ := Lib.hid (HPA.out _ HP4.out)
    have HCZ := chg_blk Y B 3 (.int .i64 ((av : Int) + 1))
    have hzX := HBX.out.size
    have HTZ := HT4.out.keep HCZ (fun b hb e => by
      subst e
      rcases hb with hb | hb
      · exact HB.out b hb rfl
      · omega)
    have HCF := ((Chg.of_below HBX.out (fun b _ => b = B ∨ F b)).trans HC4.out (fun b x _ h => .inr h)).trans HCZ (fun b x _ h => .inl h)
    go_end0
    refine HQ.out _ HPZ.out ?_ HCF
    rw [HTK.out]
    exact HTZ.weak (fun b hb => by
      rcases hb with hb | hb
      · exact .inl hb
      · exact .inr (by omega))
  · rw [h0] at hcf
    subst h1
    clear h0
    go_enter Try.func157, Try.ntmps157
    go_wp2_with fail
    have hbW : Below w.heap.size w (w.alloc (.cells (actCells x).toArray 31)) := (Below.refl _ _).alloc (Nat.le_refl _) _
    have AX := AcC.new w x 31
    change Code.wp _ _ _ _ (w.alloc (.cells (actCells x).toArray 31))
    have HPW := Lib.hid (HP.out.below hbW)
    have HTW := Lib.hid (HT.out.below hbW)
    have HBW := Lib.hid hbW
    clear hbW hcf
    generalize w.alloc (.cells (actCells x).toArray 31) = W at *
    obtain ⟨bx, hbx⟩ : ∃ bx, bx = w.heap.size := ⟨_, rfl⟩
    rw [← hbx] at AX ⊢
    have hbx0 : w.heap.size ≤ bx := by omega
    clear hbx
    have c0 := AX.at_ 0 _ rfl
    have c1 := AX.at_ 1 _ rfl
    have c2 := AX.at_ 2 _ rfl
    have c3 := AX.at_ 3 _ rfl
    have c4 := AX.at_ 4 _ rfl
    have c5 := AX.at_ 5 _ rfl
    have c6 := AX.at_ 6 _ rfl
    have c7 := AX.at_ 7 _ rfl
    have c8 := AX.at_ 8 _ rfl
    have hbxl := AX.lt
    have htb := HTBg.out _ HPW.out 0 (by decide)
    go_still_tail 7, (by kernel_rfl)
    change wpList _ _ _ _ _ W.drew
    have HPX := Lib.hid (HPW.out.below (w' := W.drew) (Below.drew (Below.refl _ _)))
    have HTX := Lib.hid (HTW.out.below (w' := W.drew) (Below.drew (Below.refl _ _)))
    have HBX := Lib.hid (HBW.out.drew)
    clear htb c0 c1 c2 c3 c4 c5 c6 c7 c8 HPW HTW HBW AX hbxl
    generalize W.drew = X at *
    go_wp2_with fail
    refine (tdo_any _ _ F x X HTX.out HL.out HX.out).mono ?_
    rintro e w3 ⟨rfl, t3, ch3⟩
    have HP3 := Lib.hid (HPX.out.keep ch3 (fun _ hf => HB.out B hf rfl))
    have HT3 := Lib.hid t3
    have HC3 := Lib.hid ch3
    have hac : w3.cell? ⟨B, 2, none⟩ = some (.int .i64 av) := HACg.out _ HP3.out
    have hfz : w3.frozen? ⟨B, 2, none⟩ = false := HP3.out.fz 2 (by decide)
    have hlt3 := HP3.out.lt
    have ew : IntKind.i64.wrap ((av : Int) + 1) = (av : Int) + 1 := IntWalk.i64_in _ (by omega)
    clear t3 ch3
    go_wp2_with fail
    go_still_tail 10, (by kernel_rfl)
    change wpList _ _ _ _ _ w3.drew
    have HP4 := Lib.hid (HP3.out.below (w' := w3.drew) (Below.drew (Below.refl _ _)))
    have HT4 := Lib.hid (HT3.out.below (w' := w3.drew) (Below.drew (Below.refl _ _)))
    have HC4 := Lib.hid (HC3.out.trans (Chg.of_below ((Below.refl _ _).drew : Below w3.heap.size w3 w3.drew) (fun b _ => F b)) (fun b x _ h => h))
    clear hac hfz
    generalize w3.drew = Y at *
    have hac : Y.cell? ⟨B, 2, none⟩ = some (.int .i64 av) := HACg.out _ HP4.out
    have hfz : Y.frozen? ⟨B, 2, none⟩ = false := HP4.out.fz 2 (by decide)
    have hlt4 := HP4.out.lt
    go_wp2_with fail
    have HPZ := Lib.hid (HPA.out _ HP4.out)
    have HCZ := chg_blk Y B 2 (.int .i64 ((av : Int) + 1))
    have hzX := HBX.out.size
    have HTZ := HT4.out.keep HCZ (fun b hb e => by
      subst e
      rcases hb with hb | hb
      · exact HB.out b hb rfl
      · omega)
    have HCF := ((Chg.of_below HBX.out (fun b _ => b = B ∨ F b)).trans HC4.out (fun b x _ h => .inr h)).trans HCZ (fun b x _ h => .inl h)
    go_end0
    refine HQ.out _ HPZ.out ?_ HCF
    rw [HTK.out]
    exact HTZ.weak (fun b hb => by
      rcases hb with hb | hb
      · exact .inl hb
      · exact .inr (by omega))
end Go.Proofs.Ytllemhknmleklaa
