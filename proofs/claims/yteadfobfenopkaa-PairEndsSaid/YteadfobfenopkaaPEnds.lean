
/- PairEnds: the walk. -/
import Derived.Test.YteadfobfenopkaaPrY
import Derived.Test.YteadfobfenopkaaPrV
import Derived.Test.YteadfobfenopkaaAp
set_option linter.unusedVariables false
set_option linter.unusedSimpArgs false
namespace Go.Proofs.Yteadfobfenopkaa
open Go Go.RowKit Go.Sort Wc Wk

def sumL (f : Nat → Nat) : Nat → Nat
  | 0 => 0
  | n + 1 => sumL f n + f n
theorem asks_count {al : List AskD} (h : ∀ a ∈ al, a.ok) : ∀ i, i ≤ al.length → (wacts (al.take i)).length + sumL (looksN (al.take i)) 4 = i := by
  intro i
  induction i with
  | zero => intro _; rfl
  | succ i ih =>
    intro hi
    have h0 := ih (by omega)
    obtain ⟨x, hx⟩ : ∃ x, al[i]? = some x := ⟨_, List.getElem?_eq_getElem (by omega)⟩
    have e : al.take (i + 1) = al.take i ++ [x] := by rw [List.take_add_one, hx]; rfl
    rw [e, wacts_snoc]
    simp only [sumL] at h0 ⊢
    rw [looks_snoc, looks_snoc, looks_snoc, looks_snoc]
    rcases h x (List.mem_of_getElem? hx) with ⟨g1, g2, _⟩ | ⟨g1, _⟩
    · rw [if_pos g1]
      generalize x.n = n at g2 ⊢
      match n, g2 with
      | 0, _ => rw [if_pos ⟨g1, rfl⟩, if_neg (by omega), if_neg (by omega), if_neg (by omega)]; omega
      | 1, _ => rw [if_neg (by omega), if_pos ⟨g1, rfl⟩, if_neg (by omega), if_neg (by omega)]; omega
      | 2, _ => rw [if_neg (by omega), if_neg (by omega), if_pos ⟨g1, rfl⟩, if_neg (by omega)]; omega
      | 3, _ => rw [if_neg (by omega), if_neg (by omega), if_neg (by omega), if_pos ⟨g1, rfl⟩]; omega
    · have g : ¬ x.rd = true := by rw [g1]; decide
      rw [if_neg g, if_neg (fun q => g q.1), if_neg (fun q => g q.1), if_neg (fun q => g q.1), if_neg (fun q => g q.1), List.length_append]
      show _ + 1 + _ = _
      omega
theorem sumL_le (f : Nat → Nat) : ∀ {n m : Nat}, n ≤ m → sumL f n ≤ sumL f m := fun {n m} h => by
  induction m with
  | zero => rw [Nat.le_zero.1 h]; exact Nat.le_refl _
  | succ m ih =>
    by_cases e : n = m + 1
    · rw [e]; exact Nat.le_refl _
    · have := ih (by omega)
      show sumL f n ≤ sumL f m + f m
      omega
/-- The picks that PairEnds adds: of readers alone. -/
structure MoreP (al : List AskD) (n i : Nat) (m : List Nat) : Prop where
  lt : ∀ x ∈ m, x < 4
  len : m.length = 4 * (sumL (looksN al) n + looksN (al.take i) n)
  all : ∀ j, j < n → 4 * looksN al j ≤ m.count j
  one : 4 * looksN (al.take i) n ≤ m.count n
theorem looks_nil (n : Nat) : looksN [] n = 0 := rfl
theorem MoreP.zero (al : List AskD) : MoreP al 0 0 [] := ⟨fun x h => (by cases h), by rw [List.take_zero]; rfl, fun j h => absurd h (Nat.not_lt_zero _), by rw [List.take_zero]; exact Nat.le_refl 0⟩
theorem MoreP.next {al : List AskD} {n : Nat} {m : List Nat} (h : MoreP al n al.length m) : MoreP al (n + 1) 0 m := ⟨h.lt, by
  have := h.len
  rw [List.take_length] at this
  rw [List.take_zero, looks_nil, this]
  rfl, fun j hj => by
  by_cases e : j = n
  · subst e
    have := h.one
    rw [List.take_length] at this
    exact this
  · exact h.all j (by omega), by rw [List.take_zero, looks_nil]; exact Nat.zero_le _⟩
theorem MoreP.skip {al : List AskD} {n i : Nat} {m : List Nat} {x : AskD} (h : MoreP al n i m) (hx : al[i]? = some x) (hn : ¬ (x.rd = true ∧ x.n = n)) : MoreP al n (i + 1) m := by
  have e : al.take (i + 1) = al.take i ++ [x] := by rw [List.take_add_one, hx]; rfl
  have e2 : looksN (al.take (i + 1)) n = looksN (al.take i) n := by rw [e, looks_snoc, if_neg (fun g => hn ⟨g.1, g.2.symm⟩)]
  exact ⟨h.lt, by rw [e2]; exact h.len, h.all, by rw [e2]; exact h.one⟩
theorem MoreP.put {al : List AskD} {n i : Nat} {m : List Nat} {x : AskD} (h : MoreP al n i m) (hx : al[i]? = some x) (h1 : x.rd = true) (h2 : x.n = n) (hn4 : n < 4) : MoreP al n (i + 1) (m ++ [n, n, n, n]) := by
  have e : al.take (i + 1) = al.take i ++ [x] := by rw [List.take_add_one, hx]; rfl
  have e2 : looksN (al.take (i + 1)) n = looksN (al.take i) n + 1 := by rw [e, looks_snoc, if_pos ⟨h1, h2.symm⟩]
  have e3 : [n, n, n, n].count n = 4 := by simp
  refine ⟨fun y hy => ?_, by rw [e2, List.length_append, h.len]; show _ + 4 = _; omega, fun j hj => by rw [List.count_append]; have := h.all j hj; omega, by rw [e2, List.count_append, e3]; have := h.one; omega⟩
  rcases List.mem_append.1 hy with hy | hy
  · exact h.lt y hy
  · simp at hy; subst hy; exact hn4
theorem MoreP.le {al : List AskD} {n i : Nat} {m : List Nat} (h : MoreP al n i m) (hok : ∀ a ∈ al, a.ok) (hn : n < 4) (hi : i ≤ al.length) : m.length ≤ 4 * al.length := by
  have h1 := asks_count hok al.length (Nat.le_refl _)
  rw [List.take_length] at h1
  have h2 : looksN (al.take i) n ≤ looksN al n := by
    obtain ⟨t, ht⟩ : ∃ t, al = al.take i ++ t := ⟨al.drop i, (List.take_append_drop i al).symm⟩
    have g : ∀ (t l : List AskD), looksN l n ≤ looksN (l ++ t) n := by
      intro t
      induction t with
      | nil => intro l; rw [List.append_nil]; exact Nat.le_refl _
      | cons y t ih =>
        intro l
        have h3 := ih (l ++ [y])
        rw [List.append_assoc] at h3
        have h4 : looksN l n ≤ looksN (l ++ [y]) n := by rw [looks_snoc]; split <;> omega
        exact Nat.le_trans h4 h3
    have := g t (al.take i)
    rw [← ht] at this
    exact this
  have h3 := sumL_le (looksN al) (n := n + 1) (m := 4) hn
  have h4 : sumL (looksN al) (n + 1) = sumL (looksN al) n + looksN al n := rfl
  rw [h.len]
  omega
theorem MoreP.le4 {al : List AskD} {m : List Nat} (h : MoreP al 4 0 m) (hok : ∀ a ∈ al, a.ok) : m.length + 4 * (wacts al).length ≤ 4 * al.length := by
  have h1 := asks_count hok al.length (Nat.le_refl _)
  rw [List.take_length] at h1
  have := h.len
  rw [List.take_zero, looks_nil] at this
  omega

set_option maxRecDepth 100000 in
set_option maxHeartbeats 8000000 in
theorem pairEnds_walk (a0 : Option Addr) (len0 cap0 : Nat) (z0 : List RawJ) (a1 : Option Addr) (len1 cap1 : Nat) (z1 : List Int) (w : World) (h0 : IsJobs w a0 len0 cap0 z0) (h1 : IsRow .i64 w a1 len1 cap1 z1) :
    Calls Try.prog 15 #[.slice a0 len0 cap0, .slice a1 len1 cap1] w fun e w' => e = .returned (.bool true) ∧ Below w.heap.size w w' := by
  have H0 := Lib.hid h0
  have H1 := Lib.hid h1
  clear h0 h1
  go_enter Try.func15, Try.ntmps15
  go_wp2_with fail
  refine (asks_any a0 len0 cap0 z0 25 w H0.out (by decide)).mono ?_
  rintro e w1 ⟨v1, al, rfl, ho1, hok1, hl1, hb1⟩
  obtain ⟨aa, ac, rfl⟩ := ho1.shape
  rw [List.length_map] at ho1 ⊢
  have HA := Lib.hid ho1.sl
  have HOK := Lib.hid hok1
  have HW := Lib.hid hb1
  have ua := ho1.sl.lens.2.1
  have va := ho1.sl.lens.2.2
  clear ho1 hok1 hb1
  obtain ⟨X, hX⟩ : ∃ X : World, X = w1 := ⟨_, rfl⟩
  subst hX
  go_wp2_with fail
  refine (picks_any a1 len1 cap1 z1 60 w X H1.out HW.out (by decide)).mono ?_
  rintro e w2 ⟨v2, pl, rfl, ho2, hok2, hl2, hb2⟩
  have HP := Lib.hid ho2
  have HOP := Lib.hid hok2
  have HX2 := Lib.hid hb2
  clear ho2 hok2 hb2
  obtain ⟨Y, hY⟩ : ∃ Y : World, Y = w2 := ⟨_, rfl⟩
  subst hY
  have hXY := HX2.out.size
  go_wp2_with fail
  go_loopw [7, 8] (fun kv i wr => ∃ m : Nat, m ≤ al.length ∧ i = .int .i64 m ∧ kv = .int .i64 (wacts (al.take m)).length ∧ Hid (Below Y.heap.size Y wr)) (fun _ i _ => al.length - (intOf i).toNat)
  case atStart => exact ⟨0, Nat.zero_le _, rfl, rfl, Below.refl _ _⟩
  case round =>
    obtain ⟨m, hm, rfl, rfl, HB⟩ := hrel
    by_cases hlt : m < al.length
    · obtain ⟨x, hx⟩ : ∃ x, al[m]? = some x := ⟨_, List.getElem?_eq_getElem hlt⟩
      obtain ⟨b, off, rfl, hb, e0, e1, e2, e3, e4, e5, e6, e7, e8, e9, e10, e11, e12, e13⟩ := Sl.ask HA.out (HX2.out.trans (HB.out.mono hXY)) hx
      have hT : al.take (m + 1) = al.take m ++ [x] := by rw [List.take_add_one, hx]; rfl
      have hwl := (pasks_len (al.take m)).2
      rw [List.length_take] at hwl
      have hws := wacts_snoc (al.take m) x
      rw [← hT] at hws
      have hwl2 : (wacts (al.take m)).length ≤ 25 := by unfold wacts; omega
      clear hx hT e1 e2 e3 e4 e5 e6 e7 e8 e9 e10 e11 e12 e13 hwl
      by_cases hr : x.rd = true
      · have ek : askKind x = 1 := by unfold askKind; rw [if_pos hr]
        rw [ek] at e0
        rw [if_pos hr] at hws
        have HWS := Lib.hid hws
        clear hr ek hws
        go_wp2_with fail
        go_roundw
        case rel => exact ⟨m + 1, by omega, by go_num, by rw [HWS.out], HB⟩
        case measure => simp [intOf]; omega
      · have ek : askKind x = 2 := by unfold askKind; rw [if_neg hr]
        rw [ek] at e0
        rw [if_neg hr] at hws
        have HWS := Lib.hid (show (wacts (al.take (m + 1))).length = (wacts (al.take m)).length + 1 by rw [hws]; simp)
        clear hr ek hws
        generalize (wacts (al.take m)).length = q at *
        go_wp2_with fail
        go_roundw
        case rel => exact ⟨m + 1, by omega, by go_num, by rw [HWS.out]; go_num, HB⟩
        case measure => simp [intOf]; omega
    · obtain rfl : m = al.length := by omega
      have e1 : al.take al.length = al := List.take_of_length_le (Nat.le_refl _)
      rw [e1]
      have hwl : (wacts al).length ≤ 25 := by have := (pasks_len al).2; unfold wacts; omega
      have HENDS := Lib.hid (fun (m : List Nat) (hm : ∀ n ∈ m, n < 4) (hc : ∀ n, n < 4 → 4 * looksN al n ≤ m.count n) => ends_law HOK.out (pl := pl) (m := m) HOP.out hm hc)
      have HLE4 := Lib.hid (fun (m : List Nat) (h : MoreP al 4 0 m) => h.le4 HOK.out)
      generalize (wacts al).length = K at *
      have HP2 := Lib.hid (HP.out.below HB.out)
      replace HX2 := Lib.hid (HX2.out.trans (HB.out.mono hXY))
      clear e1 HP HB
      obtain ⟨Z, hZ⟩ : ∃ Z : World, Z = wr := ⟨_, rfl⟩
      subst hZ
      clear hXY
      go_wp2_with fail
      go_loopw [6, 9] (fun v i wr => ∃ n : Nat, n ≤ 4 ∧ i = .int .i64 n ∧ (∃ m : List Nat, Hid (MoreP al n 0 m) ∧ Hid (Wk.Own wr X.heap.size 3 1 v ((pl ++ m).map pickCells))) ∧ Hid (Below X.heap.size X wr)) (fun _ i _ => 4 - (intOf i).toNat)
      case atStart => exact ⟨0, Nat.zero_le _, rfl, ⟨[], MoreP.zero al, Lib.hid (by rw [List.append_nil]; exact HP2.out)⟩, HX2⟩
      case round =>
        obtain ⟨n, hn, rfl, ⟨m, HM, HO⟩, HB⟩ := hrel
        by_cases hn4 : n < 4
        · go_wp2_with fail
          go_loopw [6, 10] (fun v i wr => ∃ j : Nat, j ≤ al.length ∧ i = .int .i64 j ∧ (∃ m : List Nat, Hid (MoreP al n j m) ∧ Hid (Wk.Own wr X.heap.size 3 1 v ((pl ++ m).map pickCells))) ∧ Hid (Below X.heap.size X wr)) (fun _ i _ => al.length - (intOf i).toNat)
          case atStart => exact ⟨0, Nat.zero_le _, rfl, ⟨m, HM, HO⟩, HB⟩
          case round =>
            clear HM HO HB
            obtain ⟨j, hj, rfl, ⟨m, HM, HO⟩, HB⟩ := hrel
            have hzr := HB.out.size
            by_cases hlt : j < al.length
            · obtain ⟨x, hx⟩ : ∃ x, al[j]? = some x := ⟨_, List.getElem?_eq_getElem hlt⟩
              obtain ⟨b, off, rfl, hb, e0, e1, e2, e3, e4, e5, e6, e7, e8, e9, e10, e11, e12, e13⟩ := Sl.ask HA.out HB.out hx
              have HPUT := Lib.hid (fun h1 h2 => HM.out.put hx h1 h2 hn4)
              have HSKIP := Lib.hid (fun h1 => HM.out.skip hx h1)
              have hln : (pl ++ m).length ≤ 600 := by have := HM.out.le HOK.out hn4 hj; simp; omega
              have HLN := Lib.hid hln
              clear hx hln e2 e3 e4 e5 e6 e7 e8 e9 e10 e11 e12 e13
              by_cases hr : x.rd = true
              · have ek : askKind x = 1 := by unfold askKind; rw [if_pos hr]
                rw [ek] at e0
                by_cases hxn : x.n = n
                · have HN2 := HPUT.out hr hxn
                  rw [hxn] at e1
                  have HM2 := Lib.hid HN2
                  have HO2 := Lib.hid (HO.out.below ((Below.refl _ _).alloc (Nat.le_refl _) (.cells #[.int .i64 n, .int .i64 n, .int .i64 n, .int .i64 n] 3)))
                  clear hr ek hxn HPUT HSKIP HN2
                  go_wp2_with (at_builtin; refine wpList_append_rows rfl _ _ 57 3 1 8 _ rfl eiPick X.heap.size _ ((pl ++ m).map pickCells) rfl HO2.out _ ([n, n, n, n].map pickCells) rfl (sl_many (n := 4) (xs := [n, n, n, n].map pickCells) rfl (by intro c hc; obtain ⟨j, _, rfl⟩ := List.mem_map.1 hc; rfl) rfl rfl (by decide)) (by intro c hc; obtain ⟨r, _, rfl⟩ := List.mem_map.1 hc; exact pickCells_one r) (by have := HLN.out; simp; simp at this; omega) (by decide) (by simp; omega) (by simp) ?_; intro v' w5 hown' hgr hb5; go_frame)
                  have hown2 : Wk.Own w5 X.heap.size 3 1 v' ((pl ++ (m ++ [n, n, n, n])).map pickCells) := by rw [← List.append_assoc, List.map_append (l₁ := pl ++ m)]; exact hown'
                  have HO5 := Lib.hid hown2
                  have HB5 := Lib.hid ((HB.out.alloc hzr _).trans (hb5.mono (Nat.le_refl _)))
                  clear hown' hgr hb5 hown2 HO2
                  go_roundw
                  case rel => exact ⟨j + 1, by omega, by go_num, ⟨m ++ [n, n, n, n], HM2, HO5⟩, HB5⟩
                  case measure => simp [intOf]; omega
                · have HM2 := Lib.hid (HSKIP.out (fun g => hxn g.2))
                  have hne : ((x.n : Int) == (n : Int)) = false := by rw [beq_eq_false_iff_ne]; omega
                  clear hr ek hxn HPUT HSKIP
                  go_wp2_with fail
                  go_roundw
                  case rel => exact ⟨j + 1, by omega, by go_num, ⟨m, HM2, HO⟩, HB⟩
                  case measure => simp [intOf]; omega
              · have ek : askKind x = 2 := by unfold askKind; rw [if_neg hr]
                rw [ek] at e0
                have HM2 := Lib.hid (HSKIP.out (fun g => hr g.1))
                clear hr ek HPUT HSKIP
                go_wp2_with fail
                go_roundw
                case rel => exact ⟨j + 1, by omega, by go_num, ⟨m, HM2, HO⟩, HB⟩
                case measure => simp [intOf]; omega
            · obtain rfl : j = al.length := by omega
              have HM2 := Lib.hid HM.out.next
              go_wp2_with fail
              go_roundw
              case rel => exact ⟨n + 1, by omega, by go_num, ⟨m, HM2, HO⟩, HB⟩
              case measure => simp [intOf]; omega
        · obtain rfl : n = 4 := by omega
          have HE := Lib.hid (HENDS.out m HM.out.lt HM.out.all)
          have hml := HLE4.out m HM.out
          have HL4 := Lib.hid (show ∀ x ∈ pl ++ m, x ≤ 4 from fun x hx => by
            rcases List.mem_append.1 hx with g | g
            · exact HOP.out x g
            · have := HM.out.lt x g; omega)
          have hpm : (pl ++ m).length + 4 * K ≤ 160 := by simp; omega
          have HPM := Lib.hid hpm
          clear hml hpm HM HLE4 HENDS hn hn4
          have ewm : wrap64 (4 * (K : Int)) = 4 * (K : Int) := wrap64_in (by omega) (by omega)
          go_wp2_with fail
          go_loopw [6, 11] (fun v i wr => ∃ k : Nat, k ≤ 4 * K ∧ i = .int .i64 k ∧ Hid (Wk.Own wr X.heap.size 3 1 v ((pl ++ m ++ List.replicate k 4).map pickCells)) ∧ Hid (Below X.heap.size X wr)) (fun _ i _ => 4 * K - (intOf i).toNat)
          case atStart => exact ⟨0, Nat.zero_le _, rfl, Lib.hid (by rw [List.replicate_zero, List.append_nil]; exact HO.out), HB⟩
          case round =>
            clear HO HB
            obtain ⟨k, hk, rfl, HO, HB⟩ := hrel
            have hzr := HB.out.size
            by_cases hlt : k < 4 * K
            · have HO2 := Lib.hid (HO.out.below ((Below.refl _ _).alloc (Nat.le_refl _) (.cells #[.int .i64 4] 3)))
              have hlen : (pl ++ m ++ List.replicate k 4).length ≤ 300 := by have := HPM.out; rw [List.length_append, List.length_replicate]; omega
              have HLN := Lib.hid hlen
              clear hlen
              have HT := Lib.hid (show pl ++ m ++ List.replicate (k + 1) 4 = (pl ++ m ++ List.replicate k 4) ++ [4] by rw [List.append_assoc (pl ++ m), ← List.replicate_succ'])
              generalize pl ++ m ++ List.replicate k 4 = F at *
              go_wp2_with (at_builtin; refine wpList_append_rows rfl _ _ 57 3 1 8 _ rfl eiPick X.heap.size _ (F.map pickCells) rfl HO2.out _ [pickCells 4] rfl (sl_new (c := pickCells 4) rfl rfl) (by intro c hc; simp at hc; subst hc; exact pickCells_one _) (by have := HLN.out; simp; omega) (by decide) (by simp; omega) (by simp) ?_; intro v' w5 hown' hgr hb5; go_frame)
              have hown2 : Wk.Own w5 X.heap.size 3 1 v' ((pl ++ m ++ List.replicate (k + 1) 4).map pickCells) := by rw [HT.out, List.map_append]; exact hown'
              have HO5 := Lib.hid hown2
              have HB5 := Lib.hid ((HB.out.alloc hzr _).trans (hb5.mono (Nat.le_refl _)))
              clear hown' hgr hb5 hown2 HO2
              go_roundw
              case rel => exact ⟨k + 1, by omega, by go_num, HO5, HB5⟩
              case measure => simp [intOf]; omega
            · obtain rfl : k = 4 * K := by omega
              have HQL := Lib.hid (show (pl ++ m ++ List.replicate (4 * K) 4).length ≤ 160 by rw [List.length_append, List.length_replicate]; exact HPM.out)
              have HQ4 := Lib.hid (show ∀ x ∈ pl ++ m ++ List.replicate (4 * K) 4, x ≤ 4 from fun x hx => by
                rcases List.mem_append.1 hx with g | g
                · exact HL4.out x g
                · rw [(List.mem_replicate.1 g).2]; exact Nat.le_refl _)
              generalize pl ++ m ++ List.replicate (4 * K) 4 = Q at *
              have ho := HO.out
              obtain ⟨qa, qc, rfl⟩ := ho.shape
              rw [List.length_map] at ho ⊢
              have HS := Lib.hid ho.sl
              have uq := ho.sl.lens.2.1
              have vq := ho.sl.lens.2.2
              have HAr := Lib.hid (HA.out.below HB.out)
              have HWr := Lib.hid (HW.out.trans (HB.out.mono HW.out.size))
              obtain ⟨E1, E2⟩ := HE.out
              have HE1 := Lib.hid E1
              have HE2 := Lib.hid E2
              clear ho HO HE E1 E2 HA HX2 H0 H1 HP2 ewm
              go_wp2_with fail
              refine (paired_any aa qa ac qc al Q wr HAr.out HS.out (by omega) (by have := HQL.out; omega) HOK.out HQ4.out).mono ?_
              rintro e w3 ⟨v3, rfl, ho3, hb3⟩
              rw [HE1.out]
              have HS3 := Lib.hid (HS.out.below hb3)
              have HA3 := Lib.hid (HAr.out.below hb3)
              have HW3 := Lib.hid (HWr.out.trans (hb3.mono HWr.out.size))
              clear ho3 hb3
              go_wp2_with fail
              refine (pFreed_any aa qa ac qc al Q w3 HA3.out HS3.out (by omega) (by have := HQL.out; omega) HOK.out HQ4.out).mono ?_
              rintro e w4 ⟨rfl, hb4⟩
              have HW4 := Lib.hid (HW3.out.trans (hb4.mono HW3.out.size))
              have hww : (prun (pasks al) Q).ww ≤ 60 := by have := HE2.out; omega
              generalize (prun (pasks al) Q).ww = ww at *
              have hdw : decide ((ww : Int) ≤ 60) = true := decide_eq_true (by omega)
              clear hb4 HE1 HE2
              go_wp2_with fail
              go_returns
              exact ⟨rfl, HW4.out⟩
end Go.Proofs.Yteadfobfenopkaa
