
/- PairForward: the walk. -/
import Derived.Test.YteadfobfenopkaaPrY
import Derived.Test.YteadfobfenopkaaPrV
import Derived.Test.YteadfobfenopkaaAp
set_option linter.unusedVariables false
set_option linter.unusedSimpArgs false
namespace Go.Proofs.Yteadfobfenopkaa
open Go Go.RowKit Go.Sort Wc Wk


set_option maxRecDepth 100000 in
set_option maxHeartbeats 8000000 in
theorem pairForward_walk (a0 : Option Addr) (len0 cap0 : Nat) (z0 : List RawJ) (a1 : Option Addr) (len1 cap1 : Nat) (z1 : List Int) (w : World) (h0 : IsJobs w a0 len0 cap0 z0) (h1 : IsRow .i64 w a1 len1 cap1 z1) :
    Calls Try.prog 12 #[.slice a0 len0 cap0, .slice a1 len1 cap1] w fun e w' => e = .returned (.bool true) ∧ Below w.heap.size w w' := by
  have H0 := Lib.hid h0
  have H1 := Lib.hid h1
  clear h0 h1
  go_enter Try.func12, Try.ntmps12
  go_wp2_with fail
  refine (asks_any a0 len0 cap0 z0 40 w H0.out (by decide)).mono ?_
  rintro e w1 ⟨v1, al, rfl, ho1, hok1, hl1, hb1⟩
  obtain ⟨aa, ac, rfl⟩ := ho1.shape
  rw [List.length_map] at ho1 ⊢
  have HA := Lib.hid ho1.sl
  have HOK := Lib.hid hok1
  have HW := Lib.hid hb1
  have ua := ho1.sl.lens.2.1
  have va := ho1.sl.lens.2.2
  clear ho1 hok1 hb1
  go_wp2_with fail
  refine (picks_any a1 len1 cap1 z1 100 w w1 H1.out HW.out (by decide)).mono ?_
  rintro e w2 ⟨v2, pl, rfl, ho2, hok2, hl2, hb2⟩
  obtain ⟨pa, pc, rfl⟩ := ho2.shape
  rw [List.length_map] at ho2 ⊢
  have HP := Lib.hid ho2.sl
  have HOP := Lib.hid hok2
  have ub := ho2.sl.lens.2.1
  have vb := ho2.sl.lens.2.2
  replace HA := Lib.hid (HA.out.below hb2)
  replace HW := Lib.hid (HW.out.trans (hb2.mono HW.out.size))
  clear ho2 hok2 hb2 H0 H1
  go_wp2_with fail
  refine (paired_any aa pa ac pc al pl w2 HA.out HP.out (by omega) (by omega) HOK.out HOP.out).mono ?_
  rintro e w3 ⟨v3, rfl, ho3, hb3⟩
  obtain ⟨sa, sc, rfl⟩ := ho3.shape
  rw [List.length_map] at ho3 ⊢
  have HS := Lib.hid ho3.sl
  replace HA := Lib.hid (HA.out.below hb3)
  replace HP := Lib.hid (HP.out.below hb3)
  replace HW := Lib.hid (HW.out.trans (hb3.mono HW.out.size))
  have us := ho3.sl.lens.2.1
  have vs := ho3.sl.lens.2.2
  have hns0 : (prun (pasks al) pl).se.length ≤ 100 := Nat.le_trans (by have := ((pasks_ok HOK.out).1.run pl).se; omega) hl2
  have HFW := Lib.hid (fun k x y (hx : (prun (pasks al) pl).se[k]? = some x) (hy : (prun (pasks al) pl).se[k + 1]? = some y) => forward_law HOK.out HOP.out hx hy)
  have HML := Lib.hid (fun (h : (prun (pasks al) pl).wt.length = 0) q => more_law HOK.out hl1 HOP.out h (q := q))
  clear ho3 hb3
  obtain ⟨X, hX⟩ : ∃ X : World, X = w3 := ⟨_, rfl⟩
  subst hX
  have HSE := Lib.hid (rfl : (prun (pasks al) pl).se.length = (prun (pasks al) pl).se.length)
  obtain ⟨se, hse⟩ : ∃ se, se = (prun (pasks al) pl).se := ⟨_, rfl⟩
  rw [← hse] at HS HFW us hns0 ⊢
  clear HSE hse
  obtain ⟨ns, hns⟩ : ∃ n, n = se.length := ⟨_, rfl⟩
  rw [← hns] at HS us hns0 ⊢
  have HNS := Lib.hid hns
  clear hns
  obtain ⟨lf, hlf⟩ : ∃ n, n = (prun (pasks al) pl).wt.length := ⟨_, rfl⟩
  rw [← hlf] at HML ⊢
  have hlf40 : lf ≤ 40 := by
    have h1 := left_law HOK.out HOP.out
    have h2 := (pasks_len al).2
    rw [hlf]
    unfold wacts at h1
    omega
  clear hlf
  go_wp2_with fail
  go_loopw [10, 11] (fun kv i wr => ∃ m : Nat, m ≤ al.length ∧ i = .int .i64 m ∧ kv = .int .i64 (wacts (al.take m)).length ∧ Hid (Below X.heap.size X wr)) (fun _ i _ => al.length - (intOf i).toNat)
  case atStart => exact ⟨0, Nat.zero_le _, rfl, rfl, Below.refl _ _⟩
  case round =>
    obtain ⟨m, hm, rfl, rfl, HB⟩ := hrel
    by_cases hlt : m < al.length
    · obtain ⟨x, hx⟩ : ∃ x, al[m]? = some x := ⟨_, List.getElem?_eq_getElem hlt⟩
      obtain ⟨b, off, rfl, hb, e0, e1, e2, e3, e4, e5, e6, e7, e8, e9, e10, e11, e12, e13⟩ := Sl.ask HA.out HB.out hx
      have hT : al.take (m + 1) = al.take m ++ [x] := by rw [List.take_add_one, hx]; rfl
      have hwl := (pasks_len (al.take m)).2
      rw [List.length_take] at hwl
      have hws := wacts_snoc (al.take m) x
      rw [← hT] at hws
      have hwl2 : (wacts (al.take m)).length ≤ 40 := by unfold wacts; omega
      clear hx hT e1 e2 e3 e4 e5 e6 e7 e8 e9 e10 e11 e12 e13 hwl
      by_cases hr : x.rd = true
      · have ek : askKind x = 1 := by unfold askKind; rw [if_pos hr]
        rw [ek] at e0
        rw [if_pos hr] at hws
        have HWS := Lib.hid hws
        clear hr ek hws
        go_wp2_with fail
        go_roundw
        case rel => exact ⟨m + 1, by omega, by go_num, by rw [HWS.out], HB⟩
        case measure => simp [intOf]; omega
      · have ek : askKind x = 2 := by unfold askKind; rw [if_neg hr]
        rw [ek] at e0
        rw [if_neg hr] at hws
        have HWS := Lib.hid (show (wacts (al.take (m + 1))).length = (wacts (al.take m)).length + 1 by rw [hws]; simp)
        clear hr ek hws
        generalize (wacts (al.take m)).length = q at *
        go_wp2_with fail
        go_roundw
        case rel => exact ⟨m + 1, by omega, by go_num, by rw [HWS.out]; go_num, HB⟩
        case measure => simp [intOf]; omega
    · obtain rfl : m = al.length := by omega
      have e1 : al.take al.length = al := List.take_of_length_le (Nat.le_refl _)
      rw [e1]
      have hwl : (wacts al).length ≤ 40 := by have := (pasks_len al).2; unfold wacts; omega
      generalize (wacts al).length = K at *
      replace HA := Lib.hid (HA.out.below HB.out)
      replace HP := Lib.hid (HP.out.below HB.out)
      replace HS := Lib.hid (HS.out.below HB.out)
      replace HW := Lib.hid (HW.out.trans (HB.out.mono HW.out.size))
      clear e1 HB
      obtain ⟨Y, hY⟩ : ∃ Y : World, Y = wr := ⟨_, rfl⟩
      subst hY
      go_wp2_with fail
      go_loopw [12] (fun i wr => ∃ m : Nat, (m ≤ ns ∨ m = 0) ∧ i = .int .i64 ((m + 1 : Nat) : Int) ∧ Hid (Below Y.heap.size Y wr)) (fun i _ => ns + 1 - (intOf i).toNat)
      case atStart => exact ⟨0, .inr rfl, rfl, Below.refl _ _⟩
      case round =>
        obtain ⟨m, hm, rfl, HB⟩ := hrel
        by_cases hlt : m + 1 < ns
        · obtain ⟨x, hx⟩ : ∃ x, se[m]? = some x := ⟨_, List.getElem?_eq_getElem (by have := HNS.out; omega)⟩
          obtain ⟨y, hy⟩ : ∃ y, se[m + 1]? = some y := ⟨_, List.getElem?_eq_getElem (by have := HNS.out; omega)⟩
          have hle := HFW.out m x y hx hy
          obtain ⟨b, off, rfl, hb, _, _, c1⟩ := Sl.seen HS.out HB.out hx
          obtain ⟨b2, off2, hh, _, _, _, c2⟩ := Sl.seen HS.out HB.out hy
          cases hh
          generalize x.acts = p at *
          generalize y.acts = q at *
          have hd : ¬ q < p := by omega
          have ej : IntKind.i64.wrap ((m : Int) + 1 - 1) = (m : Int) := by rw [IntKind.wrap_i64]; omega
          have ej2 : wrap64 ((m : Int) + 1 - 1) = (m : Int) := by rw [show (m : Int) + 1 - 1 = m by omega]; exact wrap64_in (by omega) (by omega)
          clear hx hy hle
          go_upto_region 15 with fail
          go_quiet (fail)
          go_wp2_with fail
          go_roundw
          case rel => exact ⟨m + 1, .inl (by omega), by go_num, Lib.hid (below_drewN HB.out _)⟩
          case measure => simp [intOf]; omega
        · replace HA := Lib.hid (HA.out.below HB.out)
          replace HP := Lib.hid (HP.out.below HB.out)
          replace HW := Lib.hid (HW.out.trans (HB.out.mono HW.out.size))
          clear HB HS HFW
          by_cases hl : 0 < lf
          · go_wp2_with fail
            go_returns
            exact ⟨rfl, HW.out⟩
          · obtain rfl : lf = 0 := by omega
            by_cases hn0 : ns = 0
            · subst hn0
              go_wp2_with fail
              go_returns
              exact ⟨rfl, HW.out⟩
            · have hn1 : ((ns : Int) == 0) = false := by rw [beq_eq_false_iff_ne]; omega
              replace HML := Lib.hid (HML.out rfl)
              obtain ⟨Z, hZ⟩ : ∃ Z : World, Z = wr := ⟨_, rfl⟩
              subst hZ
              clear hm hl
              go_wp2_with (at_builtin; refine stop_at ?_; intro G hG)
              rw [← hG.out]; clear hG G
              refine wpList_append_any rfl _ _ 72 79 14 112 _ rfl eiAsk _ (.slice none 0 0) [] rfl (Wk.Own.nil _ _ _ _) (.slice aa al.length ac) (al.map askCells) rfl HA.out (by intro c hc; obtain ⟨r, _, rfl⟩ := List.mem_map.1 hc; exact askCells_one r) (by simp; omega) (by decide) (Nat.le_refl _) ?_
              intro v4 w4 ho4 hb4
              rw [List.nil_append] at ho4
              obtain ⟨a4, c4, rfl⟩ := ho4.shape
              rw [List.length_map] at ho4 ⊢
              have hz4 := hb4.size
              have HO4 := Lib.hid (ho4.below ((Below.refl _ _).alloc (Nat.le_refl _) (.cells #[.int .i64 1, .int .i64 1, .bool false, .int .u64 0, .int .u64 0, .int .i64 0, .bool false, .int .u64 0, .int .u64 0, .int .i64 0, .int .i64 0, .bool false, .int .u64 0, .int .u64 0] 79)))
              have HB4 := Lib.hid hb4
              clear ho4 hb4
              go_wp2_with (at_builtin; refine stop_at ?_; intro G hG)
              rw [← hG.out]; clear hG G
              refine wpList_append_rows rfl _ _ 72 79 14 112 _ rfl eiAsk Z.heap.size _ (al.map askCells) rfl HO4.out _ ([askT].map askCells) rfl (sl_many (n := 1) (xs := [askT].map askCells) rfl (by intro c hc; obtain ⟨j, _, rfl⟩ := List.mem_map.1 hc; rfl) rfl rfl (by decide)) (by intro c hc; obtain ⟨r, _, rfl⟩ := List.mem_map.1 hc; exact askCells_one r) (by simp; omega) (by decide) (by simp; omega) (by simp) ?_
              intro v5 w5 ho5 _ hb5
              rw [← List.map_append] at ho5
              obtain ⟨ml, hml⟩ : ∃ ml, ml = al ++ [askT] := ⟨_, rfl⟩
              rw [← hml] at ho5 HML
              have hmll : ml.length ≤ 41 := by rw [hml]; simp; omega
              have HMK := Lib.hid (show ∀ x ∈ ml, x.ok from fun x hx => by
                rw [hml] at hx
                rcases List.mem_append.1 hx with g | g
                · exact HOK.out x g
                · simp at g; subst g; exact askT_ok)
              have HM0 := Lib.hid (show pasks ml = addT (pasks al) by rw [hml]; exact pasks_more al)
              have HST := Lib.hid (fun (i n : Nat) (hi : pl[i]? = some n) => more_step HOK.out HOP.out hi)
              rw [← hml] at HST
              clear hml
              obtain ⟨a5, c5, rfl⟩ := ho5.shape
              rw [List.length_map] at ho5 ⊢
              have HM := Lib.hid ho5.sl
              have um := ho5.sl.lens.2.1
              have vm := ho5.sl.lens.2.2
              have HB5 := Lib.hid ((HB4.out.alloc hz4 (.cells #[.int .i64 1, .int .i64 1, .bool false, .int .u64 0, .int .u64 0, .int .i64 0, .bool false, .int .u64 0, .int .u64 0, .int .i64 0, .int .i64 0, .bool false, .int .u64 0, .int .u64 0] 79)).trans (hb5.mono (Nat.le_refl _)))
              replace HA := Lib.hid (HA.out.below HB5.out)
              replace HP := Lib.hid (HP.out.below HB5.out)
              replace HW := Lib.hid (HW.out.trans (HB5.out.mono HW.out.size))
              clear ho5 hb5 HB4 HO4 hz4 HB5
              obtain ⟨V, hV⟩ : ∃ V : World, V = w5 := ⟨_, rfl⟩
              subst hV
              go_wp2_with fail
              go_loopw [14, 15] (fun kv i wr => ∃ m : Nat, m ≤ al.length ∧ i = .int .i64 m ∧ kv = .int .i64 ((4 * looksN (al.take m) 1 : Nat) : Int) ∧ Hid (Below V.heap.size V wr)) (fun _ i _ => al.length - (intOf i).toNat)
              case atStart => exact ⟨0, Nat.zero_le _, rfl, rfl, Below.refl _ _⟩
              case round =>
                obtain ⟨m, hm, rfl, rfl, HB⟩ := hrel
                by_cases hlt : m < al.length
                · obtain ⟨x, hx⟩ : ∃ x, al[m]? = some x := ⟨_, List.getElem?_eq_getElem hlt⟩
                  obtain ⟨b, off, rfl, hb, e0, e1, e2, e3, e4, e5, e6, e7, e8, e9, e10, e11, e12, e13⟩ := Sl.ask HA.out HB.out hx
                  have hT : al.take (m + 1) = al.take m ++ [x] := by rw [List.take_add_one, hx]; rfl
                  have hwl := (pasks_len (al.take m)).1 1
                  rw [List.length_take] at hwl
                  have hws := looks_snoc (al.take m) x 1
                  rw [← hT] at hws
                  have hwl2 : looksN (al.take m) 1 ≤ 40 := by unfold looksN; omega
                  clear hx hT e2 e3 e4 e5 e6 e7 e8 e9 e10 e11 e12 e13 hwl
                  by_cases hr : x.rd = true
                  · have ek : askKind x = 1 := by unfold askKind; rw [if_pos hr]
                    rw [ek] at e0
                    by_cases hx1 : x.n = 1
                    · rw [if_pos ⟨hr, hx1.symm⟩] at hws
                      rw [hx1] at e1
                      have HWS := Lib.hid hws
                      clear hr ek hws hx1
                      generalize looksN (al.take m) 1 = q at *
                      go_wp2_with fail
                      go_roundw
                      case rel => exact ⟨m + 1, by omega, by go_num, by rw [HWS.out]; go_num, HB⟩
                      case measure => simp [intOf]; omega
                    · rw [if_neg (fun g => hx1 g.2.symm)] at hws
                      have hne : ((x.n : Int) == 1) = false := by rw [beq_eq_false_iff_ne]; omega
                      have HWS := Lib.hid hws
                      clear hr ek hws hx1
                      generalize looksN (al.take m) 1 = q at *
                      go_wp2_with fail
                      go_roundw
                      case rel => exact ⟨m + 1, by omega, by go_num, by rw [HWS.out], HB⟩
                      case measure => simp [intOf]; omega
                  · have ek : askKind x = 2 := by unfold askKind; rw [if_neg hr]
                    rw [ek] at e0
                    rw [if_neg (fun g => hr g.1)] at hws
                    have HWS := Lib.hid hws
                    clear hr ek hws
                    generalize looksN (al.take m) 1 = q at *
                    go_wp2_with fail
                    go_roundw
                    case rel => exact ⟨m + 1, by omega, by go_num, by rw [HWS.out], HB⟩
                    case measure => simp [intOf]; omega
                · obtain rfl : m = al.length := by omega
                  have e1 : al.take al.length = al := List.take_of_length_le (Nat.le_refl _)
                  rw [e1]
                  have hwl : looksN al 1 ≤ 40 := by have := (pasks_len al).1 1; unfold looksN; omega
                  have HR0 := Lib.hid (show remR (pasks al) = 4 * looksN al 1 by unfold remR looksN; rw [(pasks_ok HOK.out).2.2.2.1 1]; rfl)
                  generalize looksN al 1 = q0 at *
                  replace HP := Lib.hid (HP.out.below HB.out)
                  replace HM := Lib.hid (HM.out.below HB.out)
                  replace HW := Lib.hid (HW.out.trans (HB.out.mono HW.out.size))
                  clear e1 HB HA
                  obtain ⟨U, hU⟩ : ∃ U : World, U = wr := ⟨_, rfl⟩
                  subst hU
                  go_wp2_with fail
                  go_loopw [14, 16, 17] (fun kv v i wr => ∃ m : Nat, m ≤ pl.length ∧ i = .int .i64 m ∧ kv = .int .i64 (remR (prun (pasks al) (pl.take m)) : Nat) ∧ (∃ q : List Nat, Hid (prun (pasks ml) q = addT (prun (pasks al) (pl.take m))) ∧ Hid (∀ x ∈ q, x ≤ 4) ∧ Hid (q.length ≤ m) ∧ Hid (remR (prun (pasks al) (pl.take m)) ≤ 160) ∧ Hid (Wk.Own wr U.heap.size 3 1 v (q.map pickCells))) ∧ Hid (Below U.heap.size U wr)) (fun _ _ i _ => pl.length - (intOf i).toNat)
                  case atStart => exact ⟨0, Nat.zero_le _, rfl, by rw [List.take_zero]; show _ = Value.int .i64 ((remR (pasks al) : Nat) : Int); rw [HR0.out], ⟨[], by rw [List.take_zero]; exact HM0, fun _ h => (by cases h), Nat.zero_le _, by rw [List.take_zero]; show remR (pasks al) ≤ 160; rw [HR0.out]; omega, Wk.Own.nil _ _ _ _⟩, Below.refl _ _⟩
                  case round =>
                    obtain ⟨m, hm, rfl, rfl, ⟨q, HQ, HQ4, HQL, HR, HO⟩, HB⟩ := hrel
                    have hzr := HB.out.size
                    by_cases hlt : m < pl.length
                    · obtain ⟨n, hn⟩ : ∃ n, pl[m]? = some n := ⟨_, List.getElem?_eq_getElem hlt⟩
                      obtain ⟨b, off, rfl, hb, e0⟩ := Sl.pick HP.out HB.out hn
                      obtain ⟨s1, s2⟩ := HST.out _ _ hn
                      have hn4 := HOP.out n (List.mem_of_getElem? hn)
                      have hr160 := HR.out
                      have hq100 := HQL.out
                      obtain ⟨r, hr⟩ : ∃ r, r = remR (prun (pasks al) (pl.take m)) := ⟨_, rfl⟩
                      rw [← hr] at s1 s2 hr160 ⊢
                      have HRR := Lib.hid hr
                      clear hn HR hr
                      by_cases hskip : n = 1 ∧ r = 0
                      · have HS1 := Lib.hid (s1 hskip)
                        obtain ⟨rfl, rfl⟩ := hskip
                        have e0' : wr.cell? ⟨b, off + m, none⟩ = some (.int .i64 1) := e0
                        clear s1 s2 e0
                        go_wp2_with fail
                        go_roundw
                        case rel => exact ⟨m + 1, by omega, by go_num, by rw [HS1.out, ← HRR.out], ⟨q, by rw [HS1.out]; exact HQ, HQ4, Lib.hid (by have := HQL.out; omega), by rw [HS1.out, ← HRR.out]; exact Nat.zero_le _, HO⟩, HB⟩
                        case measure => simp [intOf]; omega
                      · obtain ⟨s3, s4⟩ := s2 hskip
                        have HQ2 := Lib.hid (s3 q HQ.out)
                        have HQ42 := Lib.hid (show ∀ x ∈ q ++ [n], x ≤ 4 from fun x hx => by
                          rcases List.mem_append.1 hx with g | g
                          · exact HQ4.out x g
                          · simp at g; subst g; exact hn4)
                        have HQL2 := Lib.hid (show (q ++ [n]).length ≤ m + 1 by have := HQL.out; simp; omega)
                        by_cases h1 : n = 1
                        · subst h1
                          rw [if_pos rfl] at s4
                          obtain ⟨r, rfl⟩ : ∃ r', r = r' + 1 := ⟨r - 1, by omega⟩
                          rw [Nat.add_sub_cancel] at s4
                          have HS4 := Lib.hid s4
                          have e0' : wr.cell? ⟨b, off + m, none⟩ = some (.int .i64 1) := e0
                          have hz1 : ((r : Int) + 1 == 0) = false := by rw [beq_eq_false_iff_ne]; omega
                          clear s1 s2 s3 s4 e0 hskip HST
                          have HO2 := Lib.hid (HO.out.below ((Below.refl _ _).alloc (Nat.le_refl _) (.cells #[.int .i64 1] 3)))
                          go_wp2_with (at_builtin; refine wpList_append_rows rfl _ _ 57 3 1 8 _ rfl eiPick U.heap.size _ (q.map pickCells) rfl HO2.out _ [pickCells 1] rfl (sl_new (c := pickCells 1) rfl rfl) (by intro c hc; simp at hc; subst hc; exact pickCells_one _) (by have := HQL.out; simp; omega) (by decide) (by simp; omega) (by simp) ?_; intro v' w5 hown' hgr hb5; go_frame)
                          have hown2 : Wk.Own w5 U.heap.size 3 1 v' ((q ++ [1]).map pickCells) := by rw [List.map_append]; exact hown'
                          have HO5 := Lib.hid hown2
                          have HB5 := Lib.hid ((HB.out.alloc hzr _).trans (hb5.mono (Nat.le_refl _)))
                          clear hown' hgr hb5 hown2 HO2
                          go_roundw
                          case rel => exact ⟨m + 1, by omega, by go_num, by rw [HS4.out], ⟨q ++ [1], HQ2, HQ42, HQL2, Lib.hid (by rw [HS4.out]; omega), HO5⟩, HB5⟩
                          case measure => simp [intOf]; omega
                        · rw [if_neg h1] at s4
                          have HS4 := Lib.hid s4
                          have hz1 : ((n : Int) == 1) = false := by rw [beq_eq_false_iff_ne]; omega
                          clear s1 s2 s3 s4 hskip h1 HST
                          have HO2 := Lib.hid (HO.out.below ((Below.refl _ _).alloc (Nat.le_refl _) (.cells #[.int .i64 n] 3)))
                          go_wp2_with (at_builtin; refine wpList_append_rows rfl _ _ 57 3 1 8 _ rfl eiPick U.heap.size _ (q.map pickCells) rfl HO2.out _ [pickCells n] rfl (sl_new (c := pickCells n) rfl rfl) (by intro c hc; simp at hc; subst hc; exact pickCells_one _) (by have := HQL.out; simp; omega) (by decide) (by simp; omega) (by simp) ?_; intro v' w5 hown' hgr hb5; go_frame)
                          have hown2 : Wk.Own w5 U.heap.size 3 1 v' ((q ++ [n]).map pickCells) := by rw [List.map_append]; exact hown'
                          have HO5 := Lib.hid hown2
                          have HB5 := Lib.hid ((HB.out.alloc hzr _).trans (hb5.mono (Nat.le_refl _)))
                          clear hown' hgr hb5 hown2 HO2
                          go_roundw
                          case rel => exact ⟨m + 1, by omega, by go_num, by rw [HS4.out], ⟨q ++ [n], HQ2, HQ42, HQL2, Lib.hid (by rw [HS4.out]; omega), HO5⟩, HB5⟩
                          case measure => simp [intOf]; omega
                    · obtain rfl : m = pl.length := by omega
                      have e1 : pl.take pl.length = pl := List.take_of_length_le (Nat.le_refl _)
                      rw [e1] at HQ
                      obtain ⟨x, hx, hxa⟩ := HML.out q HQ.out
                      obtain ⟨k2, hk2, hk3⟩ := getLast_at hx
                      have HK2 := Lib.hid hk2
                      have HK3 := Lib.hid hk3
                      have HXA := Lib.hid hxa
                      have hq100 : q.length ≤ 100 := by have := HQL.out; omega
                      generalize remR (prun (pasks al) (pl.take pl.length)) = r at *
                      clear hx hk2 hk3 hxa e1 HML HQ HST HR HQL HM0 HNS
                      go_wp2_with fail
                      go_loopw [16, 18] (fun v i wr => ∃ k : Nat, k ≤ 168 ∧ i = .int .i64 k ∧ Hid (Wk.Own wr U.heap.size 3 1 v ((q ++ List.replicate k 1).map pickCells)) ∧ Hid (Below U.heap.size U wr)) (fun _ i _ => 168 - (intOf i).toNat)
                      case atStart => exact ⟨0, Nat.zero_le _, rfl, Lib.hid (by rw [List.replicate_zero, List.append_nil]; exact HO.out), HB⟩
                      case round =>
                        clear HO HB
                        obtain ⟨k, hk, rfl, HO, HB⟩ := hrel
                        have hzr := HB.out.size
                        by_cases hlt : k < 168
                        · have HO2 := Lib.hid (HO.out.below ((Below.refl _ _).alloc (Nat.le_refl _) (.cells #[.int .i64 1] 3)))
                          have hlen : (q ++ List.replicate k 1).length ≤ 300 := by rw [List.length_append, List.length_replicate]; omega
                          have HLN := Lib.hid hlen
                          clear hlen
                          have HT := Lib.hid (show q ++ List.replicate (k + 1) 1 = (q ++ List.replicate k 1) ++ [1] by rw [List.append_assoc q, ← List.replicate_succ'])
                          generalize q ++ List.replicate k 1 = F at *
                          go_wp2_with (at_builtin; refine wpList_append_rows rfl _ _ 57 3 1 8 _ rfl eiPick U.heap.size _ (F.map pickCells) rfl HO2.out _ [pickCells 1] rfl (sl_new (c := pickCells 1) rfl rfl) (by intro c hc; simp at hc; subst hc; exact pickCells_one _) (by have := HLN.out; simp; omega) (by decide) (by simp; omega) (by simp) ?_; intro v' w5 hown' hgr hb5; go_frame)
                          have hown2 : Wk.Own w5 U.heap.size 3 1 v' ((q ++ List.replicate (k + 1) 1).map pickCells) := by rw [HT.out, List.map_append]; exact hown'
                          have HO5 := Lib.hid hown2
                          have HB5 := Lib.hid ((HB.out.alloc hzr _).trans (hb5.mono (Nat.le_refl _)))
                          clear hown' hgr hb5 hown2 HO2
                          go_roundw
                          case rel => exact ⟨k + 1, by omega, by go_num, HO5, HB5⟩
                          case measure => simp [intOf]; omega
                        · obtain rfl : k = 168 := by omega
                          have HQL := Lib.hid (show (q ++ List.replicate 168 1).length ≤ 268 by rw [List.length_append, List.length_replicate]; omega)
                          have HQ5 := Lib.hid (show ∀ x ∈ q ++ List.replicate 168 1, x ≤ 4 from fun x hx => by
                            rcases List.mem_append.1 hx with g | g
                            · exact HQ4.out x g
                            · rw [(List.mem_replicate.1 g).2]; decide)
                          generalize q ++ List.replicate 168 1 = Q at *
                          have ho := HO.out
                          obtain ⟨qa, qc, rfl⟩ := ho.shape
                          rw [List.length_map] at ho ⊢
                          have HSQ := Lib.hid ho.sl
                          have uq := ho.sl.lens.2.1
                          have vq := ho.sl.lens.2.2
                          have HMr := Lib.hid (HM.out.below HB.out)
                          have HWr := Lib.hid (HW.out.trans (HB.out.mono HW.out.size))
                          clear ho HO
                          go_wp2_with fail
                          refine (paired_any a5 qa c5 qc ml Q wr HMr.out HSQ.out (by omega) (by have := HQL.out; omega) HMK.out HQ5.out).mono ?_
                          rintro e w6 ⟨v6, rfl, ho6, hb6⟩
                          obtain ⟨ta, tc, rfl⟩ := ho6.shape
                          rw [List.length_map, HK2.out] at ho6 ⊢
                          have u6 := ho6.sl.lens.2.1
                          have v6 := ho6.sl.lens.2.2
                          have HW6 := Lib.hid (HWr.out.trans (hb6.mono HWr.out.size))
                          obtain ⟨b, off, rfl, hb, _, _, c1⟩ := Sl.seen ho6.sl (Below.refl _ _) HK3.out
                          rw [HXA.out] at c1
                          have hk2 : k2 + 1 ≤ 300 := by
                            have h1 := ((pasks_ok HMK.out).1.run Q).se
                            have h2 := HQL.out
                            rw [HK2.out] at h1
                            omega
                          have ej2 : wrap64 ((k2 : Int) + 1 - 1) = (k2 : Int) := by rw [show (k2 : Int) + 1 - 1 = k2 by omega]; exact wrap64_in (by omega) (by omega)
                          clear ho6 hb6 HK2 HK3 HXA
                          go_wp2_with fail
                          go_returns
                          exact ⟨rfl, HW6.out⟩
end Go.Proofs.Yteadfobfenopkaa
