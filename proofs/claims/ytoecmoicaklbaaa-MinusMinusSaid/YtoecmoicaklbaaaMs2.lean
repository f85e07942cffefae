
/- Contract: anyHas. -/
import Derived.Test.YtoecmoicaklbaaaMg4
import Derived.Test.YtoecmoicaklbaaaRg4
set_option linter.unusedVariables false
set_option linter.unusedSimpArgs false
namespace Go.Proofs.Ytoecmoicaklbaaa
open Go.RowKit Go.Sort Wc Wk

def hasB (six : Bool) (xs : List (Nat × Nat)) (c : Nat) : Bool := xs.any fun x => decide (cutN (wd six) c x.2 = x.1)
theorem cut_range {six : Bool} {n k a : Nat} (h : VP six n k) : cutN (wd six) a k = n ↔ n ≤ a ∧ a ≤ lastN (wd six) n k := by
  rw [has_iff h]
  have hm := (vp_iff.1 h).2.2
  have hp := Nat.one_le_two_pow (n := wd six - k)
  unfold lastN
  generalize 2 ^ (wd six - k) = p at *
  have e1 := Nat.div_add_mod a p
  have e2 := Nat.div_add_mod n p
  have e3 := Nat.mod_lt a (show 0 < p by omega)
  constructor
  · intro h
    rw [h] at e1
    generalize p * (n / p) = q at *
    omega
  · intro h
    obtain ⟨r, hr⟩ : ∃ r, r = a - n := ⟨_, rfl⟩
    have e4 : a = r + p * (n / p) := by omega
    rw [e4, Nat.add_mul_div_left _ _ (by omega), Nat.div_eq_of_lt (by omega), Nat.zero_add]
theorem hasB_iff {six : Bool} {xs : List (Nat × Nat)} {c : Nat} (hv : ∀ x ∈ xs, VP six x.1 x.2) : hasB six xs c = true ↔ InP six xs c := by
  simp only [hasB, List.any_eq_true, decide_eq_true_eq, InP]
  exact ⟨fun ⟨x, hx, h⟩ => ⟨x, hx, (cut_range (hv x hx)).1 h⟩, fun ⟨x, hx, h⟩ => ⟨x, hx, (cut_range (hv x hx)).2 h⟩⟩


set_option maxRecDepth 100000 in
set_option maxHeartbeats 2000000 in
theorem anyHas_any (six : Bool) (a : Option Addr) (cap : Nat) (l : List (Nat × Nat)) (c : Nat) (w : World) (hs : Sl w 4 (.slice a l.length cap) (l.map (pfC six))) (hlen : l.length ≤ 1048576) (hok : ∀ x ∈ l, VP six x.1 x.2) (hc : Fits six c) (ha : ∀ x, a = some x → x.block < w.heap.size) :
    Calls Try.prog 33 #[.slice a l.length cap, Value.agg #[.bool six, .int .u64 (hiOf six c), .int .u64 (loOf c)]] w fun e w' => e = .returned (.bool (hasB six l c)) ∧ Below w.heap.size w w' := by
  have H1 := Lib.hid hs
  have A1 := Lib.hid ha
  have HV := Lib.hid hok
  have HC := Lib.hid hc
  clear hs ha hok hc
  go_enter Try.func33, Try.ntmps33
  go_wp2_with fail
  obtain ⟨W0, hW0⟩ : ∃ W0, W0 = w.alloc (.cells #[.bool six, .int .u64 (hiOf six c), .int .u64 (loOf c)] 28) := ⟨_, rfl⟩
  have p0 : W0.cell? ⟨w.heap.size, 0, none⟩ = some (.bool six) := by rw [hW0]; simp
  have p1 : W0.cell? ⟨w.heap.size, 1, none⟩ = some (.int .u64 (hiOf six c)) := by rw [hW0]; simp
  have p2 : W0.cell? ⟨w.heap.size, 2, none⟩ = some (.int .u64 (loOf c)) := by rw [hW0]; simp
  have hw0 : w.heap.size < W0.heap.size := by rw [hW0]; simp
  have HB0 := Lib.hid (show Below w.heap.size w W0 by rw [hW0]; exact (Below.refl _ _).alloc (Nat.le_refl _) _)
  rw [← hW0]
  clear hW0
  go_loopw [5] (fun i wr => ∃ j : Nat, j ≤ l.length ∧ i = .int .i64 j ∧ Hid (hasB six (l.take j) c = false) ∧ Hid (Below W0.heap.size W0 wr)) (fun i _ => l.length - (intOf i).toNat)
  case atStart => exact ⟨0, Nat.zero_le _, rfl, rfl, Below.refl _ _⟩
  case round =>
    obtain ⟨k, hk, rfl, HN, HB1⟩ := hrel
    have HB := Lib.hid (HB0.out.trans (HB1.out.mono (by omega)))
    have hzr := HB.out.size
    have hz0 := HB1.out.size
    have p0' := (HB1.out.cell (p := ⟨w.heap.size, 0, none⟩) hw0).trans p0
    have p1' := (HB1.out.cell (p := ⟨w.heap.size, 1, none⟩) hw0).trans p1
    have p2' := (HB1.out.cell (p := ⟨w.heap.size, 2, none⟩) hw0).trans p2
    have hwr : w.heap.size < wr.heap.size := by omega
    clear p0 p1 p2
    by_cases hkt : k < l.length
    · obtain ⟨px, hx⟩ : ∃ s, l[k]? = some s := ⟨_, List.getElem?_eq_getElem hkt⟩
      obtain ⟨g, off, rfl, hg, hgw, d0, d1, d2, d3⟩ := Sl.pf H1.out HB.out A1.out hx
      have HA := Lib.hid (fun w => has_ok six px.1 px.2 c w (HV.out px (List.mem_of_getElem? hx)) HC.out)
      have HTK := Lib.hid (show hasB six (l.take (k + 1)) c = decide (cutN (wd six) c px.2 = px.1) by
        rw [List.take_add_one, hx]
        have := HN.out
        unfold hasB at this ⊢
        rw [List.any_append, this]
        simp)
      have HM := Lib.hid (List.mem_of_getElem? hx)
      clear hx
      go_wp2_with fail
      refine wp_region_qb (by kernel_rfl) (by kernel_rfl) (fun kq => ?_)
      repeat (first | go_big_quiet_step ((with_reducible exact Calls.regrown_of (HA.out _))) | quiet_step ((with_reducible exact Calls.regrown_of (HA.out _))))
      clear kq
      refine wpQuiet_nil ?_; intro w2 hb2; (repeat (with_reducible (replace hb2 := Below.undrew hb2))); obtain ⟨hc2, hf2⟩ := bcell hb2; have hz2 := hb2.size; (repeat (first | rw [World.size_alloc] at hz2 | rw [World.size_drew] at hz2 | rw [World.size_setCell] at hz2)); (try have : w.heap.size < w2.heap.size := by omega); (try have : w.heap.size < w2.heap.size + 1 := by omega); (try have : w.heap.size < w2.heap.size + 1 + 1 := by omega); (try have : w.heap.size < w2.heap.size + 1 + 1 + 1 := by omega); (try have : wr.heap.size < w2.heap.size := by omega); (try have : wr.heap.size < w2.heap.size + 1 := by omega); (try have : wr.heap.size < w2.heap.size + 1 + 1 := by omega); (try have : wr.heap.size < w2.heap.size + 1 + 1 + 1 := by omega)
      have HB2 := Lib.hid (HB1.out.trans (hb2.mono hz0))
      have HB3 := Lib.hid (HB.out.trans (hb2.mono hzr))
      clear hb2 hc2 hf2 d0 d1 d2 d3 p0' p1' p2' HA
      by_cases hh : cutN (wd six) c px.2 = px.1
      · rw [decide_eq_true hh]
        have HT : Hid (hasB six l c = true) := by
          show hasB six l c = true
          unfold hasB
          exact List.any_eq_true.2 ⟨px, HM.out, decide_eq_true hh⟩
        clear hh HTK
        go_wp2
        exact bodyPost_ret (v := .bool true) (by simp [results, Try.results33, go_sem]) rfl ⟨by rw [HT.out], HB3.out⟩
      · rw [decide_eq_false hh] at HTK ⊢
        clear hh
        go_wp2
        go_roundw
        case rel => exact ⟨k + 1, by omega, by go_num, HTK, HB2⟩
        case measure => simp [intOf]; omega
    · obtain rfl : k = l.length := by omega
      rw [List.take_length] at HN
      go_wp2_with fail
      exact bodyPost_ret (v := .bool false) (by simp [results, Try.results33, go_sem]) rfl ⟨by rw [HN.out], HB.out⟩
end Go.Proofs.Ytoecmoicaklbaaa

/- Plain laws for what is merged: neighbours, and how many. -/
set_option linter.unusedVariables false
set_option linter.unusedSimpArgs false
namespace Go.Proofs.Ytoecmoicaklbaaa
open Go.RowKit Go.Sort Wc Wk

/-- Neighbours in a list as plainList asks. -/
def Nei (six : Bool) (x y : Nat × Nat) : Prop := VP six x.1 x.2 ∧ VP six y.1 y.2 ∧ lastN (wd six) x.1 x.2 < y.1 ∧ (x.2 = y.2 → (comLen six x.1 x.2 y.1 y.2 : Int) ≠ (y.2 : Nat) - 1)
theorem nei_far {six : Bool} {x y : Nat × Nat} (hx : VP six x.1 x.2) (hy : VP six y.1 y.2) (h : lastN (wd six) x.1 x.2 + 1 < y.1) : Nei six x y := by
  refine ⟨hx, hy, by omega, fun he hc => ?_⟩
  have hle := comLen_le six x.1 x.2 y.1 y.2
  have hk : 1 ≤ x.2 := by omega
  have e : comLen six x.1 x.2 y.1 y.2 = x.2 - 1 := by omega
  have ha := com_alike (k := x.2) (k' := y.2) hx.1 hy.1 hx.2.1
  rw [e] at ha
  have hw := hx.2.1
  have m1 := (vp_iff.1 hx).2.2
  have m2 := (vp_iff.1 hy).2.2
  rw [← he] at m2
  have e2 : 2 ^ (wd six - (x.2 - 1)) = 2 ^ (wd six - x.2) * 2 := by rw [← Nat.pow_succ]; congr 1; omega
  rw [e2, ← Nat.div_div_eq_div_mul, ← Nat.div_div_eq_div_mul] at ha
  have hp := Nat.one_le_two_pow (n := wd six - x.2)
  have d1 := Nat.div_add_mod x.1 (2 ^ (wd six - x.2))
  have d2 := Nat.div_add_mod y.1 (2 ^ (wd six - x.2))
  unfold lastN at h
  have hlt : x.1 / 2 ^ (wd six - x.2) + 1 < y.1 / 2 ^ (wd six - x.2) := by
    refine Nat.lt_of_mul_lt_mul_left (a := 2 ^ (wd six - x.2)) ?_
    rw [Nat.mul_add]
    omega
  omega
theorem RunP.tail {six : Bool} {m : Nat} : ∀ {xs : List (Nat × Nat)} {n e : Nat} {x : Nat × Nat}, RunP six m n (xs ++ [x]) e → lastN (wd six) x.1 x.2 + 1 = e
  | [], n, e, x, h => by
    have h1 := h.1
    have h2 : n + 2 ^ (wd six - x.2) = e := h.2.2
    have := Nat.one_le_two_pow (n := wd six - x.2)
    unfold lastN; omega
  | y :: t, n, e, x, h => RunP.tail h.2.2
theorem InP.mem {six : Bool} {xs : List (Nat × Nat)} {x : Nat × Nat} (h : x ∈ xs) : InP six xs x.1 := ⟨x, h, Nat.le_refl _, by unfold lastN; omega⟩
theorem cut_nei {six : Bool} : ∀ {S xs : List (Nat × Nat)}, SepS S → (∀ s ∈ S, s.1 ≤ s.2) → CutR six S xs → ∀ i x y, xs[i]? = some x → xs[i + 1]? = some y → Nei six x y
  | [], xs, _, _, h, i, x, y, hx, _ => by have h1 : xs = [] := h; subst h1; simp at hx
  | s :: S, xs, hs, hg, h, i, x, y, hx, hy => by
    obtain ⟨p, q, rfl, hp, hq⟩ := h
    obtain ⟨a1, a2⟩ := List.pairwise_cons.1 hs
    by_cases h1 : i + 1 < p.length
    · rw [List.getElem?_append_left (by omega)] at hx hy
      obtain ⟨m1, m2, m3⟩ := hp.two hx hy
      obtain ⟨q1, q2⟩ := plain_pair m1 m2 m3
      exact ⟨m1.1, m2.1, q1, q2⟩
    · by_cases h2 : i < p.length
      · rw [List.getElem?_append_left h2] at hx
        rw [List.getElem?_append_right (by omega)] at hy
        have hyq := List.mem_of_getElem? hy
        have hxp := List.mem_of_getElem? hx
        have hl : lastN (wd six) x.1 x.2 + 1 = s.2 + 1 := by
          rcases List.eq_nil_or_concat p with rfl | ⟨p', z, rfl⟩
          · simp at h2
          · rw [List.concat_eq_append] at *
            have hz := hp.tail
            have : x = z := by
              rw [List.length_append, List.length_singleton] at h1 h2
              rw [List.getElem?_append_right (by omega)] at hx
              have e : i - p'.length = 0 := by omega
              rw [e] at hx
              simpa using hx.symm
            rw [this]; exact hz
        obtain ⟨t, ht, h3, h4⟩ := (hq.inP y.1).1 (InP.mem hyq)
        have := a1 t ht
        exact nei_far (hp.each x hxp) (hq.each y hyq) (by omega)
      · rw [List.getElem?_append_right (by omega)] at hx hy
        rw [show i + 1 - p.length = i - p.length + 1 by omega] at hy
        exact cut_nei a2 (fun s h => hg s (List.mem_cons_of_mem _ h)) hq _ x y hx hy

theorem mult_lt {a b d : Nat} (ha : a % d = 0) (hb : b % d = 0) (h : a < b) : a + d ≤ b := by
  obtain ⟨p, rfl⟩ := Nat.dvd_of_mod_eq_zero ha
  obtain ⟨q, rfl⟩ := Nat.dvd_of_mod_eq_zero hb
  have : p < q := Nat.lt_of_mul_lt_mul_left h
  have := Nat.mul_le_mul_left d (show p + 1 ≤ q from this)
  rw [Nat.mul_add] at this
  omega
theorem MaxP.least {six : Bool} {m n k k' : Nat} (h : MaxP six m n k) (hv : VP six n k') (hl : lastN (wd six) n k' ≤ m) : k ≤ k' := by
  refine Nat.le_of_not_lt fun hlt => ?_
  obtain ⟨h1, h2, h3⟩ := h
  rcases h3 with h3 | h3
  · omega
  · refine h3 ⟨?_, ?_⟩
    · obtain ⟨f1, f2, f3⟩ := vp_iff.1 hv
      refine vp_iff.2 ⟨f1, by have := (vp_iff.1 h1).2.1; omega, ?_⟩
      have e : 2 ^ (wd six - k') = 2 ^ (wd six - (k - 1)) * 2 ^ (k - 1 - k') := by rw [← Nat.pow_add]; congr 1; have := (vp_iff.1 h1).2.1; omega
      rw [e] at f3
      exact Nat.mod_eq_zero_of_dvd (Nat.dvd_trans (Nat.dvd_mul_right _ _) (Nat.dvd_of_mod_eq_zero f3))
    · unfold lastN at *
      have := pow_le (a := wd six - (k - 1)) (b := wd six - k') (by omega)
      omega
/-- A prefix within the range that has a part's first address lies in this part. -/
theorem RunP.holds {six : Bool} {m : Nat} {P : Nat × Nat} (hP : VP six P.1 P.2) (hl : lastN (wd six) P.1 P.2 ≤ m) : ∀ {xs : List (Nat × Nat)} {n e : Nat} {x : Nat × Nat}, RunP six m n xs e → x ∈ xs → n ≤ P.1 → P.1 ≤ x.1 → x.1 ≤ lastN (wd six) P.1 P.2 → x.1 ≤ P.1 ∧ lastN (wd six) P.1 P.2 ≤ lastN (wd six) x.1 x.2
  | [], n, e, x, h, hx, _, _, _ => by cases hx
  | y :: t, n, e, x, h, hx, hn, h1, h2 => by
    obtain ⟨e1, e2, e3⟩ := h
    have low : P.1 = n → lastN (wd six) P.1 P.2 ≤ lastN (wd six) n y.2 := fun hp => by
      have := e2.least (k' := P.2) (hp ▸ hP) (hp ▸ hl)
      have := pow_le (a := wd six - P.2) (b := wd six - y.2) (by omega)
      rw [hp]
      unfold lastN; omega
    rcases List.mem_cons.1 hx with rfl | hx
    · have hp : P.1 = n := by omega
      exact ⟨by omega, by rw [e1]; exact low hp⟩
    · have hx1 : n + 2 ^ (wd six - y.2) ≤ x.1 := ((e3.inP x.1).1 (InP.mem hx)).1
      have hy := Nat.one_le_two_pow (n := wd six - y.2)
      refine RunP.holds hP hl e3 hx (Nat.le_of_not_lt fun hlt => ?_) h1 h2
      obtain ⟨f1, f2, f3⟩ := vp_iff.1 hP
      obtain ⟨g1, g2, g3⟩ := vp_iff.1 e2.1
      have hge : n + 2 ^ (wd six - y.2) ≤ lastN (wd six) P.1 P.2 := by omega
      by_cases hk : y.2 ≤ P.2
      · have ed : 2 ^ (wd six - y.2) = 2 ^ (wd six - P.2) * 2 ^ (P.2 - y.2) := by rw [← Nat.pow_add]; congr 1; omega
        have d1 : 2 ^ (wd six - P.2) ∣ 2 ^ (wd six - y.2) := by rw [ed]; exact Nat.dvd_mul_right _ _
        have d2 : (n + 2 ^ (wd six - y.2)) % 2 ^ (wd six - P.2) = 0 := Nat.mod_eq_zero_of_dvd (Nat.dvd_add (Nat.dvd_trans d1 (Nat.dvd_of_mod_eq_zero g3)) d1)
        have := mult_lt f3 d2 hlt
        have := Nat.one_le_two_pow (n := wd six - P.2)
        unfold lastN at hge
        omega
      · have ed : 2 ^ (wd six - P.2) = 2 ^ (wd six - y.2) * 2 ^ (y.2 - P.2) := by rw [← Nat.pow_add]; congr 1; omega
        have d2 : P.1 % 2 ^ (wd six - y.2) = 0 := Nat.mod_eq_zero_of_dvd (Nat.dvd_trans (by rw [ed]; exact Nat.dvd_mul_right _ _) (Nat.dvd_of_mod_eq_zero f3))
        have hp : P.1 = n := by
          refine Nat.le_antisymm (Nat.le_of_not_lt fun h => ?_) hn
          have := mult_lt g3 d2 h
          omega
        have := low hp
        unfold lastN at this hge
        omega
theorem SepS.two {S : List (Nat × Nat)} (h : SepS S) {s t : Nat × Nat} (hs : s ∈ S) (ht : t ∈ S) : s = t ∨ s.2 + 1 < t.1 ∨ t.2 + 1 < s.1 := by
  induction S with
  | nil => cases hs
  | cons a S ih =>
    obtain ⟨a1, a2⟩ := List.pairwise_cons.1 h
    rcases List.mem_cons.1 hs with e | hs'
    · rcases List.mem_cons.1 ht with e' | ht'
      · exact .inl (e.trans e'.symm)
      · exact .inr (.inl (e ▸ a1 t ht'))
    · rcases List.mem_cons.1 ht with e' | ht'
      · exact .inr (.inr (e' ▸ a1 s hs'))
      · exact ih a2 hs' ht'
theorem CutR.part {six : Bool} : ∀ {S xs : List (Nat × Nat)} {x : Nat × Nat}, CutR six S xs → x ∈ xs → ∃ s p, s ∈ S ∧ RunP six s.2 s.1 p (s.2 + 1) ∧ x ∈ p
  | [], xs, x, h, hx => by have h1 : xs = [] := h; subst h1; cases hx
  | s :: S, xs, x, h, hx => by
    obtain ⟨p, q, rfl, hp, hq⟩ := h
    rcases List.mem_append.1 hx with hx | hx
    · exact ⟨s, p, by simp, hp, hx⟩
    · obtain ⟨t, p', h1, h2, h3⟩ := CutR.part hq hx
      exact ⟨t, p', List.mem_cons_of_mem _ h1, h2, h3⟩
theorem cut_holds {six : Bool} {S xs ps : List (Nat × Nat)} (hS : SepS S) (hv : ∀ P ∈ ps, VP six P.1 P.2) (hc : CutR six S xs) (hin : ∀ a, InS S a ↔ InP six ps a) {x : Nat × Nat} (hx : x ∈ xs) :
    ∃ P ∈ ps, x.1 ≤ P.1 ∧ lastN (wd six) P.1 P.2 ≤ lastN (wd six) x.1 x.2 := by
  obtain ⟨s, p, hs, hp, hxp⟩ := hc.part hx
  have hxs := (hp.inP x.1).1 (InP.mem hxp)
  obtain ⟨P, hP, h1, h2⟩ := (hin x.1).1 ⟨s, hs, hxs.1, by omega⟩
  have lo : s.1 ≤ P.1 := Nat.le_of_not_lt fun hlt => by
    obtain ⟨t, ht, h3, h4⟩ := (hin (s.1 - 1)).2 ⟨P, hP, by omega, by omega⟩
    rcases hS.two hs ht with rfl | h | h <;> omega
  have hi : lastN (wd six) P.1 P.2 ≤ s.2 := Nat.le_of_not_lt fun hlt => by
    obtain ⟨t, ht, h3, h4⟩ := (hin (s.2 + 1)).2 ⟨P, hP, by omega, by omega⟩
    rcases hS.two hs ht with rfl | h | h <;> omega
  exact ⟨P, hP, hp.holds (hv P hP) hi hxp lo h1 h2⟩
theorem RunP.apart {six : Bool} {m : Nat} : ∀ {xs : List (Nat × Nat)} {n e : Nat}, RunP six m n xs e → xs.Pairwise (fun x y => lastN (wd six) x.1 x.2 < y.1)
  | [], _, _, _ => List.Pairwise.nil
  | x :: t, n, e, h => by
    refine List.pairwise_cons.2 ⟨fun y hy => ?_, RunP.apart h.2.2⟩
    have := ((h.2.2.inP y.1).1 (InP.mem hy)).1
    have := h.1
    have := Nat.one_le_two_pow (n := wd six - x.2)
    unfold lastN; omega
theorem InP.last {six : Bool} {xs : List (Nat × Nat)} {x : Nat × Nat} (h : x ∈ xs) : InP six xs (lastN (wd six) x.1 x.2) := ⟨x, h, by unfold lastN; omega, Nat.le_refl _⟩
theorem CutR.apart {six : Bool} : ∀ {S xs : List (Nat × Nat)}, SepS S → CutR six S xs → xs.Pairwise (fun x y => lastN (wd six) x.1 x.2 < y.1)
  | [], xs, _, h => by have h1 : xs = [] := h; subst h1; exact List.Pairwise.nil
  | s :: S, xs, hs, h => by
    obtain ⟨p, q, rfl, hp, hq⟩ := h
    obtain ⟨a1, a2⟩ := List.pairwise_cons.1 hs
    refine List.pairwise_append.2 ⟨hp.apart, CutR.apart a2 hq, fun x hx y hy => ?_⟩
    have h1 := ((hp.inP _).1 (InP.last hx)).2
    obtain ⟨t, ht, h3, h4⟩ := (hq.inP y.1).1 (InP.mem hy)
    have := a1 t ht
    omega
theorem few_of : ∀ {six : Bool} {xs ps : List (Nat × Nat)}, xs.Pairwise (fun x y => lastN (wd six) x.1 x.2 < y.1) → (∀ x ∈ xs, ∃ P ∈ ps, x.1 ≤ P.1 ∧ lastN (wd six) P.1 P.2 ≤ lastN (wd six) x.1 x.2) → xs.length ≤ ps.length
  | six, [], ps, _, _ => Nat.zero_le _
  | six, x :: t, ps, h1, h2 => by
    obtain ⟨a1, a2⟩ := List.pairwise_cons.1 h1
    obtain ⟨P, hP, h3, h4⟩ := h2 x (by simp)
    have := few_of (ps := ps.erase P) a2 (fun y hy => by
      obtain ⟨R, hR, h5, h6⟩ := h2 y (List.mem_cons_of_mem _ hy)
      refine ⟨R, (List.mem_erase_of_ne (fun e => ?_)).2 hR, h5, h6⟩
      subst e
      have := a1 y hy
      have : R.1 ≤ lastN (wd six) R.1 R.2 := by unfold lastN; omega
      omega)
    rw [List.length_erase_of_mem hP] at this
    have := List.length_pos_of_mem hP
    simp only [List.length_cons]; omega
theorem sum_le {K : Nat} : ∀ {S : List (Nat × Nat)}, (∀ s ∈ S, s.2 + 1 - s.1 ≤ K) → sumS S ≤ S.length * K
  | [], _ => Nat.zero_le _
  | s :: S, h => by
    have h1 := h s (by simp)
    have h2 := sum_le (fun t ht => h t (List.mem_cons_of_mem _ ht))
    simp only [sumS, List.map_cons, List.sum_cons, List.length_cons, Nat.add_mul, Nat.one_mul] at h2 ⊢
    omega
end Go.Proofs.Ytoecmoicaklbaaa
