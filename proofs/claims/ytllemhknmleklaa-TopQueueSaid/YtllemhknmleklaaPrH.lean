
/- Contract: a pair is played. -/
import Derived.Test.YtllemhknmleklaaPrG
set_option linter.unusedVariables false
set_option linter.unusedSimpArgs false
namespace Go.Proofs.Ytllemhknmleklaa
open Go Go.RowKit Go.Sort Wc Wk

theorem ask_any (w0 w : World) (B : Nat) (s : PSt) (col : Nat → Nat) (ptr : Nat → Nat) (rv : Nat → Value) (wv : Value) (h : PJ w0 w B s col ptr rv wv) (a : AskD) (ha : a.ok) (hr : (s.R a.n).todo.length ≤ 1000) (hw : s.wt.length ≤ 1000) :
    Calls Try.prog 95 #[.pointer (some ⟨B, 0, none⟩), .agg #[.int .i64 (askKind a), .int .i64 a.n, .bool false, .int .u64 (hiOf false a.ad), .int .u64 (loOf a.ad), .int .i64 a.act.kind, .bool false, .int .u64 (hiOf false a.act.n), .int .u64 (loOf a.act.n), .int .i64 a.act.k, .int .i64 a.act.hop, .bool false, .int .u64 (hiOf false a.act.a), .int .u64 (loOf a.act.a)]] w (askSays w0 w B s a ptr) := by
  obtain ⟨rd, n, ad, act⟩ := a
  rcases ha with ⟨h1, h2, h3, h4⟩ | ⟨h1, h2, h3, h4⟩
  · dsimp only at h1 h2 h3 h4 hr
    subst h1 h4
    exact ask_reader w0 w B n ad s col ptr rv wv h h2 h3 hr
  · dsimp only at h1 h2 h3 h4
    subst h1 h2 h3
    exact ask_writer w0 w B act s col ptr rv wv h h4 hw
theorem pask_len : ∀ (l : List AskD) (s : PSt) (K : Nat), (∀ n, (s.R n).todo.length ≤ K) → s.wt.length ≤ K → (∀ n, ((l.foldl pask s).R n).todo.length ≤ K + l.length) ∧ (l.foldl pask s).wt.length ≤ K + l.length
  | [], s, K, h1, h2 => ⟨h1, h2⟩
  | a :: l, s, K, h1, h2 => by
    have := pask_len l (pask s a) (K + 1) (fun n => ?_) ?_
    · rw [List.foldl_cons, List.length_cons]
      exact ⟨fun n => by have := this.1 n; omega, by have := this.2; omega⟩
    · unfold pask
      split
      · by_cases e : n = a.n
        · subst e
          show (up s.R a.n _ a.n).todo.length ≤ _
          rw [up_same]
          have := h1 a.n
          simp only [List.length_append, List.length_cons, List.length_nil]
          omega
        · show (up s.R a.n _ n).todo.length ≤ _
          rw [up_other _ _ e]
          have := h1 n
          omega
      · have := h1 n
        show (s.R n).todo.length ≤ _
        omega
    · unfold pask
      split
      · show s.wt.length ≤ _
        omega
      · show (s.wt ++ [_]).length ≤ _
        simp only [List.length_append, List.length_cons, List.length_nil]
        omega
theorem pasks_len (l : List AskD) : (∀ n, ((pasks l).R n).todo.length ≤ l.length) ∧ (pasks l).wt.length ≤ l.length := by
  have := pask_len l ⟨fun _ => [], fun _ => 0, 0, fun _ => 0, 0, fun _ => ⟨[], 0, 0⟩, [], 0, 0, []⟩ 0 (fun n => Nat.le_refl _) (Nat.le_refl _)
  rw [Nat.zero_add] at this
  exact this
theorem Sl.ask {w w' : World} {a : Option Addr} {n cap : Nat} {xs : List AskD} (hs : Sl w 14 (.slice a n cap) (xs.map askCells)) (hb : Below w.heap.size w w') {i : Nat} {r : AskD} (hr : xs[i]? = some r) :
    ∃ b off, a = some ⟨b, off, none⟩ ∧ b < w.heap.size ∧ w'.cell? ⟨b, off + i * 14, none⟩ = some (.int .i64 (askKind r)) ∧ w'.cell? ⟨b, off + i * 14 + 1, none⟩ = some (.int .i64 r.n) ∧ w'.cell? ⟨b, off + i * 14 + 2, none⟩ = some (.bool false) ∧ w'.cell? ⟨b, off + i * 14 + 3, none⟩ = some (.int .u64 (hiOf false r.ad)) ∧ w'.cell? ⟨b, off + i * 14 + 4, none⟩ = some (.int .u64 (loOf r.ad)) ∧ w'.cell? ⟨b, off + i * 14 + 5, none⟩ = some (.int .i64 r.act.kind) ∧ w'.cell? ⟨b, off + i * 14 + 6, none⟩ = some (.bool false) ∧ w'.cell? ⟨b, off + i * 14 + 7, none⟩ = some (.int .u64 (hiOf false r.act.n)) ∧ w'.cell? ⟨b, off + i * 14 + 8, none⟩ = some (.int .u64 (loOf r.act.n)) ∧ w'.cell? ⟨b, off + i * 14 + 9, none⟩ = some (.int .i64 r.act.k) ∧ w'.cell? ⟨b, off + i * 14 + 10, none⟩ = some (.int .i64 r.act.hop) ∧ w'.cell? ⟨b, off + i * 14 + 11, none⟩ = some (.bool false) ∧ w'.cell? ⟨b, off + i * 14 + 12, none⟩ = some (.int .u64 (hiOf false r.act.a)) ∧ w'.cell? ⟨b, off + i * 14 + 13, none⟩ = some (.int .u64 (loOf r.act.a)) := by
  obtain ⟨b, off, ha, hlt, hc⟩ := Sl.at hs (i := i) (c := askCells r) (by rw [List.getElem?_map, hr]; rfl)
  have g := fun j u (h : (askCells r)[j]? = some u) => (hb.cell (p := ⟨b, off + i * 14 + j, none⟩) hlt).trans (hc j u h)
  exact ⟨b, off, ha, hlt, g 0 _ rfl, g 1 _ rfl, g 2 _ rfl, g 3 _ rfl, g 4 _ rfl, g 5 _ rfl, g 6 _ rfl, g 7 _ rfl, g 8 _ rfl, g 9 _ rfl, g 10 _ rfl, g 11 _ rfl, g 12 _ rfl, g 13 _ rfl⟩
def pickCells (n : Nat) : List Value := [.int .i64 n]
theorem Sl.pick {w w' : World} {a : Option Addr} {n cap : Nat} {xs : List Nat} (hs : Sl w 1 (.slice a n cap) (xs.map pickCells)) (hb : Below w.heap.size w w') {i : Nat} {r : Nat} (hr : xs[i]? = some r) :
    ∃ b off, a = some ⟨b, off, none⟩ ∧ b < w.heap.size ∧ w'.cell? ⟨b, off + i, none⟩ = some (.int .i64 r) := by
  obtain ⟨b, off, ha, hlt, hc⟩ := Sl.at hs (i := i) (c := pickCells r) (by rw [List.getElem?_map, hr]; rfl)
  have g := fun j u (h : (pickCells r)[j]? = some u) => (hb.cell (p := ⟨b, off + i * 1 + j, none⟩) hlt).trans (hc j u h)
  refine ⟨b, off, ha, hlt, ?_⟩
  have := g 0 _ rfl
  rw [Nat.mul_one, Nat.add_zero] at this
  exact this
theorem PSt.ok.le {s : PSt} {K : Nat} (h : s.ok K) {K' : Nat} (hk : K ≤ K') : s.ok K' := by
  obtain ⟨d, rfl⟩ : ∃ d, K' = K + d := ⟨K' - K, by omega⟩
  clear hk
  induction d with
  | zero => exact h
  | succ d ih => exact ih.mono
def pcells (w : World) : Array Value := #[.pointer (some ⟨w.heap.size, 0, none⟩), .pointer (some ⟨w.heap.size + 1, 0, none⟩), .int .i64 0, .int .i64 0, .int .i64 0, .int .i64 0, .int .i64 0, .int .i64 0, .slice none 0 0, .int .i64 0, .int .i64 0, .slice none 0 0, .int .i64 0, .int .i64 0, .slice none 0 0, .int .i64 0, .int .i64 0, .slice none 0 0, .int .i64 0, .int .i64 0, .slice none 0 0, .int .i64 0, .int .i64 0, .slice none 0 0]
def ptwo (w : World) : World := (w.alloc (.cells #[.pointer none, .pointer none, .int .i64 0] 121)).alloc (.cells #[.pointer none, .pointer none, .int .i64 0] 121)
def pworld (w : World) : World := (ptwo w).alloc (.cells (pcells w) 139)
def pcol (w : World) (b : Nat) : Nat := if b = w.heap.size then 2 else if b = w.heap.size + 1 then 3 else if b = w.heap.size + 1 + 1 then 1 else 0
theorem pw_new (w W : World) (E : TypeId) (hW : W.heap.size = w.heap.size + 1 + 1) : PW (W.alloc (.cells (pcells w) E)) (w.heap.size + 1 + 1) (pasks []) (fun i => w.heap.size + i) (fun _ => .slice none 0 0) (.slice none 0 0) (.slice none 0 0) := by
  rw [← hW]
  have c : ∀ (o : Nat) (u : Value), (pcells w)[o]? = some u → (W.alloc (.cells (pcells w) E)).cell? ⟨W.heap.size, o, none⟩ = some u := fun o u h => by
    rw [World.cell?_alloc_new]
    exact h
  refine ⟨by simp, fun i hi => ?_, fun i hi => ?_, c _ _ rfl, fun i hi => ?_, c _ _ rfl, fun n hn => ?_, fun n hn => ?_, fun n hn => ?_, c _ _ rfl, c _ _ rfl, c _ _ rfl, c _ _ rfl, fun o _ => by simp⟩
  · match i, hi with
    | 0, _ => exact c _ _ rfl
    | 1, _ => exact c _ _ rfl
  · match i, hi with
    | 0, _ => exact c _ _ rfl
    | 1, _ => exact c _ _ rfl
  · match i, hi with
    | 0, _ => exact c _ _ rfl
    | 1, _ => exact c _ _ rfl
  · match n, hn with
    | 0, _ => exact c _ _ rfl
    | 1, _ => exact c _ _ rfl
    | 2, _ => exact c _ _ rfl
    | 3, _ => exact c _ _ rfl
  · match n, hn with
    | 0, _ => exact c _ _ rfl
    | 1, _ => exact c _ _ rfl
    | 2, _ => exact c _ _ rfl
    | 3, _ => exact c _ _ rfl
  · match n, hn with
    | 0, _ => exact c _ _ rfl
    | 1, _ => exact c _ _ rfl
    | 2, _ => exact c _ _ rfl
    | 3, _ => exact c _ _ rfl
theorem pj_new (w : World) : PJ w (pworld w) (w.heap.size + 1 + 1) (pasks []) (pcol w) (fun i => w.heap.size + i) (fun _ => .slice none 0 0) (.slice none 0 0) := by
  have z1 : (ptwo w).heap.size = w.heap.size + 1 + 1 := by unfold ptwo; simp
  have z2 : (pworld w).heap.size = w.heap.size + 1 + 1 + 1 := by unfold pworld; rw [World.size_alloc, z1]
  have hb1 : Below w.heap.size w (w.alloc (.cells #[.pointer none, .pointer none, .int .i64 0] 121)) := (Below.refl _ _).alloc (Nat.le_refl _) _
  have hb2 : Below w.heap.size w (ptwo w) := hb1.alloc (by simp) _
  have hb3 : Below w.heap.size w (pworld w) := hb2.alloc (by omega) _
  refine ⟨pw_new w (ptwo w) _ z1, hb3, fun b hb hc => ?_, ?_, fun i hi => ?_, fun n hn => Wk.Own.nil _ _ _ _, fun n hn k hk => by simp [Value.ownBlock] at hk, Wk.Own.nil _ _ _ _, fun k hk => by simp [Value.ownBlock] at hk⟩
  · unfold pcol at hc
    split at hc
    · omega
    · split at hc
      · omega
      · split at hc
        · omega
        · exact absurd rfl hc
  · unfold pcol
    rw [if_neg (by omega), if_neg (by omega), if_pos rfl]
  · match i, hi with
    | 0, _ =>
      have t0 := tab_new w 121
      have t1 := t0.below (w' := ptwo w) ((Below.refl _ _).alloc (Nat.le_refl _) _)
      have t2 := t1.below (w' := pworld w) ((Below.refl _ _).alloc (Nat.le_refl _) _)
      exact t2.weak (fun b hb => ⟨by omega, by unfold pcol; rw [if_pos hb]⟩)
    | 1, _ =>
      have t0 := tab_new (w.alloc (.cells #[.pointer none, .pointer none, .int .i64 0] 121)) 121
      have t2 := t0.below (w' := pworld w) ((Below.refl _ _).alloc (Nat.le_refl _) _)
      have e : (w.alloc (.cells #[.pointer none, .pointer none, .int .i64 0] 121)).heap.size = w.heap.size + 1 := by simp
      rw [e] at t2
      exact t2.weak (fun b hb => ⟨by omega, by unfold pcol; rw [if_neg (by omega), if_pos hb]⟩)
theorem pasks_se (l : List AskD) : (pasks l).se = [] := by
  have : ∀ (l : List AskD) (s : PSt), (l.foldl pask s).se = s.se := by
    intro l
    induction l with
    | nil => intro s; rfl
    | cons a l ih =>
      intro s
      rw [List.foldl_cons, ih]
      unfold pask
      split <;> rfl
  exact this l _
def Asked (w wr : World) (B : Nat) (s : PSt) (ptr : Nat → Nat) : Prop := ∃ col rv wv, PJ w wr B s col ptr rv wv
def Picking (w wr : World) (B : Nat) (s : PSt) (ptr : Nat → Nat) : Prop := ∃ ws col rv wv sv, PI w ws wr B s col ptr rv wv sv
theorem Asked.below {w wr w' : World} {B : Nat} {s : PSt} {ptr : Nat → Nat} (h : Asked w wr B s ptr) (hb : Below wr.heap.size wr w') : Asked w w' B s ptr := by
  obtain ⟨c, r, v, h⟩ := h
  exact ⟨_, r, v, h.below hb⟩
theorem Asked.begin {w wr : World} {B : Nat} {l : List AskD} {ptr : Nat → Nat} (h : Asked w wr B (pasks l) ptr) (hok : ∀ a ∈ l, a.ok) : Picking w wr B (pasks l) ptr := by
  obtain ⟨c, r, v, h⟩ := h
  exact ⟨_, _, r, v, _, h.begin (pasks_ok hok).2.1 (pasks_se l)⟩
def RetPair (w : World) (al : List AskD) (pl : List Nat) (e : Ending) (w' : World) : Prop :=
  ∃ B, e = .returned (.tuple #[.pointer (some ⟨B, 0, none⟩), .int .i64 0]) ∧ ∃ ws col ptr rv wv sv, PI w ws w' B (prun (pasks al) pl) col ptr rv wv sv

set_option maxRecDepth 100000 in
set_option maxHeartbeats 4000000 in
theorem pplay_any (a pa : Option Addr) (cap pcap : Nat) (al : List AskD) (pl : List Nat) (w : World) (hs : Sl w 14 (.slice a al.length cap) (al.map askCells)) (hp : Sl w 1 (.slice pa pl.length pcap) (pl.map pickCells)) (hl : al.length ≤ 100) (hpl : pl.length ≤ 300) (hok : ∀ x ∈ al, AskD.ok x) (hpk : ∀ n ∈ pl, n ≤ 4) :
    Calls Try.prog 50 #[.slice a al.length cap, .slice pa pl.length pcap] w (RetPair w al pl) := by
  have HS := Lib.hid hs
  have HS2 := Lib.hid hp
  have HK := Lib.hid hok
  have HK2 := Lib.hid hpk
  have d1 : decide ((100 : Int) < al.length) = false := by simp; omega
  have d2 : decide ((300 : Int) < pl.length) = false := by simp; omega
  have hlw1 := hs.lens.2.1
  have hlw2 := hs.lens.2.2
  have hlp1 := hp.lens.2.1
  have hlp2 := hp.lens.2.2
  clear hs hp hok hpk
  go_enter Try.func50, Try.ntmps50
  go_upto_region 3 with fail
  go_upto_region 4 with fail
  have HP0 := Lib.hid (show Asked w (pworld w) (w.heap.size + 1 + 1) (pasks []) (fun i => w.heap.size + i) from ⟨_, _, _, pj_new w⟩)
  change Code.wp _ _ _ _ (pworld w)
  generalize pworld w = W at *
  obtain ⟨B, hB⟩ : ∃ B, B = w.heap.size + 1 + 1 := ⟨_, rfl⟩
  rw [← hB] at HP0 ⊢
  clear hB
  generalize (fun i => w.heap.size + i) = ptr at HP0
  go_wp2_with fail
  go_loopw [32] (fun i wr => ∃ (m : Nat), m ≤ al.length ∧ i = .int .i64 m ∧ Hid (Asked w wr B (pasks (al.take m)) ptr)) (fun i _ => al.length - (intOf i).toNat)
  case atStart => exact ⟨0, Nat.zero_le _, rfl, HP0⟩
  case round =>
    obtain ⟨m, hm, rfl, HP⟩ := hrel
    by_cases hlt : m < al.length
    · obtain ⟨x, hx⟩ : ∃ x, al[m]? = some x := ⟨_, List.getElem?_eq_getElem hlt⟩
      obtain ⟨b, off, rfl, hb, e0, e1, e2, e3, e4, e5, e6, e7, e8, e9, e10, e11, e12, e13⟩ := Sl.ask HS.out (by obtain ⟨c, r, v, h⟩ := HP.out; exact h.bel) hx
      have HX := Lib.hid (HK.out x (List.mem_of_getElem? hx))
      have HT := Lib.hid (show pasks (al.take (m + 1)) = pask (pasks (al.take m)) x by rw [List.take_add_one, hx]; exact pasks_snoc _ _)
      have HL := Lib.hid (pasks_len (al.take m))
      have HLm := Lib.hid (show (al.take m).length ≤ 100 by rw [List.length_take]; omega)
      clear hx
      go_wp2_with fail
      obtain ⟨c0, r0, v0, hpj⟩ := HP.out
      refine (ask_any w _ B _ _ ptr r0 v0 (hpj.below ((Below.refl _ _).alloc (Nat.le_refl _) (.cells (askCells x).toArray 47))) x HX.out (by have := HL.out.1 x.n; have := HLm.out; omega) (by have := HL.out.2; have := HLm.out; omega)).mono ?_
      rintro e w1 ⟨rfl, ⟨c1, r1, v1, hp1⟩, hz1⟩
      have HP1 : Hid (Asked w w1 B (pasks (al.take (m + 1))) ptr) := Lib.hid (by rw [HT.out]; exact ⟨c1, r1, v1, hp1⟩)
      clear hpj hp1 hz1
      go_wp2_with fail
      go_roundw
      case rel => exact ⟨m + 1, by omega, by go_num, HP1⟩
      case measure => simp [intOf]; omega
    · obtain rfl : m = al.length := by omega
      have e1 : al.take al.length = al := List.take_of_length_le (Nat.le_refl _)
      rw [e1] at HP
      clear e1
      go_wp2_with fail
      go_loopw [45] (fun i wr => ∃ (m : Nat), m ≤ pl.length ∧ i = .int .i64 m ∧ Hid (Asked w wr B (pasks al) ptr)) (fun i _ => pl.length - (intOf i).toNat)
      case atStart => exact ⟨0, Nat.zero_le _, rfl, HP⟩
      case round =>
        obtain ⟨m, hm, rfl, HP⟩ := hrel
        by_cases hlt : m < pl.length
        · obtain ⟨x, hx⟩ : ∃ x, pl[m]? = some x := ⟨_, List.getElem?_eq_getElem hlt⟩
          obtain ⟨b, off, rfl, hb, e0⟩ := Sl.pick HS2.out (by obtain ⟨c, r, v, h⟩ := HP.out; exact h.bel) hx
          have hx4 := HK2.out x (List.mem_of_getElem? hx)
          have d3 : decide ((x : Int) < 0) = false := decide_eq_false (by omega)
          have d4 : decide ((4 : Int) < x) = false := decide_eq_false (by omega)
          clear hx hx4
          go_wp2_with fail
          go_roundw
          case rel => exact ⟨m + 1, by omega, by go_num, HP⟩
          case measure => simp [intOf]; omega
        · have HPb := Lib.hid (HP.out.begin HK.out)
          go_wp2_with fail
          go_loopw [58] (fun i wr => ∃ (m : Nat), m ≤ pl.length ∧ i = .int .i64 m ∧ Hid (Picking w wr B (prun (pasks al) (pl.take m)) ptr)) (fun i _ => pl.length - (intOf i).toNat)
          case atStart => exact ⟨0, Nat.zero_le _, rfl, HPb⟩
          case round =>
            obtain ⟨m, hm, rfl, HP⟩ := hrel
            by_cases hlt : m < pl.length
            · obtain ⟨x, hx⟩ : ∃ x, pl[m]? = some x := ⟨_, List.getElem?_eq_getElem hlt⟩
              obtain ⟨b, off, rfl, hb, e0⟩ := Sl.pick HS2.out (by obtain ⟨ws, c, r, v, sv, h⟩ := HP.out; exact h.bel) hx
              have HX := Lib.hid (HK2.out x (List.mem_of_getElem? hx))
              have HT := Lib.hid (show prun (pasks al) (pl.take (m + 1)) = pstep (prun (pasks al) (pl.take m)) x by rw [List.take_add_one, hx]; exact prun_snoc _ _ _)
              have HO := Lib.hid (((pasks_ok HK.out).1.run (pl.take m)).le (K' := 1000) (by rw [List.length_take]; omega))
              clear hx
              go_wp2_with fail
              obtain ⟨ws, c0, r0, v0, s0, hpi⟩ := HP.out
              refine (pick_any w ws _ B x _ c0 ptr r0 v0 s0 hpi HO.out HX.out).mono ?_
              rintro e w1 ⟨rfl, ⟨c1, r1, v1, s1, hp1⟩, hz1⟩
              have HP1 : Hid (Picking w w1 B (prun (pasks al) (pl.take (m + 1))) ptr) := Lib.hid (by rw [HT.out]; exact ⟨ws, c1, r1, v1, s1, hp1⟩)
              clear hpi hp1 hz1
              go_wp2_with fail
              go_roundw
              case rel => exact ⟨m + 1, by omega, by go_num, HP1⟩
              case measure => simp [intOf]; omega
            · obtain rfl : m = pl.length := by omega
              have e1 : pl.take pl.length = pl := List.take_of_length_le (Nat.le_refl _)
              rw [e1] at HP
              clear e1
              go_wp2_with fail
              go_returns
              obtain ⟨ws, c, r, v, sv, hpi⟩ := HP.out
              exact ⟨B, rfl, ws, c, ptr, r, v, sv, hpi⟩
end Go.Proofs.Ytllemhknmleklaa
