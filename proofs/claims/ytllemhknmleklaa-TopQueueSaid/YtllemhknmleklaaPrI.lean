
/- Contracts: Play and Freed of a pair. -/
import Derived.Test.YtllemhknmleklaaPrH
set_option linter.unusedVariables false
set_option linter.unusedSimpArgs false
namespace Go.Proofs.Ytllemhknmleklaa
open Go Go.RowKit Go.Sort Wc Wk

/-- What Play of a pair answers. -/
def RetPlays (w : World) (al : List AskD) (pl : List Nat) (e : Ending) (w' : World) : Prop :=
  ∃ v, e = .returned (.tuple #[v, .int .i64 (prun (pasks al) pl).wt.length, .int .i64 0]) ∧ Wk.Own w' w.heap.size 57 5 v ((prun (pasks al) pl).se.map seenCells) ∧ Below w.heap.size w w'

set_option maxRecDepth 100000 in
set_option maxHeartbeats 4000000 in
theorem pPlay_any (a pa : Option Addr) (cap pcap : Nat) (al : List AskD) (pl : List Nat) (w : World) (hs : Sl w 14 (.slice a al.length cap) (al.map askCells)) (hp : Sl w 1 (.slice pa pl.length pcap) (pl.map pickCells)) (hl : al.length ≤ 100) (hpl : pl.length ≤ 300) (hok : ∀ x ∈ al, AskD.ok x) (hpk : ∀ n ∈ pl, n ≤ 4) :
    Calls Try.prog 19 #[.slice a al.length cap, .slice pa pl.length pcap] w (RetPlays w al pl) := by
  have P := Lib.hid (pplay_any a pa cap pcap al pl w hs hp hl hpl hok hpk)
  clear hs hp hok hpk
  go_enter Try.func19, Try.ntmps19
  go_wp2_with fail
  refine P.out.mono ?_
  rintro e w1 ⟨B, rfl, ws, col, ptr, rv, wv, sv, hpi⟩
  have HP := Lib.hid hpi
  have c20 := hpi.pw.wt
  have c23 := hpi.pw.se
  have hlt := hpi.pw.lt
  obtain ⟨ta, tc, hwv, hlw1, hlw2⟩ := hpi.wsx.1.shape
  obtain ⟨sa, sc, hsv⟩ := hpi.seen.shape
  rw [List.length_map] at hwv hsv hlw1
  rw [hwv] at c20
  rw [hsv] at c23
  have HSV := Lib.hid hsv
  clear hpi hwv hsv
  go_upto_region 4 with fail
  go_quiet (fail)
  go_wp2_with fail
  go_returns
  refine ⟨_, rfl, ?_, ?_⟩
  · have := HP.out.seen
    rw [HSV.out] at this
    exact this
  · exact HP.out.bel.trans ⟨rfl, rfl, rfl, Nat.le_refl _, fun _ _ => rfl⟩

end Go.Proofs.Ytllemhknmleklaa
