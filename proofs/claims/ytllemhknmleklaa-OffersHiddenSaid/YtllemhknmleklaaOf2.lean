
/- Contracts: cmp.Or at ints; offers.better. -/
import Derived.Test.YtllemhknmleklaaOf1
set_option linter.unusedVariables false
set_option linter.unusedSimpArgs false
namespace Go.Proofs.Ytllemhknmleklaa
open Go.RowKit Go.Sort Wc Wk

def orL : List Int → Int
  | [] => 0
  | x :: r => if x = 0 then orL r else x
set_option maxHeartbeats 1000000 in
theorem or_any (b off cap n : Nat) (L : List Int) (w : World) (hn : n = L.length) (h60 : n ≤ 60) (hc : ∀ j x, L[j]? = some x → w.cell? ⟨b, off + j, none⟩ = some (.int .i64 x)) :
    Calls Try.prog 149 #[.slice (some ⟨b, off, none⟩) n cap] w fun e w' => e = .returned (.int .i64 (orL L)) ∧ w = w' := by
  have HC := Lib.hid hc
  have HN := Lib.hid hn
  generalize hR : orL L = R
  have HR := Lib.hid hR
  clear hc hn hR
  go_enter Try.func149, Try.ntmps149
  go_wp2_with fail
  go_loopw [8] (fun i wr => ∃ j : Nat, j ≤ n ∧ i = .int .i64 j ∧ Hid (orL (L.drop j) = R) ∧ wr = w) (fun i _ => n - (intOf i).toNat)
  case atStart => exact ⟨0, Nat.zero_le _, rfl, HR, rfl⟩
  case round =>
    obtain ⟨j, hj, rfl, HD, rfl⟩ := hrel
    by_cases hlt : j < n
    · obtain ⟨x, hx⟩ : ∃ x, L[j]? = some x := ⟨_, List.getElem?_eq_getElem (by have := HN.out; omega)⟩
      have c0 := HC.out j x hx
      have hd : L.drop j = x :: L.drop (j + 1) := by
        obtain ⟨h1, h2⟩ := List.getElem?_eq_some_iff.1 hx
        rw [List.drop_eq_getElem_cons h1, h2]
      by_cases h0 : x = 0
      · subst h0
        have HD2 : Hid (orL (L.drop (j + 1)) = R) := by
          have := HD.out
          rw [hd] at this
          unfold orL at this
          rw [if_pos rfl] at this
          exact this
        clear hd hx HD
        go_wp2
        go_roundw
        case rel => exact ⟨j + 1, by omega, by go_num, HD2, trivial⟩
        case measure => simp [intOf]; omega
      · have HD2 : Hid (x = R) := by
          have := HD.out
          rw [hd] at this
          unfold orL at this
          rw [if_neg h0] at this
          exact this
        have hne : (x == 0) = false := by rw [beq_eq_false_iff_ne]; exact h0
        clear hd hx HD
        go_wp2
        go_returns
        have e := HD2.out
        subst e
        exact ⟨rfl, rfl⟩
    · obtain rfl : j = n := by omega
      have HD2 : Hid (0 = R) := by
        have := HD.out
        rw [HN.out, List.drop_length] at this
        exact this
      clear HD
      go_wp2
      go_returns
      have e := HD2.out
      subst e
      exact ⟨rfl, rfl⟩

end Go.Proofs.Ytllemhknmleklaa
