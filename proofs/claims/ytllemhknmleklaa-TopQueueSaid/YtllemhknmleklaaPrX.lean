
/- PairIdle: the plain law. -/
import Derived.Test.YtllemhknmleklaaPrW
set_option linter.unusedVariables false
namespace Go.Proofs.Ytllemhknmleklaa
open Go Go.RowKit Wc

theorem rstep_idle {s : PSt} {n : Nat} (h : (s.R n).todo = []) : rstep s n = s := by unfold rstep; rw [h]
theorem rstep_R {s : PSt} {n m : Nat} (h : m ≠ n) : (rstep s n).R m = s.R m := by
  unfold rstep
  split
  · rfl
  · split
    · exact up_other _ _ h
    · split
      · exact up_other _ _ h
      · split
        · exact up_other _ _ h
        · exact up_other _ _ h
theorem pstep_idle {s : PSt} {n : Nat} (h : (s.R n).todo = []) (m : Nat) : ((pstep s m).R n).todo = [] := by
  unfold pstep
  split
  · rw [(wstep_R s).1]; exact h
  · by_cases e : n = m
    · subst e
      rw [rstep_idle h]; exact h
    · rw [rstep_R e]; exact h
theorem prun_idle {n : Nat} : ∀ (l : List Nat) (s : PSt), (s.R n).todo = [] → ((prun s l).R n).todo = []
  | [], _, h => h
  | m :: l, s, h => prun_idle l (pstep s m) (pstep_idle h m)
theorem pask_idle {n : Nat} : ∀ (l : List AskD) (s : PSt), (s.R n).todo = [] → (∀ a ∈ l, a.rd = false ∨ a.n ≠ n) → ((l.foldl pask s).R n).todo = []
  | [], _, h, _ => h
  | a :: l, s, h, hl => by
    refine pask_idle l (pask s a) ?_ (fun b hb => hl b (List.mem_cons_of_mem _ hb))
    unfold pask
    rcases hl a List.mem_cons_self with e | e
    · rw [if_neg (by rw [e]; decide)]; exact h
    · split
      · show (RdS.todo (up _ _ _ _)) = _
        rw [up_other _ _ (fun g => e g.symm)]
        exact h
      · exact h
/-- Steps of reader 3, who has nothing to do, are nothing. -/
theorem idle_law {al : List AskD} (hl : ∀ a ∈ al, a.rd = false ∨ a.n ≠ 3) (x y : List Nat) : prun (pasks al) (x ++ [3, 3, 3] ++ y) = prun (pasks al) (x ++ y) := by
  have h0 : ((pasks al).R 3).todo = [] := pask_idle al _ rfl hl
  rw [prun_app, prun_app, prun_app]
  have h1 := prun_idle x _ h0
  have e : ∀ s : PSt, (s.R 3).todo = [] → pstep s 3 = s := fun s h => by unfold pstep; rw [if_neg (by decide)]; exact rstep_idle h
  have e3 : prun (prun (pasks al) x) [3, 3, 3] = prun (pasks al) x := by
    show pstep (pstep (pstep _ 3) 3) 3 = _
    rw [e _ h1, e _ h1, e _ h1]
  rw [e3]
end Go.Proofs.Ytllemhknmleklaa
