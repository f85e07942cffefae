
/- Shares: what stays, as a sum over the hops. -/
import Derived.Test.YticfcigkldkhmaaSh14
set_option linter.unusedVariables false
namespace Go.Proofs.Yticfcigkldkhmaa
open Go Go.RowKit Go.Sort Wc Wk

theorem ind_sum (x z : Nat) : ∀ hs : List Nat, hs.Nodup → (hs.map fun h => if x = h ∧ z = h then 1 else 0).sum = if x = z ∧ z ∈ hs then 1 else 0
  | [], _ => by simp
  | h :: hs, hn => by
    rw [List.nodup_cons] at hn
    rw [List.map_cons, List.sum_cons, ind_sum x z hs hn.2]
    by_cases hz : z = h
    · subst hz
      by_cases hx : x = z
      · subst hx
        simp [hn.1]
      · simp [hx]
    · by_cases hx : x = z
      · subst hx
        simp [hz]
      · simp [hx, hz]
theorem sum_add (f g : Nat → Nat) : ∀ hs : List Nat, (hs.map fun h => f h + g h).sum = (hs.map f).sum + (hs.map g).sum
  | [] => rfl
  | h :: hs => by
    simp only [List.map_cons, List.sum_cons]
    rw [sum_add f g hs]; omega
theorem same_sum {hs : List Nat} (hn : hs.Nodup) : ∀ (xs zs : List Nat), xs.length = zs.length → (∀ z ∈ zs, z ∈ hs) → same2 xs zs = (hs.map fun h => both2 h xs zs).sum
  | [], [], _, _ => by
    have : ∀ hs : List Nat, (hs.map fun h => both2 h [] []).sum = 0 := by
      intro hs
      induction hs with
      | nil => rfl
      | cons h hs ih => rw [List.map_cons, List.sum_cons, ih]; rfl
    rw [this]; rfl
  | [], _ :: _, h, _ => by simp at h
  | _ :: _, [], h, _ => by simp at h
  | x :: xs, z :: zs, hl, hz => by
    show (if x = z then 1 else 0) + same2 xs zs = (hs.map fun h => (if x = h ∧ z = h then 1 else 0) + both2 h xs zs).sum
    rw [sum_add (fun h => if x = h ∧ z = h then 1 else 0) (fun h => both2 h xs zs), ind_sum x z hs hn, same_sum hn xs zs (by simpa using hl) (fun y hy => hz y (by simp [hy]))]
    have := hz z (by simp)
    by_cases hx : x = z <;> simp [hx, this]
theorem same_le : ∀ (xs zs : List Nat), same2 xs zs ≤ xs.length
  | [], _ => Nat.zero_le _
  | _ :: _, [] => Nat.zero_le _
  | x :: xs, z :: zs => by
    have := same_le xs zs
    show (if x = z then 1 else 0) + same2 xs zs ≤ xs.length + 1
    split <;> omega
theorem same_snoc : ∀ (xs zs : List Nat) (i : Nat), i < xs.length → i < zs.length → same2 (xs.take (i + 1)) (zs.take (i + 1)) = same2 (xs.take i) (zs.take i) + if xs.getD i 0 = zs.getD i 0 then 1 else 0
  | [], _, _, h, _ => absurd h (Nat.not_lt_zero _)
  | _ :: _, [], _, _, h => absurd h (Nat.not_lt_zero _)
  | x :: xs, z :: zs, 0, _, _ => by simp [same2]
  | x :: xs, z :: zs, i + 1, h1, h2 => by
    have := same_snoc xs zs i (by simpa using h1) (by simpa using h2)
    show (if x = z then 1 else 0) + same2 (xs.take (i + 1)) (zs.take (i + 1)) = (if x = z then 1 else 0) + same2 (xs.take i) (zs.take i) + if xs.getD i 0 = zs.getD i 0 then 1 else 0
    rw [this]; omega
theorem bt {a b c : World} (h1 : Below a.heap.size a b) (h2 : Below b.heap.size b c) : Below a.heap.size a c := h1.trans (h2.mono h1.size)
theorem row_below {w w' : World} {a : Option Addr} {len cap : Nat} {zs : List Int} (h : IsRow .i64 w a len cap zs) (hb : Below w.heap.size w w') : IsRow .i64 w' a len cap zs := by
  rcases h with h | ⟨x, ha, h1, h2, h3, hc, hw⟩
  · exact .inl h
  · refine .inr ⟨x, ha, h1, h2, h3, fun i hi => ?_, hw⟩
    have hb2 : (x.add i).block < w.heap.size := World.block_lt_of_cell? _ _ (hc i hi)
    rw [hb.cell hb2]
    exact hc i hi
theorem dealt_buck {l : List (Nat × Nat)} (hok : ShOk l) {n : Nat} (h1 : 1 ≤ n) (h2 : n ≤ 64) : BuckOk (dealtL l n) := by
  refine ⟨by rw [dealt_len hok]; exact h1, by rw [dealt_len hok]; exact h2, fun x hx => ?_⟩
  obtain ⟨y, hy, rfl⟩ := List.mem_map.1 (deal_mem _ _ x hx)
  exact (hok.hop y hy).2
theorem hop_pos {l : List (Nat × Nat)} (hok : ShOk l) : 0 ∉ l.map (·.1) := fun h => by
  obtain ⟨y, hy, he⟩ := List.mem_map.1 h
  have := hok.hop y hy
  omega
theorem turn_law {l : List (Nat × Nat)} (hok : ShOk l) (xs : List Nat) : TurnOk (l.map (·.1)) (partsL (l.map (·.2)) xs.length) xs := by
  have hpo := parts_ok (l.map (·.2)) xs.length (by have := sum_wt hok.wt; have := hok.one; omega)
  exact turn_ok hok.keys (hop_pos hok) (by rw [hpo.len]; simp) hpo.sum
theorem deal_law {l : List (Nat × Nat)} (hok : ShOk l) (n : Nat) {k : Nat} {x : Nat × Nat} (hx : l[k]? = some x) : (dealtL l n).count x.1 = (partsL (l.map (·.2)) n).getD k 0 := by
  have hk := (List.getElem?_eq_some_iff.1 hx).1
  have hpo := parts_ok (l.map (·.2)) n (by have := sum_wt hok.wt; have := hok.one; omega)
  have := deal_count (l.map (·.1)) (partsL (l.map (·.2)) n) hok.keys (by rw [hpo.len]; simp) k (by simpa using hk)
  have ex : (l.map (·.1)).getD k 0 = x.1 := by rw [List.getD_eq_getElem?_getD, List.getElem?_map, hx]; rfl
  rw [ex] at this
  exact this
end Go.Proofs.Yticfcigkldkhmaa
