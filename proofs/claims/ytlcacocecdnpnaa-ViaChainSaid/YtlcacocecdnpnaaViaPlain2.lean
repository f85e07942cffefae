
/- What the way along a chain of hops comes to. -/
import Derived.Test.YtlcacocecdnpnaaViaPlain
import Derived.Test.YtlcacocecdnpnaaKit4
set_option linter.unusedVariables false
namespace Go.Proofs.Ytlcacocecdnpnaa
open Go.RowKit Go.Sort Wc Wk

/-- The vias of a chain: of 1, 2, .. each to the next. -/
def chainL (k : Nat) : List ViaD := (List.range k).map (fun i => ⟨i + 1, 0, i + 2⟩)
theorem chainL_succ (k : Nat) : chainL (k + 1) = chainL k ++ [⟨k + 1, 0, k + 2⟩] := by
  unfold chainL
  rw [List.range_succ, List.map_append]; rfl
theorem chainL_last (k : Nat) : (chainL (k + 1))[k]? = some ⟨k + 1, 0, k + 2⟩ := by
  simp [chainL]
theorem chainL_len (k : Nat) : (chainL k).length = k := by simp [chainL]
theorem chainL_at {k i : Nat} (h : i < k) : (chainL k)[i]? = some ⟨i + 1, 0, i + 2⟩ := by
  simp [chainL, h]

/-- A chain, its last via another one. -/
def endL (k : Nat) (v : ViaD) : List ViaD := chainL k ++ [v]
theorem endL_len (k : Nat) (v : ViaD) : (endL k v).length = k + 1 := by simp [endL, chainL_len]
theorem endL_at {k i : Nat} {v : ViaD} (h : i < k) : (endL k v)[i]? = some ⟨i + 1, 0, i + 2⟩ := by
  unfold endL
  rw [List.getElem?_append_left (by rw [chainL_len]; exact h), chainL_at h]
theorem endL_last (k : Nat) (v : ViaD) : (endL k v)[k]? = some v := by
  unfold endL
  rw [List.getElem?_append_right (by rw [chainL_len]; exact Nat.le_refl _), chainL_len, Nat.sub_self]; rfl
theorem endL_hop {k : Nat} {v : ViaD} (hv : v.hop = k + 1) (i : Nat) (u : ViaD) (hu : (endL k v)[i]? = some u) : u.hop = i + 1 := by
  have hi := (List.getElem?_eq_some_iff.1 hu).1
  rw [endL_len] at hi
  rcases Nat.lt_or_ge i k with h | h
  · rw [endL_at h] at hu; cases hu; rfl
  · obtain rfl : i = k := by omega
    rw [endL_last] at hu; cases hu; exact hv
theorem endL_apart {k : Nat} {v : ViaD} (hv : v.hop = k + 1) : hopsApart (endL k v) := by
  unfold hopsApart
  rw [List.pairwise_iff_getElem]
  intro i j hi hj hij
  have a := endL_hop hv i _ (List.getElem?_eq_getElem hi)
  have b := endL_hop hv j _ (List.getElem?_eq_getElem hj)
  omega
theorem endL_ok {k : Nat} {v : ViaD} (hk : k ≤ 100) (hv : v.ok) : ∀ u ∈ endL k v, u.ok := by
  intro u hu
  obtain ⟨i, hi, he⟩ := List.getElem_of_mem hu
  have hu := List.getElem?_eq_getElem hi
  rw [he] at hu
  rw [endL_len] at hi
  rcases Nat.lt_or_ge i k with h | h
  · rw [endL_at h] at hu; cases hu; unfold ViaD.ok; dsimp only; omega
  · obtain rfl : i = k := by omega
    rw [endL_last] at hu; cases hu; exact hv
theorem viaAt_endL {k : Nat} {v : ViaD} (hv : v.hop = k + 1) {i : Nat} {u : ViaD} (hu : (endL k v)[i]? = some u) : viaAt (endL k v) ((i + 1 : Nat) : Int) = some u := by
  have := viaAt_of (endL_apart hv) hu
  rwa [endL_hop hv i u hu] at this

theorem chain_go {k : Nat} {v : ViaD} (hv : v.hop = k + 1) : ∀ j, j ≤ k → j ≤ 9 → portW (endL k v) 10 [] 1 = portW (endL k v) (10 - j) (List.range' 1 j) (j + 1)
  | 0, _, _ => rfl
  | j + 1, h1, h2 => by
    rw [chain_go hv j (by omega) (by omega), show 10 - j = (10 - (j + 1)) + 1 from by omega]
    rw [portW_some (viaAt_endL hv (endL_at (show j < k by omega))), if_neg (by simp; omega), if_neg (by simp; omega), if_neg (by simp)]
    rw [List.range'_concat, Nat.one_mul, Nat.add_comm 1 j]
theorem chain_long {k : Nat} {v : ViaD} (hv : v.hop = k + 1) (hk : 9 ≤ k) : portW (endL k v) 10 [] 1 = (0, 0, 9) := by
  rw [chain_go hv 9 hk (Nat.le_refl _)]
  obtain ⟨u, hu⟩ : ∃ u, (endL k v)[9]? = some u := ⟨_, List.getElem?_eq_getElem (by rw [endL_len]; omega)⟩
  rw [show 10 - 9 = 0 + 1 from rfl, portW_some (viaAt_endL hv hu), if_neg (by decide), if_pos (by decide)]
theorem chain_port {k : Nat} {v : ViaD} (hv : v.hop = k + 1) (hk : k ≤ 8) (hp : 0 < v.port) : portW (endL k v) 10 [] 1 = (v.port, k, 0) := by
  rw [chain_go hv k (Nat.le_refl _) (by omega), show 10 - k = (9 - k) + 1 from by omega]
  rw [portW_some (viaAt_endL hv (endL_last k v)), if_neg (by simp; omega), if_neg (by simp; omega), if_pos hp]
  simp
theorem chain_loop {k : Nat} {v : ViaD} (hv : v.hop = k + 1) (hk : k ≤ 8) (hp : v.port = 0) (h1 : 1 ≤ v.next) (h2 : v.next ≤ k + 1) : portW (endL k v) 10 [] 1 = (0, 0, 10) := by
  rw [chain_go hv k (Nat.le_refl _) (by omega), show 10 - k = (8 - k + 1) + 1 from by omega]
  rw [portW_some (viaAt_endL hv (endL_last k v)), if_neg (by simp; omega), if_neg (by simp; omega), if_neg (by omega)]
  obtain ⟨m, hm⟩ : ∃ m, v.next = m + 1 := ⟨v.next - 1, by omega⟩
  obtain ⟨u, hu⟩ : ∃ u, (endL k v)[m]? = some u := ⟨_, List.getElem?_eq_getElem (by rw [endL_len]; omega)⟩
  rw [hm, portW_some (viaAt_endL hv hu), if_pos]
  simp only [List.mem_append, List.mem_range', List.mem_singleton]
  by_cases h : m = k
  · exact .inr (by omega)
  · exact .inl ⟨m, by omega, by omega⟩

theorem chain_store {w : World} {B : Nat} {e : TypeId} {g n cap k : Nat} {l : List ViaD} {u v : ViaD} {a b c : Int} (h : Own w B e 3 (.slice (some ⟨g, 0, none⟩) n cap) ((l ++ [u]).map viaCells)) (hl : l.length = k) (ha : a = v.hop) (hb : b = v.port) (hc : c = v.next) :
    Own (((w.setCell ⟨g, k * 3, none⟩ (.int .i64 a)).setCell ⟨g, k * 3 + 1, none⟩ (.int .i64 b)).setCell ⟨g, k * 3 + 2, none⟩ (.int .i64 c)) B e 3 (.slice (some ⟨g, 0, none⟩) n cap) ((l ++ [v]).map viaCells) := by
  subst ha hb hc hl
  have e0 : ((l ++ [u]).map viaCells)[l.length]? = some (viaCells u) := by simp
  have h1 := h.set e0 (j := 0) (by decide) (.int .i64 v.hop)
  have e1 : (((l ++ [u]).map viaCells).set l.length ((viaCells u).set 0 (.int .i64 v.hop)))[l.length]? = some ((viaCells u).set 0 (.int .i64 v.hop)) := by simp
  have h2 := h1.set e1 (j := 1) (by decide) (.int .i64 v.port)
  have e2 : ((((l ++ [u]).map viaCells).set l.length ((viaCells u).set 0 (.int .i64 v.hop))).set l.length (((viaCells u).set 0 (.int .i64 v.hop)).set 1 (.int .i64 v.port)))[l.length]? = some (((viaCells u).set 0 (.int .i64 v.hop)).set 1 (.int .i64 v.port)) := by simp
  have h3 := h2.set e2 (j := 2) (by decide) (.int .i64 v.next)
  rw [Nat.add_zero] at h3
  simpa [viaCells, List.set_append] using h3
end Go.Proofs.Ytlcacocecdnpnaa
