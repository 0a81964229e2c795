/- ClosedSets, of the program and of the reference. -/
import Derived.Test.YtaomdnibnnobiaaImplies
import Derived.Test.YtaomdnibnnobiaaMembers
namespace Go.Proofs.Ytaomdnibnnobiaa
open Go.RowKit
set_option linter.unusedVariables false
set_option maxRecDepth 100000

/-- The numbers below k that meet p. -/
def flt (p : Int → Bool) (k : Nat) : List Int := ((List.range k).map fun (c : Nat) => (c : Int)).filter p
theorem flt_succ (p : Int → Bool) (k : Nat) : flt p (k + 1) = flt p k ++ (if p k then [(k : Int)] else []) := by
  unfold flt
  rw [List.range_succ, List.map_append, List.filter_append]
  simp [List.filter_cons]
theorem flt_le (p : Int → Bool) (k : Nat) : (flt p k).length ≤ k := by
  have := List.length_filter_le p ((List.range k).map fun (c : Nat) => (c : Int))
  simpa [flt] using this
theorem flt_mem {p : Int → Bool} {k : Nat} {x : Int} : x ∈ flt p k ↔ (0 ≤ x ∧ x < k) ∧ p x = true := by
  unfold flt
  rw [List.mem_filter, List.mem_map]
  constructor
  · rintro ⟨⟨c, hc, rfl⟩, h⟩
    exact ⟨⟨by omega, by have := List.mem_range.1 hc; omega⟩, h⟩
  · rintro ⟨⟨h0, h1⟩, h⟩
    exact ⟨⟨x.toNat, List.mem_range.2 (by omega), by omega⟩, h⟩

def closedSetsF (n : Int) (D : List (Int × Int)) : List Int := if areDepsF n D then flt (fun x => cloF D x == x) (2 ^ n.toNat) else []
theorem pow_nat {n : Int} (h0 : 0 ≤ n) (h5 : n ≤ 5) : ((2 ^ n.toNat : Nat) : Int) = 2 ^ n.toNat ∧ (2 : Nat) ^ n.toNat ≤ 32 ∧ 1 ≤ (2 : Nat) ^ n.toNat := by
  obtain ⟨m, rfl⟩ := Int.eq_ofNat_of_zero_le h0
  have h : ∀ m < 6, ((2 ^ ((m : Nat) : Int).toNat : Nat) : Int) = 2 ^ ((m : Nat) : Int).toNat ∧ (2 : Nat) ^ ((m : Nat) : Int).toNat ≤ 32 ∧ 1 ≤ (2 : Nat) ^ ((m : Nat) : Int).toNat := by decide +kernel
  exact h m (by omega)

theorem closedSets_len (n : Int) (D : List (Int × Int)) : (closedSetsF n D).length ≤ Room := by
  unfold closedSetsF
  split
  · next h =>
    obtain ⟨_, h1, h5, _⟩ := areDepsF_val h
    have h2 := flt_le (fun x => cloF D x == x) (2 ^ n.toNat)
    have h3 := (pow_nat (n := n) (by omega) h5).2.1
    unfold Room; omega
  · simp
end Go.Proofs.Ytaomdnibnnobiaa
