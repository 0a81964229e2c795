/- MaximalSets, of the program and of the reference. -/
import Derived.Test.YtkanbnbofoabeaaMin4
namespace Go.Proofs.Ytkanbnbofoabeaa
open Go.RowKit
set_option linter.unusedVariables false
set_option maxRecDepth 100000

/-- x is maximal in L -/
def maxB (L : List Int) (x : Int) : Bool := L.all fun y => (x == y) || !ins x y
def maxF (L : List Int) : List Int := if setsF L && decide (L.length ≤ 100) then flt (fun x => inB' L x && maxB L x) 32 else []
theorem maxF_sets {L : List Int} (h : setsF L = true) (hl : L.length ≤ 100) : maxF L = flt (fun x => inB' L x && maxB L x) 32 := by
  unfold maxF; rw [h]; simp [hl]
theorem maxF_filter {L : List Int} (h : setsF L = true) (hl : L.length ≤ 100) : maxF L = (distinctF L).filter (maxB L) := by
  rw [maxF_sets h hl, distinctF_flt (setsF_mem h), flt_filter]
theorem maxF_len (L : List Int) : (maxF L).length ≤ 32 := by
  unfold maxF
  split
  · exact flt_le _ _
  · simp
theorem maxF_st {L : List Int} : ∀ x ∈ maxF L, St x := by
  unfold maxF
  split
  · intro x hx; have := (flt_mem.1 hx).1; exact ⟨by omega, by omega⟩
  · intro x hx; cases hx
theorem maxB_same (L : List Int) (h : ∀ x ∈ L, St x) (x : Int) (hx : St x) : (L.all fun y => (y == x) || !(bits BinOp.and .i64 x y == x)) = maxB L x := by
  unfold maxB
  rw [Bool.eq_iff_iff, List.all_eq_true, List.all_eq_true]
  have e : ∀ y ∈ L, ((y == x) || !(bits BinOp.and .i64 x y == x)) = ((x == y) || !ins x y) := fun y hy => by
    obtain ⟨n, hn, rfl⟩ := st_nat hx; obtain ⟨m, hm, rfl⟩ := st_nat (h y hy)
    have h' : ∀ n < 32, ∀ m < 32, ((((m : Nat) : Int) == ((n : Nat) : Int)) || !(bits BinOp.and .i64 ((n : Nat) : Int) ((m : Nat) : Int) == ((n : Nat) : Int))) = ((((n : Nat) : Int) == ((m : Nat) : Int)) || !ins (n : Nat) (m : Nat)) := by decide +kernel
    exact h' n hn m hm
  exact ⟨fun H y hy => by rw [← e y hy]; exact H y hy, fun H y hy => by rw [e y hy]; exact H y hy⟩
theorem max_step {L : List Int} {k : Nat} (hk : k < L.length) (hs : St (nth L k)) :
    flt (fun y => inB' (L.take (k + 1)) y && maxB L y) 32 = (if maxB L (nth L k) then putF (flt (fun y => inB' (L.take k) y && maxB L y) 32) (nth L k) else flt (fun y => inB' (L.take k) y && maxB L y) 32) := by
  have e : ∀ y, inB' (L.take (k + 1)) y = (inB' (L.take k) y || y == nth L k) := fun y => by
    unfold inB'
    rw [List.take_add_one, nth_eq hk]
    simp [Bool.decide_or]
    rfl
  split
  · next h =>
    rw [putF_flt _ hs]
    congr 1
    funext y
    rw [e]
    cases hy : (y == nth L k)
    · simp
    · have : y = nth L k := by simpa using hy
      rw [this, h]; simp
  · next h =>
    congr 1
    funext y
    rw [e]
    cases hy : (y == nth L k)
    · simp
    · have : y = nth L k := by simpa using hy
      rw [this]
      simp only [Bool.not_eq_true] at h
      rw [h]; simp
end Go.Proofs.Ytkanbnbofoabeaa
