/- IsMinimalDep, of the program and of the reference. -/
import Derived.Test.YtkanbnbofoabeaaHold2
import Derived.Test.YtkanbnbofoabeaaMembers
namespace Go.Proofs.Ytkanbnbofoabeaa
open Go.RowKit
set_option linter.unusedVariables false
set_option maxRecDepth 100000

def isMinF (n : Int) (R : List (List Int)) (m l r : Int) : Bool :=
  askF n R m l r && (holdsF R m l r && (!hasc l r && (membersF l).all fun c => !holdsF R m (dif l (one c)) r))
theorem dif_le {x c : Int} (hx : St x) (hc : Co c) : 0 ≤ dif x (one c) ∧ dif x (one c) ≤ x := by
  obtain ⟨n, hn, rfl⟩ := st_nat hx; obtain ⟨k, hk, rfl⟩ := co_nat hc
  have h : ∀ n < 32, ∀ k < 5, 0 ≤ dif ((n : Nat) : Int) (one ((k : Nat) : Int)) ∧ dif ((n : Nat) : Int) (one ((k : Nat) : Int)) ≤ ((n : Nat) : Int) := by decide +kernel
  exact h n hn k hk
theorem ask_less {n : Int} {R : List (List Int)} {m l r c : Int} (h : askF n R m l r = true) (hc : Co c) : askF n R m (dif l (one c)) r = true := by
  unfold askF at h ⊢
  simp only [Bool.and_eq_true] at h ⊢
  obtain ⟨⟨ht, hm⟩, hd⟩ := h
  obtain ⟨hl, hr⟩ := dep_of hd (isTab_of ht).2.1
  refine ⟨⟨ht, hm⟩, ?_⟩
  have h2 := dif_le hl hc
  unfold isDepF isAttr at hd ⊢
  simp only [Bool.and_eq_true, decide_eq_true_eq] at hd ⊢
  obtain ⟨⟨⟨a, ⟨⟨b, c'⟩, d⟩, e⟩, f⟩, g⟩ := hd
  exact ⟨⟨⟨a, ⟨⟨b, c'⟩, h2.1⟩, by omega⟩, f⟩, g⟩

end Go.Proofs.Ytkanbnbofoabeaa
