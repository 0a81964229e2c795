/- ViolatedBorder, of the program and of the reference. -/
import Derived.Test.YtkanbnbofoabeaaParts
import Derived.Test.YtkanbnbofoabeaaMax
import Derived.Test.YtkanbnbofoabeaaKeysT
import Derived.Test.YtkanbnbofoabeaaHold2
namespace Go.Proofs.Ytkanbnbofoabeaa
open Go.RowKit
set_option linter.unusedVariables false
set_option maxRecDepth 100000

def bordP (R : List (List Int)) (m r x : Int) : Bool := !hasc x r && !holdsF R m x r
def bordOk (n : Int) (R : List (List Int)) (m r : Int) : Bool := (isTabF n R && modeF m) && (decide (0 ≤ r) && decide (r < n))
def bordF (n : Int) (R : List (List Int)) (m r : Int) : List Int := if bordOk n R m r then maxF (flt (bordP R m r) (2 ^ n.toNat)) else []
theorem bord_len (n : Int) (R : List (List Int)) (m r : Int) : (bordF n R m r).length ≤ Room := by
  unfold bordF
  split
  · have := maxF_len (flt (bordP R m r) (2 ^ n.toNat)); unfold Room; omega
  · simp
theorem all_same {p : Int → Bool} {L M : List Int} (h : ∀ x, x ∈ L ↔ x ∈ M) : L.all p = M.all p := by
  rw [Bool.eq_iff_iff, List.all_eq_true, List.all_eq_true]
  exact ⟨fun H x hx => H x ((h x).2 hx), fun H x hx => H x ((h x).1 hx)⟩
theorem maxF_same {L M : List Int} (h : ∀ x, x ∈ L ↔ x ∈ M) (hl : L.length ≤ 100) (hm : M.length ≤ 100) : maxF L = maxF M := by
  unfold maxF
  have e1 : setsF L = setsF M := all_same h
  have e2 : (fun x => inB' L x && maxB L x) = fun x => inB' M x && maxB M x := by
    funext x
    unfold inB' maxB
    rw [all_same h]
    congr 1
    rw [decide_eq_decide]
    exact h x
  rw [e1, e2]
  simp [hl, hm]
theorem bord_dep {n : Int} {R : List (List Int)} {m r x : Int} (h : bordOk n R m r = true) (h0 : 0 ≤ x) (hx : x < 2 ^ n.toNat) : askF n R m x r = true ∧ St x := by
  unfold bordOk at h
  simp only [Bool.and_eq_true, decide_eq_true_eq] at h
  obtain ⟨⟨ht, hm⟩, hr0, hrn⟩ := h
  obtain ⟨h1, h5, _, _⟩ := isTab_of ht
  have hp := (pow_wrap (n := n) (by omega) h5).2.1
  refine ⟨?_, ⟨h0, by omega⟩⟩
  unfold askF isDepF isAttr
  rw [ht, hm]
  simp only [Bool.and_eq_true, decide_eq_true_eq, Bool.and_self, Bool.true_and]
  exact ⟨⟨⟨h1, ⟨⟨⟨by omega, h5⟩, h0⟩, hx⟩⟩, hr0⟩, hrn⟩
theorem c_hasColumn (n : Int) (v : Value) (c : Int) (w : World) : Ans Try.prog 146 #[.agg #[.int .i64 n, v], .int .i64 c] w (.bool (decide (0 ≤ c) && decide (c < n))) := by
  unfold Ans
  have hb := (Below.refl w.heap.size w).alloc (Nat.le_refl _) (.cells #[.int .i64 n, v] 28)
  by_cases h : 0 ≤ c
  · go_enter Try.func146, Try.ntmps146
    go_wp2
    go_ret
    exact ⟨ret_bool (by simp [h]), hb⟩
  · go_enter Try.func146, Try.ntmps146
    go_wp2
    go_ret
    exact ⟨ret_bool (by rw [decide_eq_false (show ¬ (0 ≤ c) by omega)]; rfl), hb⟩

end Go.Proofs.Ytkanbnbofoabeaa
