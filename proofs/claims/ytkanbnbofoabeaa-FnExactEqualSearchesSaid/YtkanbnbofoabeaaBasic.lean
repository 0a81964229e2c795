/- The small functions on sets of columns: what each answers, whatever the arguments (in range where Go's shifts ask it). -/
import Derived.Test.YtkanbnbofoabeaaProg
import Derived.Test.YtkanbnbofoabeaaLib
import Derived.Test.YtkanbnbofoabeaaSet
namespace Go.Proofs.Ytkanbnbofoabeaa
open Go.RowKit
set_option linter.unusedVariables false
set_option maxRecDepth 100000

def inB (x lo hi : Int) : Bool := decide (lo ≤ x) && decide (x ≤ hi)
def isAttr (n x : Int) : Bool := decide (0 ≤ n) && decide (n ≤ 5) && decide (0 ≤ x) && decide (x < 2 ^ n.toNat)
def stB (x : Int) : Bool := decide (St x)
def allM (n : Int) : Int := 2 ^ n.toNat - 1

theorem pow_wrap {n : Int} (h0 : 0 ≤ n) (h5 : n ≤ 5) : wrap64 (2 ^ n.toNat) = 2 ^ n.toNat ∧ (2 : Int) ^ n.toNat ≤ 32 ∧ 1 ≤ (2 : Int) ^ n.toNat := by
  obtain ⟨m, rfl⟩ := Int.eq_ofNat_of_zero_le h0
  have h : ∀ m < 6, wrap64 (2 ^ ((m : Nat) : Int).toNat) = 2 ^ ((m : Nat) : Int).toNat ∧ (2 : Int) ^ ((m : Nat) : Int).toNat ≤ 32 ∧ 1 ≤ (2 : Int) ^ ((m : Nat) : Int).toNat := by decide +kernel
  exact h m (by omega)
theorem isAttr_5 (x : Int) : isAttr 5 x = stB x := by
  unfold isAttr stB St
  have : (2 : Int) ^ (5 : Int).toNat = 32 := by decide
  rw [this]
  by_cases h : 0 ≤ x <;> by_cases h' : x < 32 <;> simp [h, h']

theorem c_inside (x y : Int) (w : World) : Ans Try.prog 119 #[.int .i64 x, .int .i64 y] w (.bool (ins x y)) := by
  unfold Ans
  go_enter Try.func119, Try.ntmps119
  go_wp2
  go_ret
  exact ⟨rfl, Below.refl _ _⟩
theorem c_has (x c : Int) (hc : 0 ≤ c ∧ c < 64) (w : World) : Ans Try.prog 118 #[.int .i64 x, .int .i64 c] w (.bool (hasc x c)) := by
  unfold Ans
  go_enter Try.func118, Try.ntmps118
  go_wp2
  go_ret
  exact ⟨rfl, Below.refl _ _⟩
theorem c_l1In (x lo hi : Int) (w : World) : Ans Try.prog 95 #[.int .i64 x, .int .i64 lo, .int .i64 hi] w (.bool (inB x lo hi)) := by
  unfold Ans
  go_enter Try.func95, Try.ntmps95
  go_wp2
  all_goals go_ret
  all_goals exact ⟨ret_bool (by simp [inB]; omega), Below.refl _ _⟩
theorem c_l2All (n : Int) (hn : 0 ≤ n ∧ n ≤ 5) (w : World) : Ans Try.prog 88 #[.int .i64 n] w (.int .i64 (allM n)) := by
  unfold Ans
  have hp := pow_wrap hn.1 hn.2
  have hp1 := hp.1
  have hp2 := hp.2.1
  have hp3 := hp.2.2
  clear hp
  go_enter Try.func88, Try.ntmps88
  go_wp2
  go_ret
  exact ⟨rfl, Below.refl _ _⟩
theorem c_isAttributes (n x : Int) (w : World) : Ans Try.prog 81 #[.int .i64 n, .int .i64 x] w (.bool (isAttr n x)) := by
  unfold Ans
  go_enter Try.func81, Try.ntmps81
  go_wp2
  all_goals go_ret
  all_goals refine ⟨ret_bool ?_, Below.refl _ _⟩
  · have h0 : 0 ≤ n := by assumption
    have h5 : n ≤ 5 := by assumption
    have hx : 0 ≤ x := by assumption
    rw [(pow_wrap h0 h5).1]
    simp [isAttr, h0, h5, hx]
  all_goals (simp [isAttr]; omega)
theorem c_isSet (x : Int) (w : World) : Ans Try.prog 158 #[.int .i64 x] w (.bool (stB x)) := by
  unfold Ans
  have hb := Below.refl w.heap.size w
  go_enter Try.func158, Try.ntmps158
  go_wp2_with (first | (go_at_call 81; refine Calls.mono (c_isAttributes _ _ _) ?_; rintro e w1 ⟨rfl, hbn⟩; replace hb := bel_to (w := w) (by first | exact hb | exact hb.alloc hb.size _ | exact (hb.alloc hb.size _).alloc (Nat.le_trans hb.size (by simp)) _ | exact hb.setCell (by simp [hb.size]) _) hbn; clear hbn))
  go_ret
  exact ⟨ret_bool (isAttr_5 x), hb⟩
theorem c_specIsAttributes (n x : Int) (w : World) : Ans Try.prog 76 #[.int .i64 n, .int .i64 x] w (.bool (isAttr n x)) := by
  unfold Ans
  have hb := Below.refl w.heap.size w
  by_cases h : 0 ≤ n ∧ n ≤ 5
  · have hin : inB n 0 5 = true := by simp [inB, h]
    have hp := (pow_wrap h.1 h.2).2
    go_enter Try.func76, Try.ntmps76
    go_wp2_with (first | (go_at_call 95; refine Calls.mono (c_l1In _ _ _ _) ?_; rintro e w1 ⟨rfl, hbn⟩; replace hb := bel_to (w := w) (by first | exact hb | exact hb.alloc hb.size _ | exact (hb.alloc hb.size _).alloc (Nat.le_trans hb.size (by simp)) _ | exact hb.setCell (by simp [hb.size]) _) hbn; clear hbn) | (go_at_call 88; refine Calls.mono (c_l2All _ h _) ?_; rintro e w1 ⟨rfl, hbn⟩; replace hb := bel_to (w := w) (by first | exact hb | exact hb.alloc hb.size _ | exact (hb.alloc hb.size _).alloc (Nat.le_trans hb.size (by simp)) _ | exact hb.setCell (by simp [hb.size]) _) hbn; clear hbn))
    go_ret
    have e : decide (x ≤ 2 ^ n.toNat - 1) = decide (x < 2 ^ n.toNat) := by generalize (2 : Int) ^ n.toNat = p; rw [decide_eq_decide]; omega
    exact ⟨ret_bool (by unfold inB isAttr allM; rw [e, decide_eq_true h.1, decide_eq_true h.2]; simp), hb⟩
  · have hin : inB n 0 5 = false := by simp [inB]; omega
    go_enter Try.func76, Try.ntmps76
    go_wp2_with (first | (go_at_call 95; refine Calls.mono (c_l1In _ _ _ _) ?_; rintro e w1 ⟨rfl, hbn⟩; replace hb := bel_to (w := w) (by first | exact hb | exact hb.alloc hb.size _ | exact (hb.alloc hb.size _).alloc (Nat.le_trans hb.size (by simp)) _ | exact hb.setCell (by simp [hb.size]) _) hbn; clear hbn))
    go_ret
    exact ⟨ret_bool (by simp [isAttr]; omega), hb⟩
theorem c_l2Valid (x : Int) (w : World) : Ans Try.prog 157 #[.int .i64 x] w (.bool (stB x)) := by
  unfold Ans
  have hb := Below.refl w.heap.size w
  go_enter Try.func157, Try.ntmps157
  go_wp2_with (first | (go_at_call 76; refine Calls.mono (c_specIsAttributes _ _ _) ?_; rintro e w1 ⟨rfl, hbn⟩; replace hb := bel_to (w := w) (by first | exact hb | exact hb.alloc hb.size _ | exact (hb.alloc hb.size _).alloc (Nat.le_trans hb.size (by simp)) _ | exact hb.setCell (by simp [hb.size]) _) hbn; clear hbn))
  go_ret
  exact ⟨ret_bool (isAttr_5 x), hb⟩
end Go.Proofs.Ytkanbnbofoabeaa
