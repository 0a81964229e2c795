/- implies, ClosureOf, ImpliesDep, of the program and of the reference. -/
import Derived.Test.YtkanbnbofoabeaaClosure
namespace Go.Proofs.Ytkanbnbofoabeaa
open Go.RowKit
set_option linter.unusedVariables false
set_option maxRecDepth 100000

def impF (D : List (Int × Int)) (l r : Int) : Bool := hasc (cloF D l) r
def closureOfF (n : Int) (D : List (Int × Int)) (s : Int) : Int := if areDepsF n D && isAttr n s then cloF D s else 0
def impliesDepF (n : Int) (D : List (Int × Int)) (l r : Int) : Bool := areDepsF n D && (isDepF n l r && impF D l r)

theorem isAttr_st {n x : Int} (h : isAttr n x = true) : St x ∧ 0 ≤ n ∧ n ≤ 5 := by
  simp only [isAttr, Bool.and_eq_true, decide_eq_true_eq] at h
  obtain ⟨⟨⟨h0, h5⟩, hx0⟩, hx⟩ := h
  have := (pow_wrap h0 h5).2.1
  exact ⟨⟨hx0, Int.lt_of_lt_of_le hx this⟩, h0, h5⟩
theorem isDepF_val {n l r : Int} (h : isDepF n l r = true) : (St l ∧ Co r) ∧ 1 ≤ n ∧ n ≤ 5 := by
  simp only [isDepF, Bool.and_eq_true, decide_eq_true_eq] at h
  obtain ⟨⟨⟨h1, ha⟩, h0⟩, hr⟩ := h
  have := isAttr_st ha
  exact ⟨⟨this.1, h0, by omega⟩, h1, this.2.2⟩
theorem areDepsF_val {n : Int} {D : List (Int × Int)} (h : areDepsF n D = true) : Val D ∧ 1 ≤ n ∧ n ≤ 5 ∧ D.length ≤ 20 := by
  simp only [areDepsF, Bool.and_eq_true, decide_eq_true_eq, List.all_eq_true] at h
  exact ⟨fun d hd => (isDepF_val (h.1 d hd)).1, h.2.1.1, h.2.1.2, h.2.2⟩
theorem co64 {r : Int} (h : Co r) : 0 ≤ r ∧ r < 64 := ⟨h.1, by have := h.2; omega⟩

theorem box_at (w : World) (c : Array Value) (T : TypeId) (j : Nat) (v : Value) (h : c[j]? = some v) : (w.alloc (.cells c T)).cell? ⟨w.heap.size, j, none⟩ = some v := by
  simp only [World.cell?, heap_alloc_new]; exact h

theorem c_implies (oa) (cap : Nat) (D : List (Int × Int)) (l r : Int) (w : World) (hD : DepsAt w oa D) (hv : Val D) (hl : St l) (hr : Co r) :
    Ans Try.prog 68 #[.slice oa D.length cap, .agg #[.int .i64 l, .int .i64 r]] w (.bool (impF D l r)) := by
  unfold Ans
  have hr' := co64 hr
  have hb := (Below.refl w.heap.size w).alloc (Nat.le_refl _) (.cells #[.int .i64 l, .int .i64 r] 33)
  have b0 := box_at w #[.int .i64 l, .int .i64 r] 33 0 _ rfl
  have b1 := box_at w #[.int .i64 l, .int .i64 r] 33 1 _ rfl
  have hDx := fun x : After (w.alloc (.cells #[.int .i64 l, .int .i64 r] 33)) => hD.keep (bel_to hb x.bel)
  go_enter Try.func68, Try.ntmps68
  go_wp2_with fail
  (refine wp_region_after (by kernel_rfl) (by kernel_rfl) ?_; have q_b0 := fun (x : After _) => cell_keep b0 x.bel; have q_b1 := fun (x : After _) => cell_keep b1 x.bel; (repeat (go_big_quiet_step ((first | (go_at_call 70; exact Ans.after (c_closure _ _ _ _ _ (hDx _) hl hv)) | (go_at_call 118; exact Ans.after (c_has _ _ hr' _)))))); clear q_b0; clear q_b1; refine wpQuiet_nil ?_; rintro _ ⟨⟨w1, hbn⟩, rfl⟩; (try simp only [After.w]); replace b0 := cell_keep b0 hbn; replace b1 := cell_keep b1 hbn; replace hb := bel_to (w := w) (by first | exact hb | exact hb.alloc hb.size _ | exact (hb.alloc hb.size _).alloc (Nat.le_trans hb.size (by simp)) _ | exact hb.setCell (by simp [hb.size]) _) hbn; clear hbn)
  go_wp2
  go_ret
  exact ⟨rfl, hb⟩

theorem c_specImpliesDep (n : Int) (oa) (cap : Nat) (D : List (Int × Int)) (l r : Int) (w : World) (hD : DepsAt w oa D) :
    Ans Try.prog 64 #[.int .i64 n, .slice oa D.length cap, .agg #[.int .i64 l, .int .i64 r]] w (.bool (impliesDepF n D l r)) := by
  unfold Ans
  have hb := (Below.refl w.heap.size w).alloc (Nat.le_refl _) (.cells #[.int .i64 l, .int .i64 r] 33)
  have b0 := box_at w #[.int .i64 l, .int .i64 r] 33 0 _ rfl
  have b1 := box_at w #[.int .i64 l, .int .i64 r] 33 1 _ rfl
  have hDx := fun x : After (w.alloc (.cells #[.int .i64 l, .int .i64 r] 33)) => hD.keep (bel_to hb x.bel)
  cases ha : areDepsF n D
  · go_enter Try.func64, Try.ntmps64
    go_wp2_with fail
    (refine wp_region_after (by kernel_rfl) (by kernel_rfl) ?_; have q_b0 := fun (x : After _) => cell_keep b0 x.bel; have q_b1 := fun (x : After _) => cell_keep b1 x.bel; (repeat (go_big_quiet_step ((first | (go_at_call 62; exact Ans.after (Ans.eqb (c_specAreDeps _ _ _ _ _ (hDx _)) ha)))))); clear q_b0; clear q_b1; refine wpQuiet_nil ?_; rintro _ ⟨⟨w1, hbn⟩, rfl⟩; (try simp only [After.w]); replace b0 := cell_keep b0 hbn; replace b1 := cell_keep b1 hbn; replace hb := bel_to (w := w) (by first | exact hb | exact hb.alloc hb.size _ | exact (hb.alloc hb.size _).alloc (Nat.le_trans hb.size (by simp)) _ | exact hb.setCell (by simp [hb.size]) _) hbn; clear hbn)
    go_wp2
    go_ret
    exact ⟨ret_bool (by simp [impliesDepF, ha]), hb⟩
  · have hv := (areDepsF_val ha).1
    cases hi : isDepF n l r
    · go_enter Try.func64, Try.ntmps64
      go_wp2_with fail
      (refine wp_region_after (by kernel_rfl) (by kernel_rfl) ?_; have q_b0 := fun (x : After _) => cell_keep b0 x.bel; have q_b1 := fun (x : After _) => cell_keep b1 x.bel; (repeat (go_big_quiet_step ((first | (go_at_call 62; exact Ans.after (Ans.eqb (c_specAreDeps _ _ _ _ _ (hDx _)) ha)) | (go_at_call 63; exact Ans.after (Ans.eqb (c_specIsDep _ _ _ _) hi)))))); clear q_b0; clear q_b1; refine wpQuiet_nil ?_; rintro _ ⟨⟨w1, hbn⟩, rfl⟩; (try simp only [After.w]); replace b0 := cell_keep b0 hbn; replace b1 := cell_keep b1 hbn; replace hb := bel_to (w := w) (by first | exact hb | exact hb.alloc hb.size _ | exact (hb.alloc hb.size _).alloc (Nat.le_trans hb.size (by simp)) _ | exact hb.setCell (by simp [hb.size]) _) hbn; clear hbn)
      go_wp2
      go_ret
      exact ⟨ret_bool (by simp [impliesDepF, ha, hi]), hb⟩
    · obtain ⟨⟨hl, hr⟩, h15⟩ := isDepF_val hi
      have hr0 : 0 ≤ r := hr.1
      have hr1 : r < 5 := hr.2
      go_enter Try.func64, Try.ntmps64
      go_wp2_with fail
      (refine wp_region_after (by kernel_rfl) (by kernel_rfl) ?_; have q_b0 := fun (x : After _) => cell_keep b0 x.bel; have q_b1 := fun (x : After _) => cell_keep b1 x.bel; (repeat (go_big_quiet_step ((first | (go_at_call 62; exact Ans.after (Ans.eqb (c_specAreDeps _ _ _ _ _ (hDx _)) ha)) | (go_at_call 63; exact Ans.after (Ans.eqb (c_specIsDep _ _ _ _) hi)) | (go_at_call 65; exact Ans.after (c_l10Close _ _ _ _ _ (hDx _) hl hv)))))); clear q_b0; clear q_b1; refine wpQuiet_nil ?_; rintro _ ⟨⟨w1, hbn⟩, rfl⟩; (try simp only [After.w]); replace b0 := cell_keep b0 hbn; replace b1 := cell_keep b1 hbn; replace hb := bel_to (w := w) (by first | exact hb | exact hb.alloc hb.size _ | exact (hb.alloc hb.size _).alloc (Nat.le_trans hb.size (by simp)) _ | exact hb.setCell (by simp [hb.size]) _) hbn; clear hbn)
      go_wp2
      go_ret
      exact ⟨ret_bool (by simp [impliesDepF, ha, hi]; rfl), hb⟩
end Go.Proofs.Ytkanbnbofoabeaa
