/- Searches, read and compared. -/
import Derived.Test.YtkanbnbofoabeaaEqTab
namespace Go.Proofs.Ytkanbnbofoabeaa
open Go.RowKit
set_option linter.unusedVariables false
set_option maxRecDepth 100000

structure Sr where
  n : Int
  R : List (List Int)
  m : Int
  a : Int
  F : List (Int × Int)
  t : Int
def eqSrF (A B : Sr) : Bool := (((eqTabF A.n B.n A.R B.R && (A.m == B.m)) && (A.a == B.a)) && decide (A.F = B.F)) && (A.t == B.t)
set_option maxHeartbeats 800000 in
theorem c_EqualSearches (A B : Sr) (oa ob fa fb) (ca cb fca fcb : Nat) (w : World) (hA : RowsAt w oa A.R) (hB : RowsAt w ob B.R) (hC : DepsAt w fa A.F) (hD : DepsAt w fb B.F) :
    Ans Try.prog 33 #[.agg #[.int .i64 A.n, .slice oa A.R.length ca, .int .i64 A.m, .int .i64 A.a, .slice fa A.F.length fca, .int .i64 A.t], .agg #[.int .i64 B.n, .slice ob B.R.length cb, .int .i64 B.m, .int .i64 B.a, .slice fb B.F.length fcb, .int .i64 B.t]] w (.bool (eqSrF A B)) := by
  unfold Ans
  have hb := bel2 w (.cells #[.int .i64 A.n, .slice oa A.R.length ca, .int .i64 A.m, .int .i64 A.a, .slice fa A.F.length fca, .int .i64 A.t] 50) (.cells #[.int .i64 B.n, .slice ob B.R.length cb, .int .i64 B.m, .int .i64 B.a, .slice fb B.F.length fcb, .int .i64 B.t] 50)
  have x0 := two_a w #[.int .i64 A.n, .slice oa A.R.length ca, .int .i64 A.m, .int .i64 A.a, .slice fa A.F.length fca, .int .i64 A.t] 50 #[.int .i64 B.n, .slice ob B.R.length cb, .int .i64 B.m, .int .i64 B.a, .slice fb B.F.length fcb, .int .i64 B.t] 50 0 _ rfl
  have x1 := two_a w #[.int .i64 A.n, .slice oa A.R.length ca, .int .i64 A.m, .int .i64 A.a, .slice fa A.F.length fca, .int .i64 A.t] 50 #[.int .i64 B.n, .slice ob B.R.length cb, .int .i64 B.m, .int .i64 B.a, .slice fb B.F.length fcb, .int .i64 B.t] 50 1 _ rfl
  have x2 := two_a w #[.int .i64 A.n, .slice oa A.R.length ca, .int .i64 A.m, .int .i64 A.a, .slice fa A.F.length fca, .int .i64 A.t] 50 #[.int .i64 B.n, .slice ob B.R.length cb, .int .i64 B.m, .int .i64 B.a, .slice fb B.F.length fcb, .int .i64 B.t] 50 2 _ rfl
  have x3 := two_a w #[.int .i64 A.n, .slice oa A.R.length ca, .int .i64 A.m, .int .i64 A.a, .slice fa A.F.length fca, .int .i64 A.t] 50 #[.int .i64 B.n, .slice ob B.R.length cb, .int .i64 B.m, .int .i64 B.a, .slice fb B.F.length fcb, .int .i64 B.t] 50 3 _ rfl
  have x4 := two_a w #[.int .i64 A.n, .slice oa A.R.length ca, .int .i64 A.m, .int .i64 A.a, .slice fa A.F.length fca, .int .i64 A.t] 50 #[.int .i64 B.n, .slice ob B.R.length cb, .int .i64 B.m, .int .i64 B.a, .slice fb B.F.length fcb, .int .i64 B.t] 50 4 _ rfl
  have x5 := two_a w #[.int .i64 A.n, .slice oa A.R.length ca, .int .i64 A.m, .int .i64 A.a, .slice fa A.F.length fca, .int .i64 A.t] 50 #[.int .i64 B.n, .slice ob B.R.length cb, .int .i64 B.m, .int .i64 B.a, .slice fb B.F.length fcb, .int .i64 B.t] 50 5 _ rfl
  have y0 := two_b w #[.int .i64 A.n, .slice oa A.R.length ca, .int .i64 A.m, .int .i64 A.a, .slice fa A.F.length fca, .int .i64 A.t] 50 #[.int .i64 B.n, .slice ob B.R.length cb, .int .i64 B.m, .int .i64 B.a, .slice fb B.F.length fcb, .int .i64 B.t] 50 0 _ rfl
  have y1 := two_b w #[.int .i64 A.n, .slice oa A.R.length ca, .int .i64 A.m, .int .i64 A.a, .slice fa A.F.length fca, .int .i64 A.t] 50 #[.int .i64 B.n, .slice ob B.R.length cb, .int .i64 B.m, .int .i64 B.a, .slice fb B.F.length fcb, .int .i64 B.t] 50 1 _ rfl
  have y2 := two_b w #[.int .i64 A.n, .slice oa A.R.length ca, .int .i64 A.m, .int .i64 A.a, .slice fa A.F.length fca, .int .i64 A.t] 50 #[.int .i64 B.n, .slice ob B.R.length cb, .int .i64 B.m, .int .i64 B.a, .slice fb B.F.length fcb, .int .i64 B.t] 50 2 _ rfl
  have y3 := two_b w #[.int .i64 A.n, .slice oa A.R.length ca, .int .i64 A.m, .int .i64 A.a, .slice fa A.F.length fca, .int .i64 A.t] 50 #[.int .i64 B.n, .slice ob B.R.length cb, .int .i64 B.m, .int .i64 B.a, .slice fb B.F.length fcb, .int .i64 B.t] 50 3 _ rfl
  have y4 := two_b w #[.int .i64 A.n, .slice oa A.R.length ca, .int .i64 A.m, .int .i64 A.a, .slice fa A.F.length fca, .int .i64 A.t] 50 #[.int .i64 B.n, .slice ob B.R.length cb, .int .i64 B.m, .int .i64 B.a, .slice fb B.F.length fcb, .int .i64 B.t] 50 4 _ rfl
  have y5 := two_b w #[.int .i64 A.n, .slice oa A.R.length ca, .int .i64 A.m, .int .i64 A.a, .slice fa A.F.length fca, .int .i64 A.t] 50 #[.int .i64 B.n, .slice ob B.R.length cb, .int .i64 B.m, .int .i64 B.a, .slice fb B.F.length fcb, .int .i64 B.t] 50 5 _ rfl
  cases h1 : (eqTabF A.n B.n A.R B.R)
  case false =>
    have HM : Hid (eqSrF A B = false) := by show eqSrF A B = false; unfold eqSrF; rw [h1]; simp
    go_enter Try.func33, Try.ntmps33
    go_wp2_with (first | (go_at_call 85; refine Calls.mono (Ans.eqb (c_EqualTables _ _ _ _ _ _ _ _ _ (hA.keep hb) (hB.keep hb)) h1) ?_; rintro e w1 ⟨rfl, hbn⟩; replace x0 := cell_keep x0 hbn; replace x1 := cell_keep x1 hbn; replace x2 := cell_keep x2 hbn; replace x3 := cell_keep x3 hbn; replace x4 := cell_keep x4 hbn; replace x5 := cell_keep x5 hbn; replace y0 := cell_keep y0 hbn; replace y1 := cell_keep y1 hbn; replace y2 := cell_keep y2 hbn; replace y3 := cell_keep y3 hbn; replace y4 := cell_keep y4 hbn; replace y5 := cell_keep y5 hbn; replace hb := bel_to (w := w) (by first | exact hb | exact hb.alloc hb.size _ | exact (hb.alloc hb.size _).alloc (Nat.le_trans hb.size (by simp)) _ | exact hb.setCell (by simp [hb.size]) _) hbn; clear hbn) | fail)
    go_ret
    exact ⟨ret_bool HM.out.symm, hb⟩
  cases h2 : (A.m == B.m)
  case false =>
    have HM : Hid (eqSrF A B = false) := by show eqSrF A B = false; unfold eqSrF; rw [h2]; simp
    go_enter Try.func33, Try.ntmps33
    go_wp2_with (first | (go_at_call 85; refine Calls.mono (Ans.eqb (c_EqualTables _ _ _ _ _ _ _ _ _ (hA.keep hb) (hB.keep hb)) h1) ?_; rintro e w1 ⟨rfl, hbn⟩; replace x0 := cell_keep x0 hbn; replace x1 := cell_keep x1 hbn; replace x2 := cell_keep x2 hbn; replace x3 := cell_keep x3 hbn; replace x4 := cell_keep x4 hbn; replace x5 := cell_keep x5 hbn; replace y0 := cell_keep y0 hbn; replace y1 := cell_keep y1 hbn; replace y2 := cell_keep y2 hbn; replace y3 := cell_keep y3 hbn; replace y4 := cell_keep y4 hbn; replace y5 := cell_keep y5 hbn; replace hb := bel_to (w := w) (by first | exact hb | exact hb.alloc hb.size _ | exact (hb.alloc hb.size _).alloc (Nat.le_trans hb.size (by simp)) _ | exact hb.setCell (by simp [hb.size]) _) hbn; clear hbn) | fail)
    go_ret
    exact ⟨ret_bool HM.out.symm, hb⟩
  cases h3 : (A.a == B.a)
  case false =>
    have HM : Hid (eqSrF A B = false) := by show eqSrF A B = false; unfold eqSrF; rw [h3]; simp
    go_enter Try.func33, Try.ntmps33
    go_wp2_with (first | (go_at_call 85; refine Calls.mono (Ans.eqb (c_EqualTables _ _ _ _ _ _ _ _ _ (hA.keep hb) (hB.keep hb)) h1) ?_; rintro e w1 ⟨rfl, hbn⟩; replace x0 := cell_keep x0 hbn; replace x1 := cell_keep x1 hbn; replace x2 := cell_keep x2 hbn; replace x3 := cell_keep x3 hbn; replace x4 := cell_keep x4 hbn; replace x5 := cell_keep x5 hbn; replace y0 := cell_keep y0 hbn; replace y1 := cell_keep y1 hbn; replace y2 := cell_keep y2 hbn; replace y3 := cell_keep y3 hbn; replace y4 := cell_keep y4 hbn; replace y5 := cell_keep y5 hbn; replace hb := bel_to (w := w) (by first | exact hb | exact hb.alloc hb.size _ | exact (hb.alloc hb.size _).alloc (Nat.le_trans hb.size (by simp)) _ | exact hb.setCell (by simp [hb.size]) _) hbn; clear hbn) | fail)
    go_ret
    exact ⟨ret_bool HM.out.symm, hb⟩
  cases h4 : (decide (A.F = B.F))
  case false =>
    have HM : Hid (eqSrF A B = false) := by show eqSrF A B = false; unfold eqSrF; rw [h4]; simp
    go_enter Try.func33, Try.ntmps33
    go_wp2_with (first | (go_at_call 85; refine Calls.mono (Ans.eqb (c_EqualTables _ _ _ _ _ _ _ _ _ (hA.keep hb) (hB.keep hb)) h1) ?_; rintro e w1 ⟨rfl, hbn⟩; replace x0 := cell_keep x0 hbn; replace x1 := cell_keep x1 hbn; replace x2 := cell_keep x2 hbn; replace x3 := cell_keep x3 hbn; replace x4 := cell_keep x4 hbn; replace x5 := cell_keep x5 hbn; replace y0 := cell_keep y0 hbn; replace y1 := cell_keep y1 hbn; replace y2 := cell_keep y2 hbn; replace y3 := cell_keep y3 hbn; replace y4 := cell_keep y4 hbn; replace y5 := cell_keep y5 hbn; replace hb := bel_to (w := w) (by first | exact hb | exact hb.alloc hb.size _ | exact (hb.alloc hb.size _).alloc (Nat.le_trans hb.size (by simp)) _ | exact hb.setCell (by simp [hb.size]) _) hbn; clear hbn) | (go_at_call 86; refine Calls.mono (Ans.eqb (c_SameDeps _ _ _ _ _ _ _ (hC.keep hb) (hD.keep hb)) h4) ?_; rintro e w1 ⟨rfl, hbn⟩; replace x0 := cell_keep x0 hbn; replace x1 := cell_keep x1 hbn; replace x2 := cell_keep x2 hbn; replace x3 := cell_keep x3 hbn; replace x4 := cell_keep x4 hbn; replace x5 := cell_keep x5 hbn; replace y0 := cell_keep y0 hbn; replace y1 := cell_keep y1 hbn; replace y2 := cell_keep y2 hbn; replace y3 := cell_keep y3 hbn; replace y4 := cell_keep y4 hbn; replace y5 := cell_keep y5 hbn; replace hb := bel_to (w := w) (by first | exact hb | exact hb.alloc hb.size _ | exact (hb.alloc hb.size _).alloc (Nat.le_trans hb.size (by simp)) _ | exact hb.setCell (by simp [hb.size]) _) hbn; clear hbn) | fail)
    go_ret
    exact ⟨ret_bool HM.out.symm, hb⟩
  cases h5 : (A.t == B.t)
  case false =>
    have HM : Hid (eqSrF A B = false) := by show eqSrF A B = false; unfold eqSrF; rw [h5]; simp
    go_enter Try.func33, Try.ntmps33
    go_wp2_with (first | (go_at_call 85; refine Calls.mono (Ans.eqb (c_EqualTables _ _ _ _ _ _ _ _ _ (hA.keep hb) (hB.keep hb)) h1) ?_; rintro e w1 ⟨rfl, hbn⟩; replace x0 := cell_keep x0 hbn; replace x1 := cell_keep x1 hbn; replace x2 := cell_keep x2 hbn; replace x3 := cell_keep x3 hbn; replace x4 := cell_keep x4 hbn; replace x5 := cell_keep x5 hbn; replace y0 := cell_keep y0 hbn; replace y1 := cell_keep y1 hbn; replace y2 := cell_keep y2 hbn; replace y3 := cell_keep y3 hbn; replace y4 := cell_keep y4 hbn; replace y5 := cell_keep y5 hbn; replace hb := bel_to (w := w) (by first | exact hb | exact hb.alloc hb.size _ | exact (hb.alloc hb.size _).alloc (Nat.le_trans hb.size (by simp)) _ | exact hb.setCell (by simp [hb.size]) _) hbn; clear hbn) | (go_at_call 86; refine Calls.mono (Ans.eqb (c_SameDeps _ _ _ _ _ _ _ (hC.keep hb) (hD.keep hb)) h4) ?_; rintro e w1 ⟨rfl, hbn⟩; replace x0 := cell_keep x0 hbn; replace x1 := cell_keep x1 hbn; replace x2 := cell_keep x2 hbn; replace x3 := cell_keep x3 hbn; replace x4 := cell_keep x4 hbn; replace x5 := cell_keep x5 hbn; replace y0 := cell_keep y0 hbn; replace y1 := cell_keep y1 hbn; replace y2 := cell_keep y2 hbn; replace y3 := cell_keep y3 hbn; replace y4 := cell_keep y4 hbn; replace y5 := cell_keep y5 hbn; replace hb := bel_to (w := w) (by first | exact hb | exact hb.alloc hb.size _ | exact (hb.alloc hb.size _).alloc (Nat.le_trans hb.size (by simp)) _ | exact hb.setCell (by simp [hb.size]) _) hbn; clear hbn) | fail)
    go_ret
    exact ⟨ret_bool HM.out.symm, hb⟩
  have HM : Hid (eqSrF A B = true) := by show eqSrF A B = true; unfold eqSrF; rw [h1, h2, h3, h4, h5]; rfl
  go_enter Try.func33, Try.ntmps33
  go_wp2_with (first | (go_at_call 85; refine Calls.mono (Ans.eqb (c_EqualTables _ _ _ _ _ _ _ _ _ (hA.keep hb) (hB.keep hb)) h1) ?_; rintro e w1 ⟨rfl, hbn⟩; replace x0 := cell_keep x0 hbn; replace x1 := cell_keep x1 hbn; replace x2 := cell_keep x2 hbn; replace x3 := cell_keep x3 hbn; replace x4 := cell_keep x4 hbn; replace x5 := cell_keep x5 hbn; replace y0 := cell_keep y0 hbn; replace y1 := cell_keep y1 hbn; replace y2 := cell_keep y2 hbn; replace y3 := cell_keep y3 hbn; replace y4 := cell_keep y4 hbn; replace y5 := cell_keep y5 hbn; replace hb := bel_to (w := w) (by first | exact hb | exact hb.alloc hb.size _ | exact (hb.alloc hb.size _).alloc (Nat.le_trans hb.size (by simp)) _ | exact hb.setCell (by simp [hb.size]) _) hbn; clear hbn) | (go_at_call 86; refine Calls.mono (Ans.eqb (c_SameDeps _ _ _ _ _ _ _ (hC.keep hb) (hD.keep hb)) h4) ?_; rintro e w1 ⟨rfl, hbn⟩; replace x0 := cell_keep x0 hbn; replace x1 := cell_keep x1 hbn; replace x2 := cell_keep x2 hbn; replace x3 := cell_keep x3 hbn; replace x4 := cell_keep x4 hbn; replace x5 := cell_keep x5 hbn; replace y0 := cell_keep y0 hbn; replace y1 := cell_keep y1 hbn; replace y2 := cell_keep y2 hbn; replace y3 := cell_keep y3 hbn; replace y4 := cell_keep y4 hbn; replace y5 := cell_keep y5 hbn; replace hb := bel_to (w := w) (by first | exact hb | exact hb.alloc hb.size _ | exact (hb.alloc hb.size _).alloc (Nat.le_trans hb.size (by simp)) _ | exact hb.setCell (by simp [hb.size]) _) hbn; clear hbn) | fail)
  go_ret
  exact ⟨ret_bool HM.out.symm, hb⟩
set_option maxHeartbeats 800000 in
theorem c_specEqualSearches (A B : Sr) (oa ob fa fb) (ca cb fca fcb : Nat) (w : World) (hA : RowsAt w oa A.R) (hB : RowsAt w ob B.R) (hC : DepsAt w fa A.F) (hD : DepsAt w fb B.F) :
    Ans Try.prog 31 #[.agg #[.int .i64 A.n, .slice oa A.R.length ca, .int .i64 A.m, .int .i64 A.a, .slice fa A.F.length fca, .int .i64 A.t], .agg #[.int .i64 B.n, .slice ob B.R.length cb, .int .i64 B.m, .int .i64 B.a, .slice fb B.F.length fcb, .int .i64 B.t]] w (.bool (eqSrF A B)) := by
  unfold Ans
  have hb := bel2 w (.cells #[.int .i64 A.n, .slice oa A.R.length ca, .int .i64 A.m, .int .i64 A.a, .slice fa A.F.length fca, .int .i64 A.t] 50) (.cells #[.int .i64 B.n, .slice ob B.R.length cb, .int .i64 B.m, .int .i64 B.a, .slice fb B.F.length fcb, .int .i64 B.t] 50)
  have x0 := two_a w #[.int .i64 A.n, .slice oa A.R.length ca, .int .i64 A.m, .int .i64 A.a, .slice fa A.F.length fca, .int .i64 A.t] 50 #[.int .i64 B.n, .slice ob B.R.length cb, .int .i64 B.m, .int .i64 B.a, .slice fb B.F.length fcb, .int .i64 B.t] 50 0 _ rfl
  have x1 := two_a w #[.int .i64 A.n, .slice oa A.R.length ca, .int .i64 A.m, .int .i64 A.a, .slice fa A.F.length fca, .int .i64 A.t] 50 #[.int .i64 B.n, .slice ob B.R.length cb, .int .i64 B.m, .int .i64 B.a, .slice fb B.F.length fcb, .int .i64 B.t] 50 1 _ rfl
  have x2 := two_a w #[.int .i64 A.n, .slice oa A.R.length ca, .int .i64 A.m, .int .i64 A.a, .slice fa A.F.length fca, .int .i64 A.t] 50 #[.int .i64 B.n, .slice ob B.R.length cb, .int .i64 B.m, .int .i64 B.a, .slice fb B.F.length fcb, .int .i64 B.t] 50 2 _ rfl
  have x3 := two_a w #[.int .i64 A.n, .slice oa A.R.length ca, .int .i64 A.m, .int .i64 A.a, .slice fa A.F.length fca, .int .i64 A.t] 50 #[.int .i64 B.n, .slice ob B.R.length cb, .int .i64 B.m, .int .i64 B.a, .slice fb B.F.length fcb, .int .i64 B.t] 50 3 _ rfl
  have x4 := two_a w #[.int .i64 A.n, .slice oa A.R.length ca, .int .i64 A.m, .int .i64 A.a, .slice fa A.F.length fca, .int .i64 A.t] 50 #[.int .i64 B.n, .slice ob B.R.length cb, .int .i64 B.m, .int .i64 B.a, .slice fb B.F.length fcb, .int .i64 B.t] 50 4 _ rfl
  have x5 := two_a w #[.int .i64 A.n, .slice oa A.R.length ca, .int .i64 A.m, .int .i64 A.a, .slice fa A.F.length fca, .int .i64 A.t] 50 #[.int .i64 B.n, .slice ob B.R.length cb, .int .i64 B.m, .int .i64 B.a, .slice fb B.F.length fcb, .int .i64 B.t] 50 5 _ rfl
  have y0 := two_b w #[.int .i64 A.n, .slice oa A.R.length ca, .int .i64 A.m, .int .i64 A.a, .slice fa A.F.length fca, .int .i64 A.t] 50 #[.int .i64 B.n, .slice ob B.R.length cb, .int .i64 B.m, .int .i64 B.a, .slice fb B.F.length fcb, .int .i64 B.t] 50 0 _ rfl
  have y1 := two_b w #[.int .i64 A.n, .slice oa A.R.length ca, .int .i64 A.m, .int .i64 A.a, .slice fa A.F.length fca, .int .i64 A.t] 50 #[.int .i64 B.n, .slice ob B.R.length cb, .int .i64 B.m, .int .i64 B.a, .slice fb B.F.length fcb, .int .i64 B.t] 50 1 _ rfl
  have y2 := two_b w #[.int .i64 A.n, .slice oa A.R.length ca, .int .i64 A.m, .int .i64 A.a, .slice fa A.F.length fca, .int .i64 A.t] 50 #[.int .i64 B.n, .slice ob B.R.length cb, .int .i64 B.m, .int .i64 B.a, .slice fb B.F.length fcb, .int .i64 B.t] 50 2 _ rfl
  have y3 := two_b w #[.int .i64 A.n, .slice oa A.R.length ca, .int .i64 A.m, .int .i64 A.a, .slice fa A.F.length fca, .int .i64 A.t] 50 #[.int .i64 B.n, .slice ob B.R.length cb, .int .i64 B.m, .int .i64 B.a, .slice fb B.F.length fcb, .int .i64 B.t] 50 3 _ rfl
  have y4 := two_b w #[.int .i64 A.n, .slice oa A.R.length ca, .int .i64 A.m, .int .i64 A.a, .slice fa A.F.length fca, .int .i64 A.t] 50 #[.int .i64 B.n, .slice ob B.R.length cb, .int .i64 B.m, .int .i64 B.a, .slice fb B.F.length fcb, .int .i64 B.t] 50 4 _ rfl
  have y5 := two_b w #[.int .i64 A.n, .slice oa A.R.length ca, .int .i64 A.m, .int .i64 A.a, .slice fa A.F.length fca, .int .i64 A.t] 50 #[.int .i64 B.n, .slice ob B.R.length cb, .int .i64 B.m, .int .i64 B.a, .slice fb B.F.length fcb, .int .i64 B.t] 50 5 _ rfl
  cases h1 : (eqTabF A.n B.n A.R B.R)
  case false =>
    have HM : Hid (eqSrF A B = false) := by show eqSrF A B = false; unfold eqSrF; rw [h1]; simp
    go_enter Try.func31, Try.ntmps31
    go_wp2_with (first | (go_at_call 83; refine Calls.mono (Ans.eqb (c_specEqualTables _ _ _ _ _ _ _ _ _ (hA.keep hb) (hB.keep hb)) h1) ?_; rintro e w1 ⟨rfl, hbn⟩; replace x0 := cell_keep x0 hbn; replace x1 := cell_keep x1 hbn; replace x2 := cell_keep x2 hbn; replace x3 := cell_keep x3 hbn; replace x4 := cell_keep x4 hbn; replace x5 := cell_keep x5 hbn; replace y0 := cell_keep y0 hbn; replace y1 := cell_keep y1 hbn; replace y2 := cell_keep y2 hbn; replace y3 := cell_keep y3 hbn; replace y4 := cell_keep y4 hbn; replace y5 := cell_keep y5 hbn; replace hb := bel_to (w := w) (by first | exact hb | exact hb.alloc hb.size _ | exact (hb.alloc hb.size _).alloc (Nat.le_trans hb.size (by simp)) _ | exact hb.setCell (by simp [hb.size]) _) hbn; clear hbn) | fail)
    go_ret
    exact ⟨ret_bool HM.out.symm, hb⟩
  cases h2 : (A.m == B.m)
  case false =>
    have HM : Hid (eqSrF A B = false) := by show eqSrF A B = false; unfold eqSrF; rw [h2]; simp
    go_enter Try.func31, Try.ntmps31
    go_wp2_with (first | (go_at_call 83; refine Calls.mono (Ans.eqb (c_specEqualTables _ _ _ _ _ _ _ _ _ (hA.keep hb) (hB.keep hb)) h1) ?_; rintro e w1 ⟨rfl, hbn⟩; replace x0 := cell_keep x0 hbn; replace x1 := cell_keep x1 hbn; replace x2 := cell_keep x2 hbn; replace x3 := cell_keep x3 hbn; replace x4 := cell_keep x4 hbn; replace x5 := cell_keep x5 hbn; replace y0 := cell_keep y0 hbn; replace y1 := cell_keep y1 hbn; replace y2 := cell_keep y2 hbn; replace y3 := cell_keep y3 hbn; replace y4 := cell_keep y4 hbn; replace y5 := cell_keep y5 hbn; replace hb := bel_to (w := w) (by first | exact hb | exact hb.alloc hb.size _ | exact (hb.alloc hb.size _).alloc (Nat.le_trans hb.size (by simp)) _ | exact hb.setCell (by simp [hb.size]) _) hbn; clear hbn) | fail)
    go_ret
    exact ⟨ret_bool HM.out.symm, hb⟩
  cases h3 : (A.a == B.a)
  case false =>
    have HM : Hid (eqSrF A B = false) := by show eqSrF A B = false; unfold eqSrF; rw [h3]; simp
    go_enter Try.func31, Try.ntmps31
    go_wp2_with (first | (go_at_call 83; refine Calls.mono (Ans.eqb (c_specEqualTables _ _ _ _ _ _ _ _ _ (hA.keep hb) (hB.keep hb)) h1) ?_; rintro e w1 ⟨rfl, hbn⟩; replace x0 := cell_keep x0 hbn; replace x1 := cell_keep x1 hbn; replace x2 := cell_keep x2 hbn; replace x3 := cell_keep x3 hbn; replace x4 := cell_keep x4 hbn; replace x5 := cell_keep x5 hbn; replace y0 := cell_keep y0 hbn; replace y1 := cell_keep y1 hbn; replace y2 := cell_keep y2 hbn; replace y3 := cell_keep y3 hbn; replace y4 := cell_keep y4 hbn; replace y5 := cell_keep y5 hbn; replace hb := bel_to (w := w) (by first | exact hb | exact hb.alloc hb.size _ | exact (hb.alloc hb.size _).alloc (Nat.le_trans hb.size (by simp)) _ | exact hb.setCell (by simp [hb.size]) _) hbn; clear hbn) | fail)
    go_ret
    exact ⟨ret_bool HM.out.symm, hb⟩
  cases h4 : (decide (A.F = B.F))
  case false =>
    have HM : Hid (eqSrF A B = false) := by show eqSrF A B = false; unfold eqSrF; rw [h4]; simp
    go_enter Try.func31, Try.ntmps31
    go_wp2_with (first | (go_at_call 83; refine Calls.mono (Ans.eqb (c_specEqualTables _ _ _ _ _ _ _ _ _ (hA.keep hb) (hB.keep hb)) h1) ?_; rintro e w1 ⟨rfl, hbn⟩; replace x0 := cell_keep x0 hbn; replace x1 := cell_keep x1 hbn; replace x2 := cell_keep x2 hbn; replace x3 := cell_keep x3 hbn; replace x4 := cell_keep x4 hbn; replace x5 := cell_keep x5 hbn; replace y0 := cell_keep y0 hbn; replace y1 := cell_keep y1 hbn; replace y2 := cell_keep y2 hbn; replace y3 := cell_keep y3 hbn; replace y4 := cell_keep y4 hbn; replace y5 := cell_keep y5 hbn; replace hb := bel_to (w := w) (by first | exact hb | exact hb.alloc hb.size _ | exact (hb.alloc hb.size _).alloc (Nat.le_trans hb.size (by simp)) _ | exact hb.setCell (by simp [hb.size]) _) hbn; clear hbn) | (go_at_call 84; refine Calls.mono (Ans.eqb (c_specSameDeps _ _ _ _ _ _ _ (hC.keep hb) (hD.keep hb)) h4) ?_; rintro e w1 ⟨rfl, hbn⟩; replace x0 := cell_keep x0 hbn; replace x1 := cell_keep x1 hbn; replace x2 := cell_keep x2 hbn; replace x3 := cell_keep x3 hbn; replace x4 := cell_keep x4 hbn; replace x5 := cell_keep x5 hbn; replace y0 := cell_keep y0 hbn; replace y1 := cell_keep y1 hbn; replace y2 := cell_keep y2 hbn; replace y3 := cell_keep y3 hbn; replace y4 := cell_keep y4 hbn; replace y5 := cell_keep y5 hbn; replace hb := bel_to (w := w) (by first | exact hb | exact hb.alloc hb.size _ | exact (hb.alloc hb.size _).alloc (Nat.le_trans hb.size (by simp)) _ | exact hb.setCell (by simp [hb.size]) _) hbn; clear hbn) | fail)
    go_ret
    exact ⟨ret_bool HM.out.symm, hb⟩
  cases h5 : (A.t == B.t)
  case false =>
    have HM : Hid (eqSrF A B = false) := by show eqSrF A B = false; unfold eqSrF; rw [h5]; simp
    go_enter Try.func31, Try.ntmps31
    go_wp2_with (first | (go_at_call 83; refine Calls.mono (Ans.eqb (c_specEqualTables _ _ _ _ _ _ _ _ _ (hA.keep hb) (hB.keep hb)) h1) ?_; rintro e w1 ⟨rfl, hbn⟩; replace x0 := cell_keep x0 hbn; replace x1 := cell_keep x1 hbn; replace x2 := cell_keep x2 hbn; replace x3 := cell_keep x3 hbn; replace x4 := cell_keep x4 hbn; replace x5 := cell_keep x5 hbn; replace y0 := cell_keep y0 hbn; replace y1 := cell_keep y1 hbn; replace y2 := cell_keep y2 hbn; replace y3 := cell_keep y3 hbn; replace y4 := cell_keep y4 hbn; replace y5 := cell_keep y5 hbn; replace hb := bel_to (w := w) (by first | exact hb | exact hb.alloc hb.size _ | exact (hb.alloc hb.size _).alloc (Nat.le_trans hb.size (by simp)) _ | exact hb.setCell (by simp [hb.size]) _) hbn; clear hbn) | (go_at_call 84; refine Calls.mono (Ans.eqb (c_specSameDeps _ _ _ _ _ _ _ (hC.keep hb) (hD.keep hb)) h4) ?_; rintro e w1 ⟨rfl, hbn⟩; replace x0 := cell_keep x0 hbn; replace x1 := cell_keep x1 hbn; replace x2 := cell_keep x2 hbn; replace x3 := cell_keep x3 hbn; replace x4 := cell_keep x4 hbn; replace x5 := cell_keep x5 hbn; replace y0 := cell_keep y0 hbn; replace y1 := cell_keep y1 hbn; replace y2 := cell_keep y2 hbn; replace y3 := cell_keep y3 hbn; replace y4 := cell_keep y4 hbn; replace y5 := cell_keep y5 hbn; replace hb := bel_to (w := w) (by first | exact hb | exact hb.alloc hb.size _ | exact (hb.alloc hb.size _).alloc (Nat.le_trans hb.size (by simp)) _ | exact hb.setCell (by simp [hb.size]) _) hbn; clear hbn) | fail)
    go_ret
    exact ⟨ret_bool HM.out.symm, hb⟩
  have HM : Hid (eqSrF A B = true) := by show eqSrF A B = true; unfold eqSrF; rw [h1, h2, h3, h4, h5]; rfl
  go_enter Try.func31, Try.ntmps31
  go_wp2_with (first | (go_at_call 83; refine Calls.mono (Ans.eqb (c_specEqualTables _ _ _ _ _ _ _ _ _ (hA.keep hb) (hB.keep hb)) h1) ?_; rintro e w1 ⟨rfl, hbn⟩; replace x0 := cell_keep x0 hbn; replace x1 := cell_keep x1 hbn; replace x2 := cell_keep x2 hbn; replace x3 := cell_keep x3 hbn; replace x4 := cell_keep x4 hbn; replace x5 := cell_keep x5 hbn; replace y0 := cell_keep y0 hbn; replace y1 := cell_keep y1 hbn; replace y2 := cell_keep y2 hbn; replace y3 := cell_keep y3 hbn; replace y4 := cell_keep y4 hbn; replace y5 := cell_keep y5 hbn; replace hb := bel_to (w := w) (by first | exact hb | exact hb.alloc hb.size _ | exact (hb.alloc hb.size _).alloc (Nat.le_trans hb.size (by simp)) _ | exact hb.setCell (by simp [hb.size]) _) hbn; clear hbn) | (go_at_call 84; refine Calls.mono (Ans.eqb (c_specSameDeps _ _ _ _ _ _ _ (hC.keep hb) (hD.keep hb)) h4) ?_; rintro e w1 ⟨rfl, hbn⟩; replace x0 := cell_keep x0 hbn; replace x1 := cell_keep x1 hbn; replace x2 := cell_keep x2 hbn; replace x3 := cell_keep x3 hbn; replace x4 := cell_keep x4 hbn; replace x5 := cell_keep x5 hbn; replace y0 := cell_keep y0 hbn; replace y1 := cell_keep y1 hbn; replace y2 := cell_keep y2 hbn; replace y3 := cell_keep y3 hbn; replace y4 := cell_keep y4 hbn; replace y5 := cell_keep y5 hbn; replace hb := bel_to (w := w) (by first | exact hb | exact hb.alloc hb.size _ | exact (hb.alloc hb.size _).alloc (Nat.le_trans hb.size (by simp)) _ | exact hb.setCell (by simp [hb.size]) _) hbn; clear hbn) | fail)
  go_ret
  exact ⟨ret_bool HM.out.symm, hb⟩
end Go.Proofs.Ytkanbnbofoabeaa
