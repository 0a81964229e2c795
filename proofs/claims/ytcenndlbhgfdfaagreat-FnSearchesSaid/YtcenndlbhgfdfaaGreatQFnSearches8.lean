/- Contracts and lemmas for FnSearches, part 8 of 8. -/
import Derived.Test.YtcenndlbhgfdfaaGreatQFnSearches1
import Derived.Test.YtcenndlbhgfdfaaGreatQFnSearches2
import Derived.Test.YtcenndlbhgfdfaaGreatQFnSearches3
import Derived.Test.YtcenndlbhgfdfaaGreatQFnSearches4
import Derived.Test.YtcenndlbhgfdfaaGreatQFnSearches5
import Derived.Test.YtcenndlbhgfdfaaGreatQFnSearches6
import Derived.Test.YtcenndlbhgfdfaaGreatQFnSearches7
import Derived.Deep.RegionHeld3
import Derived.Deep.CutRange
namespace Go.Proofs.YtcenndlbhgfdfaaGreat
open Go.RowKit
set_option linter.unusedVariables false
set_option maxRecDepth 100000

theorem bel_world {B : Nat} {w0 w : World} (h : Below B w0 w) : ∃ w', w' = w := ⟨w, rfl⟩
set_option maxHeartbeats 100000000 in
theorem w_FnSearches (w : World) {v0 : Value} (w0 : InBytes w v0) :
    Calls Tryz.prog 3 #[v0] w fun e w' => e = .returned (.bool true) ∧ Below w.heap.size w w' := by
  obtain ⟨oc, mc, capc, rfl, hmm, hB⟩ := w0
  have hb := Below.refl w.heap.size w
  by_cases hbig : (1048576 : Int) < mc
  · go_enter Tryz.func3, Tryz.ntmps3
    go_wp2_with fail
    refine Calls.mono (Ans.eqb (b' := true) (c_big _ _ _ _) (by simpa using hbig)) ?_
    rintro e w1 ⟨rfl, hbn⟩
    replace hb := bel_to hb hbn
    go_wp2
    go_ret
    exact ⟨rfl, hb⟩
  have hmc : mc ≤ 1048576 := by omega
  go_enter Tryz.func3, Tryz.ntmps3
  go_wp2_with fail
  refine Calls.mono (Ans.eqb (b' := false) (c_big _ _ _ _) (by simp only [decide_eq_false_iff_not]; omega)) ?_
  rintro e w1 ⟨rfl, hbn⟩
  replace hB := hB.keep hbn
  replace hb := bel_to hb hbn
  clear hbn
  clear hbig
  go_wp2_with fail
  have H := c_DrawRunSearch oc mc capc hmc _ hB
  unfold DrawsSrX at H
  refine H.mono ?_
  clear H
  rintro e w2 ⟨A, o, c, fo, fc, xs, q, rfl, hO, hF, hsm, hap, hbn⟩
  have sA := srIn_of hO hF hsm.sb
  clear hO hF hap
  replace hB := hB.keep hbn
  replace hb := bel_to hb hbn
  clear hbn
  have kA := Blk.new w2 #[.int .i64 A.n, .slice o A.R.length c, .int .i64 A.m, .int .i64 A.a, .slice fo A.F.length fc, .int .i64 A.t] 29
  have hbn := (Below.refl w2.heap.size w2).alloc (Nat.le_refl _) (.cells #[.int .i64 A.n, .slice o A.R.length c, .int .i64 A.m, .int .i64 A.a, .slice fo A.F.length fc, .int .i64 A.t] 29)
  replace hB := hB.keep hbn
  replace sA := sA.keep hbn
  replace hb := bel_to hb hbn
  clear hbn
  obtain ⟨X, HX⟩ : ∃ X, Hid (runSr A q = X) := ⟨_, rfl⟩
  have bX : SB X := HX.out ▸ (run_sm2 (b := q) hsm).sb
  have n0 := kA.cell 0 (.int .i64 A.n) rfl
  have n1 := kA.cell 1 (.slice o A.R.length c) rfl
  have n2 := kA.cell 2 (.int .i64 A.m) rfl
  have n3 := kA.cell 3 (.int .i64 A.a) rfl
  have n4 := kA.cell 4 (.slice fo A.F.length fc) rfl
  have n5 := kA.cell 5 (.int .i64 A.t) rfl
  go_wp2_with fail
  have H := c_RunSearch A o fo c fc q _ sA.1 sA.2.1 sA.2.2
  rw [HX.out] at H
  refine (H.got bX).mono ?_
  clear H
  rintro e w3 ⟨oX, cX, fX, gX, rfl, sX, hbn⟩
  replace hB := hB.keep hbn
  replace sA := sA.keep hbn
  replace kA := kA.keep hbn
  replace hb := bel_to hb hbn
  clear hbn
  clear n0 n1 n2 n3 n4 n5
  have kX := Blk.new w3 #[.int .i64 X.n, .slice oX X.R.length cX, .int .i64 X.m, .int .i64 X.a, .slice fX X.F.length gX, .int .i64 X.t] 29
  have hbn := (Below.refl w3.heap.size w3).alloc (Nat.le_refl _) (.cells #[.int .i64 X.n, .slice oX X.R.length cX, .int .i64 X.m, .int .i64 X.a, .slice fX X.F.length gX, .int .i64 X.t] 29)
  replace hB := hB.keep hbn
  replace sA := sA.keep hbn
  replace kA := kA.keep hbn
  replace sX := sX.keep hbn
  replace hb := bel_to hb hbn
  clear hbn
  obtain ⟨is, HI⟩ : ∃ b, Hid (isSrF A = b) := ⟨_, rfl⟩
  have hq1 : (is != is) = false := by simp
  have eX := eqSr_self X
  have n0 := kA.cell 0 (.int .i64 A.n) rfl
  have n1 := kA.cell 1 (.slice o A.R.length c) rfl
  have n2 := kA.cell 2 (.int .i64 A.m) rfl
  have n3 := kA.cell 3 (.int .i64 A.a) rfl
  have n4 := kA.cell 4 (.slice fo A.F.length fc) rfl
  have n5 := kA.cell 5 (.int .i64 A.t) rfl
  have x0 := kX.cell 0 (.int .i64 X.n) rfl
  have x1 := kX.cell 1 (.slice oX X.R.length cX) rfl
  have x2 := kX.cell 2 (.int .i64 X.m) rfl
  have x3 := kX.cell 3 (.int .i64 X.a) rfl
  have x4 := kX.cell 4 (.slice fX X.F.length gX) rfl
  have x5 := kX.cell 5 (.int .i64 X.t) rfl
  go_upto_region 5 with fail
  generalize w3.alloc (.cells #[.int .i64 X.n, .slice oX X.R.length cX, .int .i64 X.m, .int .i64 X.a, .slice fX X.F.length gX, .int .i64 X.t] 29) = w4 at *
  have HRS : Hid (∀ w : World, SrIn w A o fo fc → Calls Tryz.prog 9 #[.agg #[.int .i64 A.n, .slice o A.R.length c, .int .i64 A.m, .int .i64 A.a, .slice fo A.F.length fc, .int .i64 A.t], .int .i64 q] w fun e w' => ∃ o c fo fc, e = .returned (.agg #[.int .i64 X.n, .slice o X.R.length c, .int .i64 X.m, .int .i64 X.a, .slice fo X.F.length fc, .int .i64 X.t]) ∧ SrIn w' X o fo fc ∧ Below w.heap.size w w') := fun w h => by have := c_specRunSearch A o fo c fc q w h.1 ⟨hsm.sb.1, hsm.sb.2.1⟩ h.2.1 hsm.sb.2.2 h.2.2; rw [HX.out] at this; exact this.got bX
  refine wp_region_held_drew (S := fun w' => w'.cell? ⟨w2.heap.size, 0, none⟩ = some (.int .i64 A.n) ∧ w'.cell? ⟨w2.heap.size, 1, none⟩ = some (.slice o A.R.length c) ∧ w'.cell? ⟨w2.heap.size, 2, none⟩ = some (.int .i64 A.m) ∧ w'.cell? ⟨w2.heap.size, 3, none⟩ = some (.int .i64 A.a) ∧ w'.cell? ⟨w2.heap.size, 4, none⟩ = some (.slice fo A.F.length fc) ∧ w'.cell? ⟨w2.heap.size, 5, none⟩ = some (.int .i64 A.t) ∧ w'.cell? ⟨w3.heap.size, 0, none⟩ = some (.int .i64 X.n) ∧ w'.cell? ⟨w3.heap.size, 1, none⟩ = some (.slice oX X.R.length cX) ∧ w'.cell? ⟨w3.heap.size, 2, none⟩ = some (.int .i64 X.m) ∧ w'.cell? ⟨w3.heap.size, 3, none⟩ = some (.int .i64 X.a) ∧ w'.cell? ⟨w3.heap.size, 4, none⟩ = some (.slice fX X.F.length gX) ∧ w'.cell? ⟨w3.heap.size, 5, none⟩ = some (.int .i64 X.t) ∧ Below w4.heap.size w4 w') (by kernel_rfl) ⟨cell_keep n0 (Below.refl _ _).drew, cell_keep n1 (Below.refl _ _).drew, cell_keep n2 (Below.refl _ _).drew, cell_keep n3 (Below.refl _ _).drew, cell_keep n4 (Below.refl _ _).drew, cell_keep n5 (Below.refl _ _).drew, cell_keep x0 (Below.refl _ _).drew, cell_keep x1 (Below.refl _ _).drew, cell_keep x2 (Below.refl _ _).drew, cell_keep x3 (Below.refl _ _).drew, cell_keep x4 (Below.refl _ _).drew, cell_keep x5 (Below.refl _ _).drew, (Below.refl _ _).drew⟩ (fun hS => ?_)
  (refine wpAnyH_val (i := 0) (some 35) ?_ rfl rfl (by kernel_rfl) (by kernel_rfl) (by kernel_rfl) (fun _ _ _ h => h) (by rfl) (by assumption) ?_ ?_; rotate_left; (intro w hSw; go_simp; (try with_reducible rfl)); (try simp only [Act.put, List.setIfInBounds_toArray, List.set_cons_zero, List.set_cons_succ])); (refine wpAnyH_val (i := 1) (some 36) ?_ rfl rfl (by kernel_rfl) (by kernel_rfl) (by kernel_rfl) (fun _ _ _ h => h) (by rfl) (by assumption) ?_ ?_; rotate_left; (intro w hSw; go_simp; (try with_reducible rfl)); (try simp only [Act.put, List.setIfInBounds_toArray, List.set_cons_zero, List.set_cons_succ])); (refine wpAnyH_val (i := 2) (some 37) ?_ rfl rfl (by kernel_rfl) (by kernel_rfl) (by kernel_rfl) (fun _ _ _ h => h) (by rfl) (by assumption) ?_ ?_; rotate_left; (intro w hSw; go_simp; (try with_reducible rfl)); (try simp only [Act.put, List.setIfInBounds_toArray, List.set_cons_zero, List.set_cons_succ]))
  (refine wpAnyH_ready (rs := [3]) (by kernel_rfl) (by simp) ?_; refine AllReadyH.cons rfl (fun K hK => ?_) AllReadyH.nil; go_simp)
  refine (HRS.out _ (sA.keep hS.2.2.2.2.2.2.2.2.2.2.2.2)).mono ?_
  rintro e wz ⟨oY, cY, fY, gY, rfl, sY, hbn⟩
  have hS3 := (show _ ∧ _ ∧ _ ∧ _ ∧ _ ∧ _ ∧ _ ∧ _ ∧ _ ∧ _ ∧ _ ∧ _ ∧ Below w4.heap.size w4 _ from ⟨cell_keep hS.1 hbn, cell_keep hS.2.1 hbn, cell_keep hS.2.2.1 hbn, cell_keep hS.2.2.2.1 hbn, cell_keep hS.2.2.2.2.1 hbn, cell_keep hS.2.2.2.2.2.1 hbn, cell_keep hS.2.2.2.2.2.2.1 hbn, cell_keep hS.2.2.2.2.2.2.2.1 hbn, cell_keep hS.2.2.2.2.2.2.2.2.1 hbn, cell_keep hS.2.2.2.2.2.2.2.2.2.1 hbn, cell_keep hS.2.2.2.2.2.2.2.2.2.2.1 hbn, cell_keep hS.2.2.2.2.2.2.2.2.2.2.2.1 hbn, bel_to hS.2.2.2.2.2.2.2.2.2.2.2.2 hbn⟩)
  refine hK.out _ _ hS3 (fun hS2 => ?_)
  clear hK hbn hS hS2
  have hS := hS3
  clear hS3
  (try simp only [Act.put, List.setIfInBounds_toArray, List.set_cons_zero, List.set_cons_succ])
  (refine wpAnyH_ready (rs := [4]) (by kernel_rfl) (by simp) ?_; refine AllReadyH.cons rfl (fun K hK => ?_) AllReadyH.nil; go_simp)
  refine Calls.mono (Ans.eqb (c_specEqualSearches X X oX oY fX fY cX cY gX gY _ (sX.keep hS.2.2.2.2.2.2.2.2.2.2.2.2).1.1 sY.1.1 (sX.keep hS.2.2.2.2.2.2.2.2.2.2.2.2).2.1 sY.2.1) eX) ?_
  rintro e wz ⟨rfl, hbn⟩
  have hS3 := (show _ ∧ _ ∧ _ ∧ _ ∧ _ ∧ _ ∧ _ ∧ _ ∧ _ ∧ _ ∧ _ ∧ _ ∧ Below w4.heap.size w4 _ from ⟨cell_keep hS.1 hbn, cell_keep hS.2.1 hbn, cell_keep hS.2.2.1 hbn, cell_keep hS.2.2.2.1 hbn, cell_keep hS.2.2.2.2.1 hbn, cell_keep hS.2.2.2.2.2.1 hbn, cell_keep hS.2.2.2.2.2.2.1 hbn, cell_keep hS.2.2.2.2.2.2.2.1 hbn, cell_keep hS.2.2.2.2.2.2.2.2.1 hbn, cell_keep hS.2.2.2.2.2.2.2.2.2.1 hbn, cell_keep hS.2.2.2.2.2.2.2.2.2.2.1 hbn, cell_keep hS.2.2.2.2.2.2.2.2.2.2.2.1 hbn, bel_to hS.2.2.2.2.2.2.2.2.2.2.2.2 hbn⟩)
  refine hK.out _ _ hS3 (fun hS2 => ?_)
  clear hK hbn hS hS2
  have hS := hS3
  clear hS3
  (try simp only [Act.put, List.setIfInBounds_toArray, List.set_cons_zero, List.set_cons_succ])
  (refine wpAnyH_val (i := 5) (some 40) ?_ rfl rfl (by kernel_rfl) (by kernel_rfl) (by kernel_rfl) (fun _ _ _ h => h) (by rfl) (by assumption) ?_ ?_; rotate_left; (intro w hSw; go_simp; (try with_reducible rfl)); (try simp only [Act.put, List.setIfInBounds_toArray, List.set_cons_zero, List.set_cons_succ])); (refine wpAnyH_val (i := 6) (some 41) ?_ rfl rfl (by kernel_rfl) (by kernel_rfl) (by kernel_rfl) (fun _ _ _ h => h) (by rfl) (by assumption) ?_ ?_; rotate_left; (intro w hSw; go_simp; (try with_reducible rfl)); (try simp only [Act.put, List.setIfInBounds_toArray, List.set_cons_zero, List.set_cons_succ])); (refine wpAnyH_val (i := 7) (some 42) ?_ rfl rfl (by kernel_rfl) (by kernel_rfl) (by kernel_rfl) (fun _ _ _ h => h) (by rfl) (by assumption) ?_ ?_; rotate_left; (intro w hSw; go_simp; (try with_reducible rfl)); (try simp only [Act.put, List.setIfInBounds_toArray, List.set_cons_zero, List.set_cons_succ])); (refine wpAnyH_val (i := 9) (some 44) ?_ rfl rfl (by kernel_rfl) (by kernel_rfl) (by kernel_rfl) (fun _ _ _ h => h) (by rfl) (by assumption) ?_ ?_; rotate_left; (intro w hSw; go_simp; (try with_reducible rfl)); (try simp only [Act.put, List.setIfInBounds_toArray, List.set_cons_zero, List.set_cons_succ]))
  (refine wpAnyH_ready (rs := [8]) (by kernel_rfl) (by simp) ?_; refine AllReadyH.cons rfl (fun K hK => ?_) AllReadyH.nil; go_simp)
  refine Calls.mono (Ans.eqb (c_IsSearch A o fo c fc _ (sA.keep hS.2.2.2.2.2.2.2.2.2.2.2.2).1 (sA.keep hS.2.2.2.2.2.2.2.2.2.2.2.2).2.1) HI.out) ?_
  rintro e wz ⟨rfl, hbn⟩
  have hS3 := (show _ ∧ _ ∧ _ ∧ _ ∧ _ ∧ _ ∧ _ ∧ _ ∧ _ ∧ _ ∧ _ ∧ _ ∧ Below w4.heap.size w4 _ from ⟨cell_keep hS.1 hbn, cell_keep hS.2.1 hbn, cell_keep hS.2.2.1 hbn, cell_keep hS.2.2.2.1 hbn, cell_keep hS.2.2.2.2.1 hbn, cell_keep hS.2.2.2.2.2.1 hbn, cell_keep hS.2.2.2.2.2.2.1 hbn, cell_keep hS.2.2.2.2.2.2.2.1 hbn, cell_keep hS.2.2.2.2.2.2.2.2.1 hbn, cell_keep hS.2.2.2.2.2.2.2.2.2.1 hbn, cell_keep hS.2.2.2.2.2.2.2.2.2.2.1 hbn, cell_keep hS.2.2.2.2.2.2.2.2.2.2.2.1 hbn, bel_to hS.2.2.2.2.2.2.2.2.2.2.2.2 hbn⟩)
  refine hK.out _ _ hS3 (fun hS2 => ?_)
  clear hK hbn hS hS2
  have hS := hS3
  clear hS3
  (try simp only [Act.put, List.setIfInBounds_toArray, List.set_cons_zero, List.set_cons_succ])
  (refine wpAnyH_ready (rs := [10]) (by kernel_rfl) (by simp) ?_; refine AllReadyH.cons rfl (fun K hK => ?_) AllReadyH.nil; go_simp)
  refine Calls.mono (Ans.eqb (c_specIsSearch A o fo c fc _ (sA.keep hS.2.2.2.2.2.2.2.2.2.2.2.2).1.1 (sA.keep hS.2.2.2.2.2.2.2.2.2.2.2.2).2.1) HI.out) ?_
  rintro e wz ⟨rfl, hbn⟩
  have hS3 := (show _ ∧ _ ∧ _ ∧ _ ∧ _ ∧ _ ∧ _ ∧ _ ∧ _ ∧ _ ∧ _ ∧ _ ∧ Below w4.heap.size w4 _ from ⟨cell_keep hS.1 hbn, cell_keep hS.2.1 hbn, cell_keep hS.2.2.1 hbn, cell_keep hS.2.2.2.1 hbn, cell_keep hS.2.2.2.2.1 hbn, cell_keep hS.2.2.2.2.2.1 hbn, cell_keep hS.2.2.2.2.2.2.1 hbn, cell_keep hS.2.2.2.2.2.2.2.1 hbn, cell_keep hS.2.2.2.2.2.2.2.2.1 hbn, cell_keep hS.2.2.2.2.2.2.2.2.2.1 hbn, cell_keep hS.2.2.2.2.2.2.2.2.2.2.1 hbn, cell_keep hS.2.2.2.2.2.2.2.2.2.2.2.1 hbn, bel_to hS.2.2.2.2.2.2.2.2.2.2.2.2 hbn⟩)
  refine hK.out _ _ hS3 (fun hS2 => ?_)
  clear hK hbn hS hS2
  have hS := hS3
  clear hS3
  (try simp only [Act.put, List.setIfInBounds_toArray, List.set_cons_zero, List.set_cons_succ])
  (refine wpAnyH_val (i := 11) (some 46) ?_ rfl rfl (by kernel_rfl) (by kernel_rfl) (by kernel_rfl) (fun _ _ _ h => h) (by rfl) (by assumption) ?_ ?_; rotate_left; (intro w hSw; go_simp; (try with_reducible rfl)); (try simp only [Act.put, List.setIfInBounds_toArray, List.set_cons_zero, List.set_cons_succ])); (refine wpAnyH_val (i := 12) (some 47) ?_ rfl rfl (by kernel_rfl) (by kernel_rfl) (by kernel_rfl) (fun _ _ _ h => h) (by rfl) (by assumption) ?_ ?_; rotate_left; (intro w hSw; go_simp; (try with_reducible rfl)); (try simp only [Act.put, List.setIfInBounds_toArray, List.set_cons_zero, List.set_cons_succ]))
  refine wpAnyH_done (by kernel_rfl) ?_ _
  try dsimp only [NoPanic, Exit.then]
  have hbn := hS.2.2.2.2.2.2.2.2.2.2.2.2
  clear hS n0 x0 n1 x1 n2 x2 n3 x3 n4 x4 n5 x5
  replace hB := hB.keep hbn
  replace sA := sA.keep hbn
  replace kA := kA.keep hbn
  replace sX := sX.keep hbn
  replace kX := kX.keep hbn
  replace hb := bel_to hb hbn
  clear hbn
  obtain ⟨T, HTT⟩ : ∃ T, Hid (stSr A = T) := ⟨_, rfl⟩
  have bT : SB T := HTT.out ▸ st_sb hsm
  obtain ⟨ok, HOK⟩ : ∃ b, Hid (okSr A = b) := ⟨_, rfl⟩
  obtain ⟨l9, r9, b9, h9⟩ : ∃ l r b, candAtF A = (l, r, b) := ⟨_, _, _, rfl⟩
  have H9 : Hid (candAtF A = (l9, r9, b9)) := h9
  clear h9
  clear hq1 eX
  have n0 := kA.cell 0 (.int .i64 A.n) rfl
  have n1 := kA.cell 1 (.slice o A.R.length c) rfl
  have n2 := kA.cell 2 (.int .i64 A.m) rfl
  have n3 := kA.cell 3 (.int .i64 A.a) rfl
  have n4 := kA.cell 4 (.slice fo A.F.length fc) rfl
  have n5 := kA.cell 5 (.int .i64 A.t) rfl
  go_wp2_with fail
  have H := c_StepSearch A o fo c fc _ sA.1 sA.2.1 sA.2.2
  rw [HTT.out, HOK.out] at H
  refine (H.got bT).mono ?_
  clear H
  rintro e w5 ⟨oS, cS, fS, gS, rfl, sS, hbn⟩
  replace hB := hB.keep hbn
  replace sA := sA.keep hbn
  replace kA := kA.keep hbn
  replace sX := sX.keep hbn
  replace kX := kX.keep hbn
  replace hb := bel_to hb hbn
  clear hbn
  clear n0 n1 n2 n3 n4 n5
  have kS := Blk.new w5 #[.int .i64 T.n, .slice oS T.R.length cS, .int .i64 T.m, .int .i64 T.a, .slice fS T.F.length gS, .int .i64 T.t] 29
  have hbn := (Below.refl w5.heap.size w5).alloc (Nat.le_refl _) (.cells #[.int .i64 T.n, .slice oS T.R.length cS, .int .i64 T.m, .int .i64 T.a, .slice fS T.F.length gS, .int .i64 T.t] 29)
  replace hB := hB.keep hbn
  replace sA := sA.keep hbn
  replace kA := kA.keep hbn
  replace sX := sX.keep hbn
  replace kX := kX.keep hbn
  replace sS := sS.keep hbn
  replace hb := bel_to hb hbn
  clear hbn
  have n0 := kA.cell 0 (.int .i64 A.n) rfl
  have n1 := kA.cell 1 (.slice o A.R.length c) rfl
  have n2 := kA.cell 2 (.int .i64 A.m) rfl
  have n3 := kA.cell 3 (.int .i64 A.a) rfl
  have n4 := kA.cell 4 (.slice fo A.F.length fc) rfl
  have n5 := kA.cell 5 (.int .i64 A.t) rfl
  go_wp2_with fail
  have H := c_specStepSearch A o fo c fc _ sA.1 ⟨hsm.sb.1, hsm.sb.2.1⟩ sA.2.1 hsm.sb.2.2 sA.2.2
  rw [HTT.out, HOK.out] at H
  refine (H.got bT).mono ?_
  clear H
  rintro e w6 ⟨oT, cT, fT, gT, rfl, sT, hbn⟩
  replace hB := hB.keep hbn
  replace sA := sA.keep hbn
  replace kA := kA.keep hbn
  replace sX := sX.keep hbn
  replace kX := kX.keep hbn
  replace sS := sS.keep hbn
  replace kS := kS.keep hbn
  replace hb := bel_to hb hbn
  clear hbn
  clear n0 n1 n2 n3 n4 n5
  have kT := Blk.new w6 #[.int .i64 T.n, .slice oT T.R.length cT, .int .i64 T.m, .int .i64 T.a, .slice fT T.F.length gT, .int .i64 T.t] 29
  have hbn := (Below.refl w6.heap.size w6).alloc (Nat.le_refl _) (.cells #[.int .i64 T.n, .slice oT T.R.length cT, .int .i64 T.m, .int .i64 T.a, .slice fT T.F.length gT, .int .i64 T.t] 29)
  replace hB := hB.keep hbn
  replace sA := sA.keep hbn
  replace kA := kA.keep hbn
  replace sX := sX.keep hbn
  replace kX := kX.keep hbn
  replace sS := sS.keep hbn
  replace kS := kS.keep hbn
  replace sT := sT.keep hbn
  replace hb := bel_to hb hbn
  clear hbn
  have n0 := kA.cell 0 (.int .i64 A.n) rfl
  have n1 := kA.cell 1 (.slice o A.R.length c) rfl
  have n2 := kA.cell 2 (.int .i64 A.m) rfl
  have n3 := kA.cell 3 (.int .i64 A.a) rfl
  have n4 := kA.cell 4 (.slice fo A.F.length fc) rfl
  have n5 := kA.cell 5 (.int .i64 A.t) rfl
  go_wp2_with fail
  refine Calls.mono (c_CandidateAt A o fo c fc _ sA.1 sA.2.1 l9 r9 b9 H9.out) ?_
  rintro e w7 ⟨rfl, hbn⟩
  replace hB := hB.keep hbn
  replace sA := sA.keep hbn
  replace kA := kA.keep hbn
  replace sX := sX.keep hbn
  replace kX := kX.keep hbn
  replace sS := sS.keep hbn
  replace kS := kS.keep hbn
  replace sT := sT.keep hbn
  replace kT := kT.keep hbn
  replace hb := bel_to hb hbn
  clear hbn
  clear n0 n1 n2 n3 n4 n5
  have kD := Blk.new w7 #[.int .i64 l9, .int .i64 r9] 38
  have hbn := (Below.refl w7.heap.size w7).alloc (Nat.le_refl _) (.cells #[.int .i64 l9, .int .i64 r9] 38)
  replace hB := hB.keep hbn
  replace sA := sA.keep hbn
  replace kA := kA.keep hbn
  replace sX := sX.keep hbn
  replace kX := kX.keep hbn
  replace sS := sS.keep hbn
  replace kS := kS.keep hbn
  replace sT := sT.keep hbn
  replace kT := kT.keep hbn
  replace hb := bel_to hb hbn
  clear hbn
  have n0 := kA.cell 0 (.int .i64 A.n) rfl
  have n1 := kA.cell 1 (.slice o A.R.length c) rfl
  have n2 := kA.cell 2 (.int .i64 A.m) rfl
  have n3 := kA.cell 3 (.int .i64 A.a) rfl
  have n4 := kA.cell 4 (.slice fo A.F.length fc) rfl
  have n5 := kA.cell 5 (.int .i64 A.t) rfl
  go_wp2_with fail
  refine Calls.mono (c_specCandidateAt A o fo c fc _ sA.1.1 sA.2.1 l9 r9 b9 H9.out) ?_
  rintro e w8 ⟨rfl, hbn⟩
  replace hB := hB.keep hbn
  replace sA := sA.keep hbn
  replace kA := kA.keep hbn
  replace sX := sX.keep hbn
  replace kX := kX.keep hbn
  replace sS := sS.keep hbn
  replace kS := kS.keep hbn
  replace sT := sT.keep hbn
  replace kT := kT.keep hbn
  replace kD := kD.keep hbn
  replace hb := bel_to hb hbn
  clear hbn
  clear n0 n1 n2 n3 n4 n5
  have kE := Blk.new w8 #[.int .i64 l9, .int .i64 r9] 38
  have hbn := (Below.refl w8.heap.size w8).alloc (Nat.le_refl _) (.cells #[.int .i64 l9, .int .i64 r9] 38)
  replace hB := hB.keep hbn
  replace sA := sA.keep hbn
  replace kA := kA.keep hbn
  replace sX := sX.keep hbn
  replace kX := kX.keep hbn
  replace sS := sS.keep hbn
  replace kS := kS.keep hbn
  replace sT := sT.keep hbn
  replace kT := kT.keep hbn
  replace kD := kD.keep hbn
  replace hb := bel_to hb hbn
  clear hbn
  have hq1 : (ok != ok) = false := by simp
  have hq2 : (b9 != b9) = false := by simp
  have eT := eqSr_self T
  have x0 := kS.cell 0 (.int .i64 T.n) rfl
  have x1 := kS.cell 1 (.slice oS T.R.length cS) rfl
  have x2 := kS.cell 2 (.int .i64 T.m) rfl
  have x3 := kS.cell 3 (.int .i64 T.a) rfl
  have x4 := kS.cell 4 (.slice fS T.F.length gS) rfl
  have x5 := kS.cell 5 (.int .i64 T.t) rfl
  have y0 := kT.cell 0 (.int .i64 T.n) rfl
  have y1 := kT.cell 1 (.slice oT T.R.length cT) rfl
  have y2 := kT.cell 2 (.int .i64 T.m) rfl
  have y3 := kT.cell 3 (.int .i64 T.a) rfl
  have y4 := kT.cell 4 (.slice fT T.F.length gT) rfl
  have y5 := kT.cell 5 (.int .i64 T.t) rfl
  have d0 := kD.cell 0 (.int .i64 l9) rfl
  have d1 := kD.cell 1 (.int .i64 r9) rfl
  have e0 := kE.cell 0 (.int .i64 l9) rfl
  have e1 := kE.cell 1 (.int .i64 r9) rfl
  go_upto_region 11 with fail
  generalize w8.alloc (.cells #[.int .i64 l9, .int .i64 r9] 38) = w9 at *
  have n0 := kA.cell 0 (.int .i64 A.n) rfl
  have n1 := kA.cell 1 (.slice o A.R.length c) rfl
  have n2 := kA.cell 2 (.int .i64 A.m) rfl
  have n3 := kA.cell 3 (.int .i64 A.a) rfl
  have n4 := kA.cell 4 (.slice fo A.F.length fc) rfl
  have n5 := kA.cell 5 (.int .i64 A.t) rfl
  go_wp2_with (first | (go_at_call 8; refine Calls.mono (Ans.eqb (c_specEqualSearches T T oS oT fS fT cS cT gS gT _ sS.1.1 sT.1.1 sS.2.1 sT.2.1) eT) ?_; rintro e wz ⟨rfl, hbn⟩; replace x0 := cell_keep x0 hbn; replace x1 := cell_keep x1 hbn; replace x2 := cell_keep x2 hbn; replace x3 := cell_keep x3 hbn; replace x4 := cell_keep x4 hbn; replace x5 := cell_keep x5 hbn; replace y0 := cell_keep y0 hbn; replace y1 := cell_keep y1 hbn; replace y2 := cell_keep y2 hbn; replace y3 := cell_keep y3 hbn; replace y4 := cell_keep y4 hbn; replace y5 := cell_keep y5 hbn; replace d0 := cell_keep d0 hbn; replace d1 := cell_keep d1 hbn; replace e0 := cell_keep e0 hbn; replace e1 := cell_keep e1 hbn; replace n0 := cell_keep n0 hbn; replace n1 := cell_keep n1 hbn; replace n2 := cell_keep n2 hbn; replace n3 := cell_keep n3 hbn; replace n4 := cell_keep n4 hbn; replace n5 := cell_keep n5 hbn; replace hB := hB.keep hbn; replace sA := sA.keep hbn; replace kA := kA.keep hbn; replace sX := sX.keep hbn; replace kX := kX.keep hbn; replace sS := sS.keep hbn; replace kS := kS.keep hbn; replace sT := sT.keep hbn; replace kT := kT.keep hbn; replace kD := kD.keep hbn; replace kE := kE.keep hbn; replace hb := bel_to hb hbn; clear hbn) | fail)
  clear x0 x1 x2 x3 x4 x5 y0 y1 y2 y3 y4 y5 d0 d1 e0 e1 n0 n1 n2 n3 n4 n5
  clear sS sT kS kT kD kE hq1 hq2 eT
  refine Calls.mono (Ans.eqb (c_specIsSearch A o fo c fc _ sA.1.1 sA.2.1) HI.out) ?_
  rintro e w10 ⟨rfl, hbn⟩
  replace hB := hB.keep hbn
  replace sA := sA.keep hbn
  replace kA := kA.keep hbn
  replace sX := sX.keep hbn
  replace kX := kX.keep hbn
  replace hb := bel_to hb hbn
  clear hbn
  cases is
  · skip
    clear sA sX kA kX
    go_wp2_with fail
    have H := c_DrawIsSearched oc mc capc hmc _ hB
    unfold DrawsSr at H
    refine H.mono ?_
    clear H
    rintro e w20 ⟨U, oU, cU, fU, gU, xsU, rfl, hO, hF, hsU, hap, hbn⟩
    have sU := srIn_of hO hF hsU.sb
    clear hO hF hap
    replace hB := hB.keep hbn
    replace hb := bel_to hb hbn
    clear hbn
    have kU := Blk.new w20 #[.int .i64 U.n, .slice oU U.R.length cU, .int .i64 U.m, .int .i64 U.a, .slice fU U.F.length gU, .int .i64 U.t] 29
    have hbn := (Below.refl w20.heap.size w20).alloc (Nat.le_refl _) (.cells #[.int .i64 U.n, .slice oU U.R.length cU, .int .i64 U.m, .int .i64 U.a, .slice fU U.F.length gU, .int .i64 U.t] 29)
    replace hB := hB.keep hbn
    replace sU := sU.keep hbn
    replace hb := bel_to hb hbn
    clear hbn
    go_wp2_with fail
    have H := c_DrawNewSearch oc mc capc hmc _ hB
    unfold DrawsTab at H
    refine H.mono ?_
    clear H
    rintro e w21 ⟨n4, m4, o4, c4, xs4, R4, rfl, hO, ⟨hRl, hlen⟩, hbn⟩
    replace hB := hB.keep hbn
    replace sU := sU.keep hbn
    replace kU := kU.keep hbn
    replace hb := bel_to hb hbn
    clear hbn
    have sR := hO.readC (show R4.length ≤ Room by unfold Room; omega) (fun j hj => Nat.le_trans (hlen j hj) (by unfold Room; omega))
    have bN : SB (nsF n4 R4 m4) := ns_sb hRl hlen
    clear hO hlen
    have k4 := Blk.new w21 #[.int .i64 n4, .slice o4 R4.length c4] 26
    have hbn := (Below.refl w21.heap.size w21).alloc (Nat.le_refl _) (.cells #[.int .i64 n4, .slice o4 R4.length c4] 26)
    replace hB := hB.keep hbn
    replace sU := sU.keep hbn
    replace kU := kU.keep hbn
    replace sR := sR.keep hbn
    replace hb := bel_to hb hbn
    clear hbn
    obtain ⟨Nw, HN⟩ : ∃ X, Hid (nsF n4 R4 m4 = X) := ⟨_, rfl⟩
    obtain ⟨mk, HMK⟩ : ∃ b, Hid ((isTabF n4 R4 && modeF m4) = b) := ⟨_, rfl⟩
    rw [HN.out] at bN
    have g0 := k4.cell 0 (.int .i64 n4) rfl
    have g1 := k4.cell 1 (.slice o4 R4.length c4) rfl
    go_wp2_with fail
    have H := c_NewSearch n4 o4 c4 R4 m4 _ sR
    rw [HN.out, HMK.out] at H
    refine (H.got bN).mono ?_
    clear H
    rintro e w22 ⟨oV, cV, fV, gV, rfl, sV, hbn⟩
    replace hB := hB.keep hbn
    replace sU := sU.keep hbn
    replace kU := kU.keep hbn
    replace sR := sR.keep hbn
    replace k4 := k4.keep hbn
    replace hb := bel_to hb hbn
    clear hbn
    clear g0 g1
    have kV := Blk.new w22 #[.int .i64 Nw.n, .slice oV Nw.R.length cV, .int .i64 Nw.m, .int .i64 Nw.a, .slice fV Nw.F.length gV, .int .i64 Nw.t] 29
    have hbn := (Below.refl w22.heap.size w22).alloc (Nat.le_refl _) (.cells #[.int .i64 Nw.n, .slice oV Nw.R.length cV, .int .i64 Nw.m, .int .i64 Nw.a, .slice fV Nw.F.length gV, .int .i64 Nw.t] 29)
    replace hB := hB.keep hbn
    replace sU := sU.keep hbn
    replace kU := kU.keep hbn
    replace sR := sR.keep hbn
    replace k4 := k4.keep hbn
    replace sV := sV.keep hbn
    replace hb := bel_to hb hbn
    clear hbn
    have g0 := k4.cell 0 (.int .i64 n4) rfl
    have g1 := k4.cell 1 (.slice o4 R4.length c4) rfl
    go_wp2_with fail
    have H := c_specNewSearch n4 o4 c4 R4 m4 _ sR
    rw [HN.out, HMK.out] at H
    refine (H.got bN).mono ?_
    clear H
    rintro e w23 ⟨oW, cW, fW, gW, rfl, sW, hbn⟩
    replace hB := hB.keep hbn
    replace sU := sU.keep hbn
    replace kU := kU.keep hbn
    replace sR := sR.keep hbn
    replace k4 := k4.keep hbn
    replace sV := sV.keep hbn
    replace kV := kV.keep hbn
    replace hb := bel_to hb hbn
    clear hbn
    clear g0 g1
    have kW := Blk.new w23 #[.int .i64 Nw.n, .slice oW Nw.R.length cW, .int .i64 Nw.m, .int .i64 Nw.a, .slice fW Nw.F.length gW, .int .i64 Nw.t] 29
    have hbn := (Below.refl w23.heap.size w23).alloc (Nat.le_refl _) (.cells #[.int .i64 Nw.n, .slice oW Nw.R.length cW, .int .i64 Nw.m, .int .i64 Nw.a, .slice fW Nw.F.length gW, .int .i64 Nw.t] 29)
    replace hB := hB.keep hbn
    replace sU := sU.keep hbn
    replace kU := kU.keep hbn
    replace sR := sR.keep hbn
    replace k4 := k4.keep hbn
    replace sV := sV.keep hbn
    replace kV := kV.keep hbn
    replace sW := sW.keep hbn
    replace hb := bel_to hb hbn
    clear hbn
    obtain ⟨b7, HB7⟩ : ∃ b, Hid (isSrdF U = b) := ⟨_, rfl⟩
    have hq1 : (b7 == b7) = true := by simp
    have hq2 : (mk == mk) = true := by simp
    have eN := eqSr_self Nw
    have u0 := kU.cell 0 (.int .i64 U.n) rfl
    have u1 := kU.cell 1 (.slice oU U.R.length cU) rfl
    have u2 := kU.cell 2 (.int .i64 U.m) rfl
    have u3 := kU.cell 3 (.int .i64 U.a) rfl
    have u4 := kU.cell 4 (.slice fU U.F.length gU) rfl
    have u5 := kU.cell 5 (.int .i64 U.t) rfl
    have x0 := kV.cell 0 (.int .i64 Nw.n) rfl
    have x1 := kV.cell 1 (.slice oV Nw.R.length cV) rfl
    have x2 := kV.cell 2 (.int .i64 Nw.m) rfl
    have x3 := kV.cell 3 (.int .i64 Nw.a) rfl
    have x4 := kV.cell 4 (.slice fV Nw.F.length gV) rfl
    have x5 := kV.cell 5 (.int .i64 Nw.t) rfl
    have y0 := kW.cell 0 (.int .i64 Nw.n) rfl
    have y1 := kW.cell 1 (.slice oW Nw.R.length cW) rfl
    have y2 := kW.cell 2 (.int .i64 Nw.m) rfl
    have y3 := kW.cell 3 (.int .i64 Nw.a) rfl
    have y4 := kW.cell 4 (.slice fW Nw.F.length gW) rfl
    have y5 := kW.cell 5 (.int .i64 Nw.t) rfl
    go_upto_region 28 with fail
    generalize w23.alloc (.cells #[.int .i64 Nw.n, .slice oW Nw.R.length cW, .int .i64 Nw.m, .int .i64 Nw.a, .slice fW Nw.F.length gW, .int .i64 Nw.t] 29) = w24 at *
    refine wp_region_held_drew (S := fun w' => w'.cell? ⟨w20.heap.size, 0, none⟩ = some (.int .i64 U.n) ∧ w'.cell? ⟨w20.heap.size, 1, none⟩ = some (.slice oU U.R.length cU) ∧ w'.cell? ⟨w20.heap.size, 2, none⟩ = some (.int .i64 U.m) ∧ w'.cell? ⟨w20.heap.size, 3, none⟩ = some (.int .i64 U.a) ∧ w'.cell? ⟨w20.heap.size, 4, none⟩ = some (.slice fU U.F.length gU) ∧ w'.cell? ⟨w20.heap.size, 5, none⟩ = some (.int .i64 U.t) ∧ w'.cell? ⟨w22.heap.size, 0, none⟩ = some (.int .i64 Nw.n) ∧ w'.cell? ⟨w22.heap.size, 1, none⟩ = some (.slice oV Nw.R.length cV) ∧ w'.cell? ⟨w22.heap.size, 2, none⟩ = some (.int .i64 Nw.m) ∧ w'.cell? ⟨w22.heap.size, 3, none⟩ = some (.int .i64 Nw.a) ∧ w'.cell? ⟨w22.heap.size, 4, none⟩ = some (.slice fV Nw.F.length gV) ∧ w'.cell? ⟨w22.heap.size, 5, none⟩ = some (.int .i64 Nw.t) ∧ w'.cell? ⟨w23.heap.size, 0, none⟩ = some (.int .i64 Nw.n) ∧ w'.cell? ⟨w23.heap.size, 1, none⟩ = some (.slice oW Nw.R.length cW) ∧ w'.cell? ⟨w23.heap.size, 2, none⟩ = some (.int .i64 Nw.m) ∧ w'.cell? ⟨w23.heap.size, 3, none⟩ = some (.int .i64 Nw.a) ∧ w'.cell? ⟨w23.heap.size, 4, none⟩ = some (.slice fW Nw.F.length gW) ∧ w'.cell? ⟨w23.heap.size, 5, none⟩ = some (.int .i64 Nw.t) ∧ Below w24.heap.size w24 w') (by kernel_rfl) ⟨cell_keep u0 (Below.refl _ _).drew, cell_keep u1 (Below.refl _ _).drew, cell_keep u2 (Below.refl _ _).drew, cell_keep u3 (Below.refl _ _).drew, cell_keep u4 (Below.refl _ _).drew, cell_keep u5 (Below.refl _ _).drew, cell_keep x0 (Below.refl _ _).drew, cell_keep x1 (Below.refl _ _).drew, cell_keep x2 (Below.refl _ _).drew, cell_keep x3 (Below.refl _ _).drew, cell_keep x4 (Below.refl _ _).drew, cell_keep x5 (Below.refl _ _).drew, cell_keep y0 (Below.refl _ _).drew, cell_keep y1 (Below.refl _ _).drew, cell_keep y2 (Below.refl _ _).drew, cell_keep y3 (Below.refl _ _).drew, cell_keep y4 (Below.refl _ _).drew, cell_keep y5 (Below.refl _ _).drew, (Below.refl _ _).drew⟩ (fun hS => ?_)
    (refine wpAnyH_val (i := 0) (some 166) ?_ rfl rfl (by kernel_rfl) (by kernel_rfl) (by kernel_rfl) (fun _ _ _ h => h) (by rfl) (by assumption) ?_ ?_; rotate_left; (intro w hSw; go_simp; (try with_reducible rfl)); (try simp only [Act.put, List.setIfInBounds_toArray, List.set_cons_zero, List.set_cons_succ])); (refine wpAnyH_val (i := 2) (some 168) ?_ rfl rfl (by kernel_rfl) (by kernel_rfl) (by kernel_rfl) (fun _ _ _ h => h) (by rfl) (by assumption) ?_ ?_; rotate_left; (intro w hSw; go_simp; (try with_reducible rfl)); (try simp only [Act.put, List.setIfInBounds_toArray, List.set_cons_zero, List.set_cons_succ]))
    (refine wpAnyH_ready (rs := [1]) (by kernel_rfl) (by simp) ?_; refine AllReadyH.cons rfl (fun K hK => ?_) AllReadyH.nil; go_simp)
    refine Calls.mono (Ans.eqb (c_IsSearched U oU fU cU gU _ (sU.keep hS.2.2.2.2.2.2.2.2.2.2.2.2.2.2.2.2.2.2).1 (sU.keep hS.2.2.2.2.2.2.2.2.2.2.2.2.2.2.2.2.2.2).2.1) HB7.out) ?_
    rintro e wz ⟨rfl, hbn⟩
    have hS3 := (show _ ∧ _ ∧ _ ∧ _ ∧ _ ∧ _ ∧ _ ∧ _ ∧ _ ∧ _ ∧ _ ∧ _ ∧ _ ∧ _ ∧ _ ∧ _ ∧ _ ∧ _ ∧ Below w24.heap.size w24 _ from ⟨cell_keep hS.1 hbn, cell_keep hS.2.1 hbn, cell_keep hS.2.2.1 hbn, cell_keep hS.2.2.2.1 hbn, cell_keep hS.2.2.2.2.1 hbn, cell_keep hS.2.2.2.2.2.1 hbn, cell_keep hS.2.2.2.2.2.2.1 hbn, cell_keep hS.2.2.2.2.2.2.2.1 hbn, cell_keep hS.2.2.2.2.2.2.2.2.1 hbn, cell_keep hS.2.2.2.2.2.2.2.2.2.1 hbn, cell_keep hS.2.2.2.2.2.2.2.2.2.2.1 hbn, cell_keep hS.2.2.2.2.2.2.2.2.2.2.2.1 hbn, cell_keep hS.2.2.2.2.2.2.2.2.2.2.2.2.1 hbn, cell_keep hS.2.2.2.2.2.2.2.2.2.2.2.2.2.1 hbn, cell_keep hS.2.2.2.2.2.2.2.2.2.2.2.2.2.2.1 hbn, cell_keep hS.2.2.2.2.2.2.2.2.2.2.2.2.2.2.2.1 hbn, cell_keep hS.2.2.2.2.2.2.2.2.2.2.2.2.2.2.2.2.1 hbn, cell_keep hS.2.2.2.2.2.2.2.2.2.2.2.2.2.2.2.2.2.1 hbn, bel_to hS.2.2.2.2.2.2.2.2.2.2.2.2.2.2.2.2.2.2 hbn⟩)
    refine hK.out _ _ hS3 (fun hS2 => ?_)
    clear hK hbn hS hS2
    have hS := hS3
    clear hS3
    (try simp only [Act.put, List.setIfInBounds_toArray, List.set_cons_zero, List.set_cons_succ])
    (refine wpAnyH_ready (rs := [3]) (by kernel_rfl) (by simp) ?_; refine AllReadyH.cons rfl (fun K hK => ?_) AllReadyH.nil; go_simp)
    refine Calls.mono (Ans.eqb (c_specIsSearched U oU fU cU gU _ (sU.keep hS.2.2.2.2.2.2.2.2.2.2.2.2.2.2.2.2.2.2).1.1 (sU.keep hS.2.2.2.2.2.2.2.2.2.2.2.2.2.2.2.2.2.2).2.1) HB7.out) ?_
    rintro e wz ⟨rfl, hbn⟩
    have hS3 := (show _ ∧ _ ∧ _ ∧ _ ∧ _ ∧ _ ∧ _ ∧ _ ∧ _ ∧ _ ∧ _ ∧ _ ∧ _ ∧ _ ∧ _ ∧ _ ∧ _ ∧ _ ∧ Below w24.heap.size w24 _ from ⟨cell_keep hS.1 hbn, cell_keep hS.2.1 hbn, cell_keep hS.2.2.1 hbn, cell_keep hS.2.2.2.1 hbn, cell_keep hS.2.2.2.2.1 hbn, cell_keep hS.2.2.2.2.2.1 hbn, cell_keep hS.2.2.2.2.2.2.1 hbn, cell_keep hS.2.2.2.2.2.2.2.1 hbn, cell_keep hS.2.2.2.2.2.2.2.2.1 hbn, cell_keep hS.2.2.2.2.2.2.2.2.2.1 hbn, cell_keep hS.2.2.2.2.2.2.2.2.2.2.1 hbn, cell_keep hS.2.2.2.2.2.2.2.2.2.2.2.1 hbn, cell_keep hS.2.2.2.2.2.2.2.2.2.2.2.2.1 hbn, cell_keep hS.2.2.2.2.2.2.2.2.2.2.2.2.2.1 hbn, cell_keep hS.2.2.2.2.2.2.2.2.2.2.2.2.2.2.1 hbn, cell_keep hS.2.2.2.2.2.2.2.2.2.2.2.2.2.2.2.1 hbn, cell_keep hS.2.2.2.2.2.2.2.2.2.2.2.2.2.2.2.2.1 hbn, cell_keep hS.2.2.2.2.2.2.2.2.2.2.2.2.2.2.2.2.2.1 hbn, bel_to hS.2.2.2.2.2.2.2.2.2.2.2.2.2.2.2.2.2.2 hbn⟩)
    refine hK.out _ _ hS3 (fun hS2 => ?_)
    clear hK hbn hS hS2
    have hS := hS3
    clear hS3
    (try simp only [Act.put, List.setIfInBounds_toArray, List.set_cons_zero, List.set_cons_succ])
    (refine wpAnyH_val (i := 4) (some 170) ?_ rfl rfl (by kernel_rfl) (by kernel_rfl) (by kernel_rfl) (fun _ _ _ h => h) (by rfl) (by assumption) ?_ ?_; rotate_left; (intro w hSw; go_simp; (try with_reducible rfl)); (try simp only [Act.put, List.setIfInBounds_toArray, List.set_cons_zero, List.set_cons_succ])); (refine wpAnyH_val (i := 5) (some 171) ?_ rfl rfl (by kernel_rfl) (by kernel_rfl) (by kernel_rfl) (fun _ _ _ h => h) (by rfl) (by assumption) ?_ ?_; rotate_left; (intro w hSw; go_simp; (try with_reducible rfl)); (try simp only [Act.put, List.setIfInBounds_toArray, List.set_cons_zero, List.set_cons_succ])); (refine wpAnyH_val (i := 6) (some 172) ?_ rfl rfl (by kernel_rfl) (by kernel_rfl) (by kernel_rfl) (fun _ _ _ h => h) (by rfl) (by assumption) ?_ ?_; rotate_left; (intro w hSw; go_simp; (try with_reducible rfl)); (try simp only [Act.put, List.setIfInBounds_toArray, List.set_cons_zero, List.set_cons_succ])); (refine wpAnyH_val (i := 7) (some 173) ?_ rfl rfl (by kernel_rfl) (by kernel_rfl) (by kernel_rfl) (fun _ _ _ h => h) (by rfl) (by assumption) ?_ ?_; rotate_left; (intro w hSw; go_simp; (try with_reducible rfl)); (try simp only [Act.put, List.setIfInBounds_toArray, List.set_cons_zero, List.set_cons_succ])); (refine wpAnyH_val (i := 8) (some 174) ?_ rfl rfl (by kernel_rfl) (by kernel_rfl) (by kernel_rfl) (fun _ _ _ h => h) (by rfl) (by assumption) ?_ ?_; rotate_left; (intro w hSw; go_simp; (try with_reducible rfl)); (try simp only [Act.put, List.setIfInBounds_toArray, List.set_cons_zero, List.set_cons_succ])); (refine wpAnyH_val (i := 9) (some 175) ?_ rfl rfl (by kernel_rfl) (by kernel_rfl) (by kernel_rfl) (fun _ _ _ h => h) (by rfl) (by assumption) ?_ ?_; rotate_left; (intro w hSw; go_simp; (try with_reducible rfl)); (try simp only [Act.put, List.setIfInBounds_toArray, List.set_cons_zero, List.set_cons_succ])); (refine wpAnyH_val (i := 10) (some 176) ?_ rfl rfl (by kernel_rfl) (by kernel_rfl) (by kernel_rfl) (fun _ _ _ h => h) (by rfl) (by assumption) ?_ ?_; rotate_left; (intro w hSw; go_simp; (try with_reducible rfl)); (try simp only [Act.put, List.setIfInBounds_toArray, List.set_cons_zero, List.set_cons_succ])); (refine wpAnyH_val (i := 11) (some 177) ?_ rfl rfl (by kernel_rfl) (by kernel_rfl) (by kernel_rfl) (fun _ _ _ h => h) (by rfl) (by assumption) ?_ ?_; rotate_left; (intro w hSw; go_simp; (try with_reducible rfl)); (try simp only [Act.put, List.setIfInBounds_toArray, List.set_cons_zero, List.set_cons_succ])); (refine wpAnyH_val (i := 12) (some 178) ?_ rfl rfl (by kernel_rfl) (by kernel_rfl) (by kernel_rfl) (fun _ _ _ h => h) (by rfl) (by assumption) ?_ ?_; rotate_left; (intro w hSw; go_simp; (try with_reducible rfl)); (try simp only [Act.put, List.setIfInBounds_toArray, List.set_cons_zero, List.set_cons_succ]))
    (refine wpAnyH_ready (rs := [13]) (by kernel_rfl) (by simp) ?_; refine AllReadyH.cons rfl (fun K hK => ?_) AllReadyH.nil; go_simp)
    refine Calls.mono (Ans.eqb (c_specEqualSearches Nw Nw oV oW fV fW cV cW gV gW _ (sV.keep hS.2.2.2.2.2.2.2.2.2.2.2.2.2.2.2.2.2.2).1.1 (sW.keep hS.2.2.2.2.2.2.2.2.2.2.2.2.2.2.2.2.2.2).1.1 (sV.keep hS.2.2.2.2.2.2.2.2.2.2.2.2.2.2.2.2.2.2).2.1 (sW.keep hS.2.2.2.2.2.2.2.2.2.2.2.2.2.2.2.2.2.2).2.1) eN) ?_
    rintro e wz ⟨rfl, hbn⟩
    have hS3 := (show _ ∧ _ ∧ _ ∧ _ ∧ _ ∧ _ ∧ _ ∧ _ ∧ _ ∧ _ ∧ _ ∧ _ ∧ _ ∧ _ ∧ _ ∧ _ ∧ _ ∧ _ ∧ Below w24.heap.size w24 _ from ⟨cell_keep hS.1 hbn, cell_keep hS.2.1 hbn, cell_keep hS.2.2.1 hbn, cell_keep hS.2.2.2.1 hbn, cell_keep hS.2.2.2.2.1 hbn, cell_keep hS.2.2.2.2.2.1 hbn, cell_keep hS.2.2.2.2.2.2.1 hbn, cell_keep hS.2.2.2.2.2.2.2.1 hbn, cell_keep hS.2.2.2.2.2.2.2.2.1 hbn, cell_keep hS.2.2.2.2.2.2.2.2.2.1 hbn, cell_keep hS.2.2.2.2.2.2.2.2.2.2.1 hbn, cell_keep hS.2.2.2.2.2.2.2.2.2.2.2.1 hbn, cell_keep hS.2.2.2.2.2.2.2.2.2.2.2.2.1 hbn, cell_keep hS.2.2.2.2.2.2.2.2.2.2.2.2.2.1 hbn, cell_keep hS.2.2.2.2.2.2.2.2.2.2.2.2.2.2.1 hbn, cell_keep hS.2.2.2.2.2.2.2.2.2.2.2.2.2.2.2.1 hbn, cell_keep hS.2.2.2.2.2.2.2.2.2.2.2.2.2.2.2.2.1 hbn, cell_keep hS.2.2.2.2.2.2.2.2.2.2.2.2.2.2.2.2.2.1 hbn, bel_to hS.2.2.2.2.2.2.2.2.2.2.2.2.2.2.2.2.2.2 hbn⟩)
    refine hK.out _ _ hS3 (fun hS2 => ?_)
    clear hK hbn hS hS2
    have hS := hS3
    clear hS3
    (try simp only [Act.put, List.setIfInBounds_toArray, List.set_cons_zero, List.set_cons_succ])
    (refine wpAnyH_val (i := 14) (some 180) ?_ rfl rfl (by kernel_rfl) (by kernel_rfl) (by kernel_rfl) (fun _ _ _ h => h) (by rfl) (by assumption) ?_ ?_; rotate_left; (intro w hSw; go_simp; (try with_reducible rfl)); (try simp only [Act.put, List.setIfInBounds_toArray, List.set_cons_zero, List.set_cons_succ])); (refine wpAnyH_val (i := 15) (some 2) ?_ rfl rfl (by kernel_rfl) (by kernel_rfl) (by kernel_rfl) (fun _ _ _ h => h) (by rfl) (by assumption) ?_ ?_; rotate_left; (intro w hSw; go_simp; (try with_reducible rfl)); (try simp only [Act.put, List.setIfInBounds_toArray, List.set_cons_zero, List.set_cons_succ]))
    refine wpAnyH_done (by kernel_rfl) ?_ _
    try dsimp only [NoPanic, Exit.then]
    go_wp2
    go_ret
    exact ⟨rfl, bel_to hb hS.2.2.2.2.2.2.2.2.2.2.2.2.2.2.2.2.2.2⟩
  · have hsX : Sm 161 X := HX.out ▸ run_sm2 hsm
    obtain ⟨Ee, HE⟩ : ∃ X, Hid (endSr A = X) := ⟨_, rfl⟩
    have bE : SB Ee := by have := (run_sm2 (b := 1000) hsm).sb; rw [run_all HI.out, HE.out] at this; exact this
    have HR1 : Hid (runSr X 1000 = Ee) := by show _ = _; rw [← HX.out, ← HE.out]; exact run_run HI.out q
    have HR2 : Hid (runSr A 1000 = Ee) := by show _ = _; rw [← HE.out]; exact run_all HI.out
    have HD : Hid (isSrdF Ee = true) := by show _ = _; rw [← HE.out]; exact end_done HI.out
    have HSX : Hid (isSrF X = true) := by show _ = _; rw [← HX.out]; exact isSr_run HI.out q
    have HTX : Hid (0 ≤ q → X.t - A.t ≤ q) := fun h => by rw [← HX.out]; exact run_tests HI.out h
    have HM1 : Hid (∀ k, k < X.F.length → (minDepsF A.n A.R A.m).contains (nl X.F k, nr X.F k) = true) := fun k hk => List.contains_iff_mem.2 (run_min HI.out q _ (by rw [HX.out]; exact nth_mem hk))
    have HM2 : Hid ((∀ k, k < Ee.F.length → (minDepsF A.n A.R A.m).contains (nl Ee.F k, nr Ee.F k) = true) ∧ Ee.F.length = (minDepsF A.n A.R A.m).length) := ⟨fun k hk => List.contains_iff_mem.2 ((end_min HI.out).1 _ (by rw [HE.out]; exact nth_mem hk)), by rw [← HE.out]; exact (end_min HI.out).2⟩
    have hML := minDeps_len A.n A.R A.m
    have hXF : X.F.length ≤ 1048576 := bX.2.2
    have n0 := kA.cell 0 (.int .i64 A.n) rfl
    have n1 := kA.cell 1 (.slice o A.R.length c) rfl
    have n2 := kA.cell 2 (.int .i64 A.m) rfl
    have n3 := kA.cell 3 (.int .i64 A.a) rfl
    have n4 := kA.cell 4 (.slice fo A.F.length fc) rfl
    have n5 := kA.cell 5 (.int .i64 A.t) rfl
    go_wp2_with fail
    refine (c_specMinimalDeps A.n o c A.R A.m _ sA.1.1).mono ?_
    rintro e w30 ⟨v, rfl, hW, hbn⟩
    obtain ⟨oM, cM, rfl⟩ := hW.shape
    have dM := hW.deps rfl hML
    clear hW
    replace hB := hB.keep hbn
    replace sA := sA.keep hbn
    replace kA := kA.keep hbn
    replace sX := sX.keep hbn
    replace kX := kX.keep hbn
    replace hb := bel_to hb hbn
    clear hbn
    clear n0 n1 n2 n3 n4 n5
    generalize minDepsF A.n A.R A.m = M at *
    go_wp2_with fail
    go_loopw [15] (fun v wr => ∃ k : Nat, v = .int .i64 k ∧ k ≤ X.F.length ∧ Below w30.heap.size w30 wr) (fun v _ => X.F.length - (intOf v).toNat)
    case atStart => exact ⟨0, rfl, Nat.zero_le _, Below.refl _ _⟩
    case round =>
      obtain ⟨k, rfl, hk, hbn⟩ := hrel
      have hbo := hbn
      replace hB := hB.keep hbn
      replace sA := sA.keep hbn
      replace kA := kA.keep hbn
      replace sX := sX.keep hbn
      replace kX := kX.keep hbn
      replace dM := dM.keep hbn
      replace hb := bel_to hb hbn
      clear hbn
      have x0 := kX.cell 0 (.int .i64 X.n) rfl
      have x1 := kX.cell 1 (.slice oX X.R.length cX) rfl
      have x2 := kX.cell 2 (.int .i64 X.m) rfl
      have x3 := kX.cell 3 (.int .i64 X.a) rfl
      have x4 := kX.cell 4 (.slice fX X.F.length gX) rfl
      have x5 := kX.cell 5 (.int .i64 X.t) rfl
      by_cases hlt : k < X.F.length
      · obtain ⟨b, off, e', hbs, hcell⟩ := sX.2.1.at_ (by omega)
        have HLT : Hid (k + 1 ≤ X.F.length) := hlt
        have hc1 := (hcell k hlt).1
        have hc2 := (hcell k hlt).2
        have HC := (show _ = _ from HM1.out k hlt)
        clear hcell hbs
        subst e'
        generalize nl X.F k = l at *
        generalize nr X.F k = r at *
        go_wp2_with fail
        refine Calls.mono (Ans.eqb (c_lawHasDep oM cM M l r _ dM) HC) ?_
        rintro e w31 ⟨rfl, hbn⟩
        clear HC hc1 hc2 x0 x1 x2 x3 x4 x5
        replace hB := hB.keep hbn
        replace sA := sA.keep hbn
        replace kA := kA.keep hbn
        replace sX := sX.keep hbn
        replace kX := kX.keep hbn
        replace dM := dM.keep hbn
        replace hbo := bel_to hbo hbn
        replace hb := bel_to hb hbn
        clear hbn
        go_wp2
        go_roundw
        case rel => exact ⟨k + 1, by go_num, HLT.out, hbo⟩
        case measure => have := HLT.out; simp [intOf]; omega
      · clear hbo HM1
        go_wp2_with fail
        have H := c_RunSearch X oX fX cX gX 1000 _ sX.1 sX.2.1 sX.2.2
        rw [HR1.out] at H
        refine (H.got bE).mono ?_
        clear H
        rintro e w32 ⟨oP, cP, fP, gP, rfl, sP, hbn⟩
        replace hB := hB.keep hbn
        replace sA := sA.keep hbn
        replace kA := kA.keep hbn
        replace sX := sX.keep hbn
        replace kX := kX.keep hbn
        replace dM := dM.keep hbn
        replace hb := bel_to hb hbn
        clear hbn
        clear x0 x1 x2 x3 x4 x5
        have kP := Blk.new w32 #[.int .i64 Ee.n, .slice oP Ee.R.length cP, .int .i64 Ee.m, .int .i64 Ee.a, .slice fP Ee.F.length gP, .int .i64 Ee.t] 29
        have hbn := (Below.refl w32.heap.size w32).alloc (Nat.le_refl _) (.cells #[.int .i64 Ee.n, .slice oP Ee.R.length cP, .int .i64 Ee.m, .int .i64 Ee.a, .slice fP Ee.F.length gP, .int .i64 Ee.t] 29)
        replace hB := hB.keep hbn
        replace sA := sA.keep hbn
        replace kA := kA.keep hbn
        replace sX := sX.keep hbn
        replace kX := kX.keep hbn
        replace dM := dM.keep hbn
        replace sP := sP.keep hbn
        replace hb := bel_to hb hbn
        clear hbn
        have n0 := kA.cell 0 (.int .i64 A.n) rfl
        have n1 := kA.cell 1 (.slice o A.R.length c) rfl
        have n2 := kA.cell 2 (.int .i64 A.m) rfl
        have n3 := kA.cell 3 (.int .i64 A.a) rfl
        have n4 := kA.cell 4 (.slice fo A.F.length fc) rfl
        have n5 := kA.cell 5 (.int .i64 A.t) rfl
        go_wp2_with fail
        have H := c_RunSearch A o fo c fc 1000 _ sA.1 sA.2.1 sA.2.2
        rw [HR2.out] at H
        refine (H.got bE).mono ?_
        clear H
        rintro e w33 ⟨oQ, cQ, fQ, gQ, rfl, sQ, hbn⟩
        replace hB := hB.keep hbn
        replace sA := sA.keep hbn
        replace kA := kA.keep hbn
        replace sX := sX.keep hbn
        replace kX := kX.keep hbn
        replace dM := dM.keep hbn
        replace sP := sP.keep hbn
        replace kP := kP.keep hbn
        replace hb := bel_to hb hbn
        clear hbn
        clear n0 n1 n2 n3 n4 n5
        have kQ := Blk.new w33 #[.int .i64 Ee.n, .slice oQ Ee.R.length cQ, .int .i64 Ee.m, .int .i64 Ee.a, .slice fQ Ee.F.length gQ, .int .i64 Ee.t] 29
        have hbn := (Below.refl w33.heap.size w33).alloc (Nat.le_refl _) (.cells #[.int .i64 Ee.n, .slice oQ Ee.R.length cQ, .int .i64 Ee.m, .int .i64 Ee.a, .slice fQ Ee.F.length gQ, .int .i64 Ee.t] 29)
        replace hB := hB.keep hbn
        replace sA := sA.keep hbn
        replace kA := kA.keep hbn
        replace sX := sX.keep hbn
        replace kX := kX.keep hbn
        replace dM := dM.keep hbn
        replace sP := sP.keep hbn
        replace kP := kP.keep hbn
        replace sQ := sQ.keep hbn
        replace hb := bel_to hb hbn
        clear hbn
        have eE := eqSr_self Ee
        have n0 := kA.cell 0 (.int .i64 A.n) rfl
        have n1 := kA.cell 1 (.slice o A.R.length c) rfl
        have n2 := kA.cell 2 (.int .i64 A.m) rfl
        have n3 := kA.cell 3 (.int .i64 A.a) rfl
        have n4 := kA.cell 4 (.slice fo A.F.length fc) rfl
        have n5 := kA.cell 5 (.int .i64 A.t) rfl
        have x0 := kX.cell 0 (.int .i64 X.n) rfl
        have x1 := kX.cell 1 (.slice oX X.R.length cX) rfl
        have x2 := kX.cell 2 (.int .i64 X.m) rfl
        have x3 := kX.cell 3 (.int .i64 X.a) rfl
        have x4 := kX.cell 4 (.slice fX X.F.length gX) rfl
        have x5 := kX.cell 5 (.int .i64 X.t) rfl
        have p0 := kP.cell 0 (.int .i64 Ee.n) rfl
        have p1 := kP.cell 1 (.slice oP Ee.R.length cP) rfl
        have p2 := kP.cell 2 (.int .i64 Ee.m) rfl
        have p3 := kP.cell 3 (.int .i64 Ee.a) rfl
        have p4 := kP.cell 4 (.slice fP Ee.F.length gP) rfl
        have p5 := kP.cell 5 (.int .i64 Ee.t) rfl
        have y0 := kQ.cell 0 (.int .i64 Ee.n) rfl
        have y1 := kQ.cell 1 (.slice oQ Ee.R.length cQ) rfl
        have y2 := kQ.cell 2 (.int .i64 Ee.m) rfl
        have y3 := kQ.cell 3 (.int .i64 Ee.a) rfl
        have y4 := kQ.cell 4 (.slice fQ Ee.F.length gQ) rfl
        have y5 := kQ.cell 5 (.int .i64 Ee.t) rfl
        have hwr : IntKind.i64.wrap (X.t - A.t) = X.t - A.t := by have h1 := hsm.2.2.2; have h2 := hsX.2.2.2; unfold IntKind.wrap; simp [IntKind.bits, IntKind.signed]; omega
        by_cases hq0 : 0 ≤ q
        · have hqd : decide (0 ≤ q) = true := decide_eq_true hq0
          have hgt : decide (q < X.t - A.t) = false := decide_eq_false (Int.not_lt.2 (HTX.out hq0))
          go_wp2_with (first | (go_at_call 8; refine Calls.mono (Ans.eqb (c_specEqualSearches Ee Ee oP oQ fP fQ cP cQ gP gQ _ sP.1.1 sQ.1.1 sP.2.1 sQ.2.1) eE) ?_; rintro e wz ⟨rfl, hbn⟩; replace n0 := cell_keep n0 hbn; replace n1 := cell_keep n1 hbn; replace n2 := cell_keep n2 hbn; replace n3 := cell_keep n3 hbn; replace n4 := cell_keep n4 hbn; replace n5 := cell_keep n5 hbn; replace x0 := cell_keep x0 hbn; replace x1 := cell_keep x1 hbn; replace x2 := cell_keep x2 hbn; replace x3 := cell_keep x3 hbn; replace x4 := cell_keep x4 hbn; replace x5 := cell_keep x5 hbn; replace p0 := cell_keep p0 hbn; replace p1 := cell_keep p1 hbn; replace p2 := cell_keep p2 hbn; replace p3 := cell_keep p3 hbn; replace p4 := cell_keep p4 hbn; replace p5 := cell_keep p5 hbn; replace y0 := cell_keep y0 hbn; replace y1 := cell_keep y1 hbn; replace y2 := cell_keep y2 hbn; replace y3 := cell_keep y3 hbn; replace y4 := cell_keep y4 hbn; replace y5 := cell_keep y5 hbn; replace hB := hB.keep hbn; replace sA := sA.keep hbn; replace kA := kA.keep hbn; replace sX := sX.keep hbn; replace kX := kX.keep hbn; replace dM := dM.keep hbn; replace sP := sP.keep hbn; replace kP := kP.keep hbn; replace sQ := sQ.keep hbn; replace kQ := kQ.keep hbn; replace hb := bel_to hb hbn; clear hbn) | (go_at_call 18; refine Calls.mono (Ans.eqb (c_IsSearched Ee oP fP cP gP _ sP.1 sP.2.1) HD.out) ?_; rintro e wz ⟨rfl, hbn⟩; replace n0 := cell_keep n0 hbn; replace n1 := cell_keep n1 hbn; replace n2 := cell_keep n2 hbn; replace n3 := cell_keep n3 hbn; replace n4 := cell_keep n4 hbn; replace n5 := cell_keep n5 hbn; replace x0 := cell_keep x0 hbn; replace x1 := cell_keep x1 hbn; replace x2 := cell_keep x2 hbn; replace x3 := cell_keep x3 hbn; replace x4 := cell_keep x4 hbn; replace x5 := cell_keep x5 hbn; replace p0 := cell_keep p0 hbn; replace p1 := cell_keep p1 hbn; replace p2 := cell_keep p2 hbn; replace p3 := cell_keep p3 hbn; replace p4 := cell_keep p4 hbn; replace p5 := cell_keep p5 hbn; replace y0 := cell_keep y0 hbn; replace y1 := cell_keep y1 hbn; replace y2 := cell_keep y2 hbn; replace y3 := cell_keep y3 hbn; replace y4 := cell_keep y4 hbn; replace y5 := cell_keep y5 hbn; replace hB := hB.keep hbn; replace sA := sA.keep hbn; replace kA := kA.keep hbn; replace sX := sX.keep hbn; replace kX := kX.keep hbn; replace dM := dM.keep hbn; replace sP := sP.keep hbn; replace kP := kP.keep hbn; replace sQ := sQ.keep hbn; replace kQ := kQ.keep hbn; replace hb := bel_to hb hbn; clear hbn) | (go_at_call 19; refine Calls.mono (c_lawSameSet fP oM gP cM Ee.F M _ sP.2.1 dM HM2.out.2 HM2.out.1) ?_; rintro e wz ⟨rfl, hbn⟩; replace n0 := cell_keep n0 hbn; replace n1 := cell_keep n1 hbn; replace n2 := cell_keep n2 hbn; replace n3 := cell_keep n3 hbn; replace n4 := cell_keep n4 hbn; replace n5 := cell_keep n5 hbn; replace x0 := cell_keep x0 hbn; replace x1 := cell_keep x1 hbn; replace x2 := cell_keep x2 hbn; replace x3 := cell_keep x3 hbn; replace x4 := cell_keep x4 hbn; replace x5 := cell_keep x5 hbn; replace p0 := cell_keep p0 hbn; replace p1 := cell_keep p1 hbn; replace p2 := cell_keep p2 hbn; replace p3 := cell_keep p3 hbn; replace p4 := cell_keep p4 hbn; replace p5 := cell_keep p5 hbn; replace y0 := cell_keep y0 hbn; replace y1 := cell_keep y1 hbn; replace y2 := cell_keep y2 hbn; replace y3 := cell_keep y3 hbn; replace y4 := cell_keep y4 hbn; replace y5 := cell_keep y5 hbn; replace hB := hB.keep hbn; replace sA := sA.keep hbn; replace kA := kA.keep hbn; replace sX := sX.keep hbn; replace kX := kX.keep hbn; replace dM := dM.keep hbn; replace sP := sP.keep hbn; replace kP := kP.keep hbn; replace sQ := sQ.keep hbn; replace kQ := kQ.keep hbn; replace hb := bel_to hb hbn; clear hbn) | (go_at_call 10; refine Calls.mono (Ans.eqb (c_IsSearch X oX fX cX gX _ sX.1 sX.2.1) HSX.out) ?_; rintro e wz ⟨rfl, hbn⟩; replace n0 := cell_keep n0 hbn; replace n1 := cell_keep n1 hbn; replace n2 := cell_keep n2 hbn; replace n3 := cell_keep n3 hbn; replace n4 := cell_keep n4 hbn; replace n5 := cell_keep n5 hbn; replace x0 := cell_keep x0 hbn; replace x1 := cell_keep x1 hbn; replace x2 := cell_keep x2 hbn; replace x3 := cell_keep x3 hbn; replace x4 := cell_keep x4 hbn; replace x5 := cell_keep x5 hbn; replace p0 := cell_keep p0 hbn; replace p1 := cell_keep p1 hbn; replace p2 := cell_keep p2 hbn; replace p3 := cell_keep p3 hbn; replace p4 := cell_keep p4 hbn; replace p5 := cell_keep p5 hbn; replace y0 := cell_keep y0 hbn; replace y1 := cell_keep y1 hbn; replace y2 := cell_keep y2 hbn; replace y3 := cell_keep y3 hbn; replace y4 := cell_keep y4 hbn; replace y5 := cell_keep y5 hbn; replace hB := hB.keep hbn; replace sA := sA.keep hbn; replace kA := kA.keep hbn; replace sX := sX.keep hbn; replace kX := kX.keep hbn; replace dM := dM.keep hbn; replace sP := sP.keep hbn; replace kP := kP.keep hbn; replace sQ := sQ.keep hbn; replace kQ := kQ.keep hbn; replace hb := bel_to hb hbn; clear hbn) | fail)
          clear n0 n1 n2 n3 n4 n5 x0 x1 x2 x3 x4 x5 p0 p1 p2 p3 p4 p5 y0 y1 y2 y3 y4 y5 sP sQ kP kQ dM eE hwr
          clear sA sX kA kX
          have H := c_DrawIsSearched oc mc capc hmc _ hB
          unfold DrawsSr at H
          refine H.mono ?_
          clear H
          rintro e w20 ⟨U, oU, cU, fU, gU, xsU, rfl, hO, hF, hsU, hap, hbn⟩
          have sU := srIn_of hO hF hsU.sb
          clear hO hF hap
          replace hB := hB.keep hbn
          replace hb := bel_to hb hbn
          clear hbn
          have kU := Blk.new w20 #[.int .i64 U.n, .slice oU U.R.length cU, .int .i64 U.m, .int .i64 U.a, .slice fU U.F.length gU, .int .i64 U.t] 29
          have hbn := (Below.refl w20.heap.size w20).alloc (Nat.le_refl _) (.cells #[.int .i64 U.n, .slice oU U.R.length cU, .int .i64 U.m, .int .i64 U.a, .slice fU U.F.length gU, .int .i64 U.t] 29)
          replace hB := hB.keep hbn
          replace sU := sU.keep hbn
          replace hb := bel_to hb hbn
          clear hbn
          go_wp2_with fail
          have H := c_DrawNewSearch oc mc capc hmc _ hB
          unfold DrawsTab at H
          refine H.mono ?_
          clear H
          rintro e w21 ⟨n4, m4, o4, c4, xs4, R4, rfl, hO, ⟨hRl, hlen⟩, hbn⟩
          replace hB := hB.keep hbn
          replace sU := sU.keep hbn
          replace kU := kU.keep hbn
          replace hb := bel_to hb hbn
          clear hbn
          have sR := hO.readC (show R4.length ≤ Room by unfold Room; omega) (fun j hj => Nat.le_trans (hlen j hj) (by unfold Room; omega))
          have bN : SB (nsF n4 R4 m4) := ns_sb hRl hlen
          clear hO hlen
          have k4 := Blk.new w21 #[.int .i64 n4, .slice o4 R4.length c4] 26
          have hbn := (Below.refl w21.heap.size w21).alloc (Nat.le_refl _) (.cells #[.int .i64 n4, .slice o4 R4.length c4] 26)
          replace hB := hB.keep hbn
          replace sU := sU.keep hbn
          replace kU := kU.keep hbn
          replace sR := sR.keep hbn
          replace hb := bel_to hb hbn
          clear hbn
          obtain ⟨Nw, HN⟩ : ∃ X, Hid (nsF n4 R4 m4 = X) := ⟨_, rfl⟩
          obtain ⟨mk, HMK⟩ : ∃ b, Hid ((isTabF n4 R4 && modeF m4) = b) := ⟨_, rfl⟩
          rw [HN.out] at bN
          have g0 := k4.cell 0 (.int .i64 n4) rfl
          have g1 := k4.cell 1 (.slice o4 R4.length c4) rfl
          go_wp2_with fail
          have H := c_NewSearch n4 o4 c4 R4 m4 _ sR
          rw [HN.out, HMK.out] at H
          refine (H.got bN).mono ?_
          clear H
          rintro e w22 ⟨oV, cV, fV, gV, rfl, sV, hbn⟩
          replace hB := hB.keep hbn
          replace sU := sU.keep hbn
          replace kU := kU.keep hbn
          replace sR := sR.keep hbn
          replace k4 := k4.keep hbn
          replace hb := bel_to hb hbn
          clear hbn
          clear g0 g1
          have kV := Blk.new w22 #[.int .i64 Nw.n, .slice oV Nw.R.length cV, .int .i64 Nw.m, .int .i64 Nw.a, .slice fV Nw.F.length gV, .int .i64 Nw.t] 29
          have hbn := (Below.refl w22.heap.size w22).alloc (Nat.le_refl _) (.cells #[.int .i64 Nw.n, .slice oV Nw.R.length cV, .int .i64 Nw.m, .int .i64 Nw.a, .slice fV Nw.F.length gV, .int .i64 Nw.t] 29)
          replace hB := hB.keep hbn
          replace sU := sU.keep hbn
          replace kU := kU.keep hbn
          replace sR := sR.keep hbn
          replace k4 := k4.keep hbn
          replace sV := sV.keep hbn
          replace hb := bel_to hb hbn
          clear hbn
          have g0 := k4.cell 0 (.int .i64 n4) rfl
          have g1 := k4.cell 1 (.slice o4 R4.length c4) rfl
          go_wp2_with fail
          have H := c_specNewSearch n4 o4 c4 R4 m4 _ sR
          rw [HN.out, HMK.out] at H
          refine (H.got bN).mono ?_
          clear H
          rintro e w23 ⟨oW, cW, fW, gW, rfl, sW, hbn⟩
          replace hB := hB.keep hbn
          replace sU := sU.keep hbn
          replace kU := kU.keep hbn
          replace sR := sR.keep hbn
          replace k4 := k4.keep hbn
          replace sV := sV.keep hbn
          replace kV := kV.keep hbn
          replace hb := bel_to hb hbn
          clear hbn
          clear g0 g1
          have kW := Blk.new w23 #[.int .i64 Nw.n, .slice oW Nw.R.length cW, .int .i64 Nw.m, .int .i64 Nw.a, .slice fW Nw.F.length gW, .int .i64 Nw.t] 29
          have hbn := (Below.refl w23.heap.size w23).alloc (Nat.le_refl _) (.cells #[.int .i64 Nw.n, .slice oW Nw.R.length cW, .int .i64 Nw.m, .int .i64 Nw.a, .slice fW Nw.F.length gW, .int .i64 Nw.t] 29)
          replace hB := hB.keep hbn
          replace sU := sU.keep hbn
          replace kU := kU.keep hbn
          replace sR := sR.keep hbn
          replace k4 := k4.keep hbn
          replace sV := sV.keep hbn
          replace kV := kV.keep hbn
          replace sW := sW.keep hbn
          replace hb := bel_to hb hbn
          clear hbn
          obtain ⟨b7, HB7⟩ : ∃ b, Hid (isSrdF U = b) := ⟨_, rfl⟩
          have hq1 : (b7 == b7) = true := by simp
          have hq2 : (mk == mk) = true := by simp
          have eN := eqSr_self Nw
          have u0 := kU.cell 0 (.int .i64 U.n) rfl
          have u1 := kU.cell 1 (.slice oU U.R.length cU) rfl
          have u2 := kU.cell 2 (.int .i64 U.m) rfl
          have u3 := kU.cell 3 (.int .i64 U.a) rfl
          have u4 := kU.cell 4 (.slice fU U.F.length gU) rfl
          have u5 := kU.cell 5 (.int .i64 U.t) rfl
          have x0 := kV.cell 0 (.int .i64 Nw.n) rfl
          have x1 := kV.cell 1 (.slice oV Nw.R.length cV) rfl
          have x2 := kV.cell 2 (.int .i64 Nw.m) rfl
          have x3 := kV.cell 3 (.int .i64 Nw.a) rfl
          have x4 := kV.cell 4 (.slice fV Nw.F.length gV) rfl
          have x5 := kV.cell 5 (.int .i64 Nw.t) rfl
          have y0 := kW.cell 0 (.int .i64 Nw.n) rfl
          have y1 := kW.cell 1 (.slice oW Nw.R.length cW) rfl
          have y2 := kW.cell 2 (.int .i64 Nw.m) rfl
          have y3 := kW.cell 3 (.int .i64 Nw.a) rfl
          have y4 := kW.cell 4 (.slice fW Nw.F.length gW) rfl
          have y5 := kW.cell 5 (.int .i64 Nw.t) rfl
          go_upto_region 28 with fail
          generalize w23.alloc (.cells #[.int .i64 Nw.n, .slice oW Nw.R.length cW, .int .i64 Nw.m, .int .i64 Nw.a, .slice fW Nw.F.length gW, .int .i64 Nw.t] 29) = w24 at *
          refine wp_region_held_drew (S := fun w' => w'.cell? ⟨w20.heap.size, 0, none⟩ = some (.int .i64 U.n) ∧ w'.cell? ⟨w20.heap.size, 1, none⟩ = some (.slice oU U.R.length cU) ∧ w'.cell? ⟨w20.heap.size, 2, none⟩ = some (.int .i64 U.m) ∧ w'.cell? ⟨w20.heap.size, 3, none⟩ = some (.int .i64 U.a) ∧ w'.cell? ⟨w20.heap.size, 4, none⟩ = some (.slice fU U.F.length gU) ∧ w'.cell? ⟨w20.heap.size, 5, none⟩ = some (.int .i64 U.t) ∧ w'.cell? ⟨w22.heap.size, 0, none⟩ = some (.int .i64 Nw.n) ∧ w'.cell? ⟨w22.heap.size, 1, none⟩ = some (.slice oV Nw.R.length cV) ∧ w'.cell? ⟨w22.heap.size, 2, none⟩ = some (.int .i64 Nw.m) ∧ w'.cell? ⟨w22.heap.size, 3, none⟩ = some (.int .i64 Nw.a) ∧ w'.cell? ⟨w22.heap.size, 4, none⟩ = some (.slice fV Nw.F.length gV) ∧ w'.cell? ⟨w22.heap.size, 5, none⟩ = some (.int .i64 Nw.t) ∧ w'.cell? ⟨w23.heap.size, 0, none⟩ = some (.int .i64 Nw.n) ∧ w'.cell? ⟨w23.heap.size, 1, none⟩ = some (.slice oW Nw.R.length cW) ∧ w'.cell? ⟨w23.heap.size, 2, none⟩ = some (.int .i64 Nw.m) ∧ w'.cell? ⟨w23.heap.size, 3, none⟩ = some (.int .i64 Nw.a) ∧ w'.cell? ⟨w23.heap.size, 4, none⟩ = some (.slice fW Nw.F.length gW) ∧ w'.cell? ⟨w23.heap.size, 5, none⟩ = some (.int .i64 Nw.t) ∧ Below w24.heap.size w24 w') (by kernel_rfl) ⟨cell_keep u0 (Below.refl _ _).drew, cell_keep u1 (Below.refl _ _).drew, cell_keep u2 (Below.refl _ _).drew, cell_keep u3 (Below.refl _ _).drew, cell_keep u4 (Below.refl _ _).drew, cell_keep u5 (Below.refl _ _).drew, cell_keep x0 (Below.refl _ _).drew, cell_keep x1 (Below.refl _ _).drew, cell_keep x2 (Below.refl _ _).drew, cell_keep x3 (Below.refl _ _).drew, cell_keep x4 (Below.refl _ _).drew, cell_keep x5 (Below.refl _ _).drew, cell_keep y0 (Below.refl _ _).drew, cell_keep y1 (Below.refl _ _).drew, cell_keep y2 (Below.refl _ _).drew, cell_keep y3 (Below.refl _ _).drew, cell_keep y4 (Below.refl _ _).drew, cell_keep y5 (Below.refl _ _).drew, (Below.refl _ _).drew⟩ (fun hS => ?_)
          (refine wpAnyH_val (i := 0) (some 166) ?_ rfl rfl (by kernel_rfl) (by kernel_rfl) (by kernel_rfl) (fun _ _ _ h => h) (by rfl) (by assumption) ?_ ?_; rotate_left; (intro w hSw; go_simp; (try with_reducible rfl)); (try simp only [Act.put, List.setIfInBounds_toArray, List.set_cons_zero, List.set_cons_succ])); (refine wpAnyH_val (i := 2) (some 168) ?_ rfl rfl (by kernel_rfl) (by kernel_rfl) (by kernel_rfl) (fun _ _ _ h => h) (by rfl) (by assumption) ?_ ?_; rotate_left; (intro w hSw; go_simp; (try with_reducible rfl)); (try simp only [Act.put, List.setIfInBounds_toArray, List.set_cons_zero, List.set_cons_succ]))
          (refine wpAnyH_ready (rs := [1]) (by kernel_rfl) (by simp) ?_; refine AllReadyH.cons rfl (fun K hK => ?_) AllReadyH.nil; go_simp)
          refine Calls.mono (Ans.eqb (c_IsSearched U oU fU cU gU _ (sU.keep hS.2.2.2.2.2.2.2.2.2.2.2.2.2.2.2.2.2.2).1 (sU.keep hS.2.2.2.2.2.2.2.2.2.2.2.2.2.2.2.2.2.2).2.1) HB7.out) ?_
          rintro e wz ⟨rfl, hbn⟩
          have hS3 := (show _ ∧ _ ∧ _ ∧ _ ∧ _ ∧ _ ∧ _ ∧ _ ∧ _ ∧ _ ∧ _ ∧ _ ∧ _ ∧ _ ∧ _ ∧ _ ∧ _ ∧ _ ∧ Below w24.heap.size w24 _ from ⟨cell_keep hS.1 hbn, cell_keep hS.2.1 hbn, cell_keep hS.2.2.1 hbn, cell_keep hS.2.2.2.1 hbn, cell_keep hS.2.2.2.2.1 hbn, cell_keep hS.2.2.2.2.2.1 hbn, cell_keep hS.2.2.2.2.2.2.1 hbn, cell_keep hS.2.2.2.2.2.2.2.1 hbn, cell_keep hS.2.2.2.2.2.2.2.2.1 hbn, cell_keep hS.2.2.2.2.2.2.2.2.2.1 hbn, cell_keep hS.2.2.2.2.2.2.2.2.2.2.1 hbn, cell_keep hS.2.2.2.2.2.2.2.2.2.2.2.1 hbn, cell_keep hS.2.2.2.2.2.2.2.2.2.2.2.2.1 hbn, cell_keep hS.2.2.2.2.2.2.2.2.2.2.2.2.2.1 hbn, cell_keep hS.2.2.2.2.2.2.2.2.2.2.2.2.2.2.1 hbn, cell_keep hS.2.2.2.2.2.2.2.2.2.2.2.2.2.2.2.1 hbn, cell_keep hS.2.2.2.2.2.2.2.2.2.2.2.2.2.2.2.2.1 hbn, cell_keep hS.2.2.2.2.2.2.2.2.2.2.2.2.2.2.2.2.2.1 hbn, bel_to hS.2.2.2.2.2.2.2.2.2.2.2.2.2.2.2.2.2.2 hbn⟩)
          refine hK.out _ _ hS3 (fun hS2 => ?_)
          clear hK hbn hS hS2
          have hS := hS3
          clear hS3
          (try simp only [Act.put, List.setIfInBounds_toArray, List.set_cons_zero, List.set_cons_succ])
          (refine wpAnyH_ready (rs := [3]) (by kernel_rfl) (by simp) ?_; refine AllReadyH.cons rfl (fun K hK => ?_) AllReadyH.nil; go_simp)
          refine Calls.mono (Ans.eqb (c_specIsSearched U oU fU cU gU _ (sU.keep hS.2.2.2.2.2.2.2.2.2.2.2.2.2.2.2.2.2.2).1.1 (sU.keep hS.2.2.2.2.2.2.2.2.2.2.2.2.2.2.2.2.2.2).2.1) HB7.out) ?_
          rintro e wz ⟨rfl, hbn⟩
          have hS3 := (show _ ∧ _ ∧ _ ∧ _ ∧ _ ∧ _ ∧ _ ∧ _ ∧ _ ∧ _ ∧ _ ∧ _ ∧ _ ∧ _ ∧ _ ∧ _ ∧ _ ∧ _ ∧ Below w24.heap.size w24 _ from ⟨cell_keep hS.1 hbn, cell_keep hS.2.1 hbn, cell_keep hS.2.2.1 hbn, cell_keep hS.2.2.2.1 hbn, cell_keep hS.2.2.2.2.1 hbn, cell_keep hS.2.2.2.2.2.1 hbn, cell_keep hS.2.2.2.2.2.2.1 hbn, cell_keep hS.2.2.2.2.2.2.2.1 hbn, cell_keep hS.2.2.2.2.2.2.2.2.1 hbn, cell_keep hS.2.2.2.2.2.2.2.2.2.1 hbn, cell_keep hS.2.2.2.2.2.2.2.2.2.2.1 hbn, cell_keep hS.2.2.2.2.2.2.2.2.2.2.2.1 hbn, cell_keep hS.2.2.2.2.2.2.2.2.2.2.2.2.1 hbn, cell_keep hS.2.2.2.2.2.2.2.2.2.2.2.2.2.1 hbn, cell_keep hS.2.2.2.2.2.2.2.2.2.2.2.2.2.2.1 hbn, cell_keep hS.2.2.2.2.2.2.2.2.2.2.2.2.2.2.2.1 hbn, cell_keep hS.2.2.2.2.2.2.2.2.2.2.2.2.2.2.2.2.1 hbn, cell_keep hS.2.2.2.2.2.2.2.2.2.2.2.2.2.2.2.2.2.1 hbn, bel_to hS.2.2.2.2.2.2.2.2.2.2.2.2.2.2.2.2.2.2 hbn⟩)
          refine hK.out _ _ hS3 (fun hS2 => ?_)
          clear hK hbn hS hS2
          have hS := hS3
          clear hS3
          (try simp only [Act.put, List.setIfInBounds_toArray, List.set_cons_zero, List.set_cons_succ])
          (refine wpAnyH_val (i := 4) (some 170) ?_ rfl rfl (by kernel_rfl) (by kernel_rfl) (by kernel_rfl) (fun _ _ _ h => h) (by rfl) (by assumption) ?_ ?_; rotate_left; (intro w hSw; go_simp; (try with_reducible rfl)); (try simp only [Act.put, List.setIfInBounds_toArray, List.set_cons_zero, List.set_cons_succ])); (refine wpAnyH_val (i := 5) (some 171) ?_ rfl rfl (by kernel_rfl) (by kernel_rfl) (by kernel_rfl) (fun _ _ _ h => h) (by rfl) (by assumption) ?_ ?_; rotate_left; (intro w hSw; go_simp; (try with_reducible rfl)); (try simp only [Act.put, List.setIfInBounds_toArray, List.set_cons_zero, List.set_cons_succ])); (refine wpAnyH_val (i := 6) (some 172) ?_ rfl rfl (by kernel_rfl) (by kernel_rfl) (by kernel_rfl) (fun _ _ _ h => h) (by rfl) (by assumption) ?_ ?_; rotate_left; (intro w hSw; go_simp; (try with_reducible rfl)); (try simp only [Act.put, List.setIfInBounds_toArray, List.set_cons_zero, List.set_cons_succ])); (refine wpAnyH_val (i := 7) (some 173) ?_ rfl rfl (by kernel_rfl) (by kernel_rfl) (by kernel_rfl) (fun _ _ _ h => h) (by rfl) (by assumption) ?_ ?_; rotate_left; (intro w hSw; go_simp; (try with_reducible rfl)); (try simp only [Act.put, List.setIfInBounds_toArray, List.set_cons_zero, List.set_cons_succ])); (refine wpAnyH_val (i := 8) (some 174) ?_ rfl rfl (by kernel_rfl) (by kernel_rfl) (by kernel_rfl) (fun _ _ _ h => h) (by rfl) (by assumption) ?_ ?_; rotate_left; (intro w hSw; go_simp; (try with_reducible rfl)); (try simp only [Act.put, List.setIfInBounds_toArray, List.set_cons_zero, List.set_cons_succ])); (refine wpAnyH_val (i := 9) (some 175) ?_ rfl rfl (by kernel_rfl) (by kernel_rfl) (by kernel_rfl) (fun _ _ _ h => h) (by rfl) (by assumption) ?_ ?_; rotate_left; (intro w hSw; go_simp; (try with_reducible rfl)); (try simp only [Act.put, List.setIfInBounds_toArray, List.set_cons_zero, List.set_cons_succ])); (refine wpAnyH_val (i := 10) (some 176) ?_ rfl rfl (by kernel_rfl) (by kernel_rfl) (by kernel_rfl) (fun _ _ _ h => h) (by rfl) (by assumption) ?_ ?_; rotate_left; (intro w hSw; go_simp; (try with_reducible rfl)); (try simp only [Act.put, List.setIfInBounds_toArray, List.set_cons_zero, List.set_cons_succ])); (refine wpAnyH_val (i := 11) (some 177) ?_ rfl rfl (by kernel_rfl) (by kernel_rfl) (by kernel_rfl) (fun _ _ _ h => h) (by rfl) (by assumption) ?_ ?_; rotate_left; (intro w hSw; go_simp; (try with_reducible rfl)); (try simp only [Act.put, List.setIfInBounds_toArray, List.set_cons_zero, List.set_cons_succ])); (refine wpAnyH_val (i := 12) (some 178) ?_ rfl rfl (by kernel_rfl) (by kernel_rfl) (by kernel_rfl) (fun _ _ _ h => h) (by rfl) (by assumption) ?_ ?_; rotate_left; (intro w hSw; go_simp; (try with_reducible rfl)); (try simp only [Act.put, List.setIfInBounds_toArray, List.set_cons_zero, List.set_cons_succ]))
          (refine wpAnyH_ready (rs := [13]) (by kernel_rfl) (by simp) ?_; refine AllReadyH.cons rfl (fun K hK => ?_) AllReadyH.nil; go_simp)
          refine Calls.mono (Ans.eqb (c_specEqualSearches Nw Nw oV oW fV fW cV cW gV gW _ (sV.keep hS.2.2.2.2.2.2.2.2.2.2.2.2.2.2.2.2.2.2).1.1 (sW.keep hS.2.2.2.2.2.2.2.2.2.2.2.2.2.2.2.2.2.2).1.1 (sV.keep hS.2.2.2.2.2.2.2.2.2.2.2.2.2.2.2.2.2.2).2.1 (sW.keep hS.2.2.2.2.2.2.2.2.2.2.2.2.2.2.2.2.2.2).2.1) eN) ?_
          rintro e wz ⟨rfl, hbn⟩
          have hS3 := (show _ ∧ _ ∧ _ ∧ _ ∧ _ ∧ _ ∧ _ ∧ _ ∧ _ ∧ _ ∧ _ ∧ _ ∧ _ ∧ _ ∧ _ ∧ _ ∧ _ ∧ _ ∧ Below w24.heap.size w24 _ from ⟨cell_keep hS.1 hbn, cell_keep hS.2.1 hbn, cell_keep hS.2.2.1 hbn, cell_keep hS.2.2.2.1 hbn, cell_keep hS.2.2.2.2.1 hbn, cell_keep hS.2.2.2.2.2.1 hbn, cell_keep hS.2.2.2.2.2.2.1 hbn, cell_keep hS.2.2.2.2.2.2.2.1 hbn, cell_keep hS.2.2.2.2.2.2.2.2.1 hbn, cell_keep hS.2.2.2.2.2.2.2.2.2.1 hbn, cell_keep hS.2.2.2.2.2.2.2.2.2.2.1 hbn, cell_keep hS.2.2.2.2.2.2.2.2.2.2.2.1 hbn, cell_keep hS.2.2.2.2.2.2.2.2.2.2.2.2.1 hbn, cell_keep hS.2.2.2.2.2.2.2.2.2.2.2.2.2.1 hbn, cell_keep hS.2.2.2.2.2.2.2.2.2.2.2.2.2.2.1 hbn, cell_keep hS.2.2.2.2.2.2.2.2.2.2.2.2.2.2.2.1 hbn, cell_keep hS.2.2.2.2.2.2.2.2.2.2.2.2.2.2.2.2.1 hbn, cell_keep hS.2.2.2.2.2.2.2.2.2.2.2.2.2.2.2.2.2.1 hbn, bel_to hS.2.2.2.2.2.2.2.2.2.2.2.2.2.2.2.2.2.2 hbn⟩)
          refine hK.out _ _ hS3 (fun hS2 => ?_)
          clear hK hbn hS hS2
          have hS := hS3
          clear hS3
          (try simp only [Act.put, List.setIfInBounds_toArray, List.set_cons_zero, List.set_cons_succ])
          (refine wpAnyH_val (i := 14) (some 180) ?_ rfl rfl (by kernel_rfl) (by kernel_rfl) (by kernel_rfl) (fun _ _ _ h => h) (by rfl) (by assumption) ?_ ?_; rotate_left; (intro w hSw; go_simp; (try with_reducible rfl)); (try simp only [Act.put, List.setIfInBounds_toArray, List.set_cons_zero, List.set_cons_succ])); (refine wpAnyH_val (i := 15) (some 2) ?_ rfl rfl (by kernel_rfl) (by kernel_rfl) (by kernel_rfl) (fun _ _ _ h => h) (by rfl) (by assumption) ?_ ?_; rotate_left; (intro w hSw; go_simp; (try with_reducible rfl)); (try simp only [Act.put, List.setIfInBounds_toArray, List.set_cons_zero, List.set_cons_succ]))
          refine wpAnyH_done (by kernel_rfl) ?_ _
          try dsimp only [NoPanic, Exit.then]
          go_wp2
          go_ret
          exact ⟨rfl, bel_to hb hS.2.2.2.2.2.2.2.2.2.2.2.2.2.2.2.2.2.2⟩
        · have hqd : decide (0 ≤ q) = false := decide_eq_false hq0
          go_wp2_with (first | (go_at_call 8; refine Calls.mono (Ans.eqb (c_specEqualSearches Ee Ee oP oQ fP fQ cP cQ gP gQ _ sP.1.1 sQ.1.1 sP.2.1 sQ.2.1) eE) ?_; rintro e wz ⟨rfl, hbn⟩; replace n0 := cell_keep n0 hbn; replace n1 := cell_keep n1 hbn; replace n2 := cell_keep n2 hbn; replace n3 := cell_keep n3 hbn; replace n4 := cell_keep n4 hbn; replace n5 := cell_keep n5 hbn; replace x0 := cell_keep x0 hbn; replace x1 := cell_keep x1 hbn; replace x2 := cell_keep x2 hbn; replace x3 := cell_keep x3 hbn; replace x4 := cell_keep x4 hbn; replace x5 := cell_keep x5 hbn; replace p0 := cell_keep p0 hbn; replace p1 := cell_keep p1 hbn; replace p2 := cell_keep p2 hbn; replace p3 := cell_keep p3 hbn; replace p4 := cell_keep p4 hbn; replace p5 := cell_keep p5 hbn; replace y0 := cell_keep y0 hbn; replace y1 := cell_keep y1 hbn; replace y2 := cell_keep y2 hbn; replace y3 := cell_keep y3 hbn; replace y4 := cell_keep y4 hbn; replace y5 := cell_keep y5 hbn; replace hB := hB.keep hbn; replace sA := sA.keep hbn; replace kA := kA.keep hbn; replace sX := sX.keep hbn; replace kX := kX.keep hbn; replace dM := dM.keep hbn; replace sP := sP.keep hbn; replace kP := kP.keep hbn; replace sQ := sQ.keep hbn; replace kQ := kQ.keep hbn; replace hb := bel_to hb hbn; clear hbn) | (go_at_call 18; refine Calls.mono (Ans.eqb (c_IsSearched Ee oP fP cP gP _ sP.1 sP.2.1) HD.out) ?_; rintro e wz ⟨rfl, hbn⟩; replace n0 := cell_keep n0 hbn; replace n1 := cell_keep n1 hbn; replace n2 := cell_keep n2 hbn; replace n3 := cell_keep n3 hbn; replace n4 := cell_keep n4 hbn; replace n5 := cell_keep n5 hbn; replace x0 := cell_keep x0 hbn; replace x1 := cell_keep x1 hbn; replace x2 := cell_keep x2 hbn; replace x3 := cell_keep x3 hbn; replace x4 := cell_keep x4 hbn; replace x5 := cell_keep x5 hbn; replace p0 := cell_keep p0 hbn; replace p1 := cell_keep p1 hbn; replace p2 := cell_keep p2 hbn; replace p3 := cell_keep p3 hbn; replace p4 := cell_keep p4 hbn; replace p5 := cell_keep p5 hbn; replace y0 := cell_keep y0 hbn; replace y1 := cell_keep y1 hbn; replace y2 := cell_keep y2 hbn; replace y3 := cell_keep y3 hbn; replace y4 := cell_keep y4 hbn; replace y5 := cell_keep y5 hbn; replace hB := hB.keep hbn; replace sA := sA.keep hbn; replace kA := kA.keep hbn; replace sX := sX.keep hbn; replace kX := kX.keep hbn; replace dM := dM.keep hbn; replace sP := sP.keep hbn; replace kP := kP.keep hbn; replace sQ := sQ.keep hbn; replace kQ := kQ.keep hbn; replace hb := bel_to hb hbn; clear hbn) | (go_at_call 19; refine Calls.mono (c_lawSameSet fP oM gP cM Ee.F M _ sP.2.1 dM HM2.out.2 HM2.out.1) ?_; rintro e wz ⟨rfl, hbn⟩; replace n0 := cell_keep n0 hbn; replace n1 := cell_keep n1 hbn; replace n2 := cell_keep n2 hbn; replace n3 := cell_keep n3 hbn; replace n4 := cell_keep n4 hbn; replace n5 := cell_keep n5 hbn; replace x0 := cell_keep x0 hbn; replace x1 := cell_keep x1 hbn; replace x2 := cell_keep x2 hbn; replace x3 := cell_keep x3 hbn; replace x4 := cell_keep x4 hbn; replace x5 := cell_keep x5 hbn; replace p0 := cell_keep p0 hbn; replace p1 := cell_keep p1 hbn; replace p2 := cell_keep p2 hbn; replace p3 := cell_keep p3 hbn; replace p4 := cell_keep p4 hbn; replace p5 := cell_keep p5 hbn; replace y0 := cell_keep y0 hbn; replace y1 := cell_keep y1 hbn; replace y2 := cell_keep y2 hbn; replace y3 := cell_keep y3 hbn; replace y4 := cell_keep y4 hbn; replace y5 := cell_keep y5 hbn; replace hB := hB.keep hbn; replace sA := sA.keep hbn; replace kA := kA.keep hbn; replace sX := sX.keep hbn; replace kX := kX.keep hbn; replace dM := dM.keep hbn; replace sP := sP.keep hbn; replace kP := kP.keep hbn; replace sQ := sQ.keep hbn; replace kQ := kQ.keep hbn; replace hb := bel_to hb hbn; clear hbn) | (go_at_call 10; refine Calls.mono (Ans.eqb (c_IsSearch X oX fX cX gX _ sX.1 sX.2.1) HSX.out) ?_; rintro e wz ⟨rfl, hbn⟩; replace n0 := cell_keep n0 hbn; replace n1 := cell_keep n1 hbn; replace n2 := cell_keep n2 hbn; replace n3 := cell_keep n3 hbn; replace n4 := cell_keep n4 hbn; replace n5 := cell_keep n5 hbn; replace x0 := cell_keep x0 hbn; replace x1 := cell_keep x1 hbn; replace x2 := cell_keep x2 hbn; replace x3 := cell_keep x3 hbn; replace x4 := cell_keep x4 hbn; replace x5 := cell_keep x5 hbn; replace p0 := cell_keep p0 hbn; replace p1 := cell_keep p1 hbn; replace p2 := cell_keep p2 hbn; replace p3 := cell_keep p3 hbn; replace p4 := cell_keep p4 hbn; replace p5 := cell_keep p5 hbn; replace y0 := cell_keep y0 hbn; replace y1 := cell_keep y1 hbn; replace y2 := cell_keep y2 hbn; replace y3 := cell_keep y3 hbn; replace y4 := cell_keep y4 hbn; replace y5 := cell_keep y5 hbn; replace hB := hB.keep hbn; replace sA := sA.keep hbn; replace kA := kA.keep hbn; replace sX := sX.keep hbn; replace kX := kX.keep hbn; replace dM := dM.keep hbn; replace sP := sP.keep hbn; replace kP := kP.keep hbn; replace sQ := sQ.keep hbn; replace kQ := kQ.keep hbn; replace hb := bel_to hb hbn; clear hbn) | fail)
          clear n0 n1 n2 n3 n4 n5 x0 x1 x2 x3 x4 x5 p0 p1 p2 p3 p4 p5 y0 y1 y2 y3 y4 y5 sP sQ kP kQ dM eE hwr
          clear sA sX kA kX
          have H := c_DrawIsSearched oc mc capc hmc _ hB
          unfold DrawsSr at H
          refine H.mono ?_
          clear H
          rintro e w20 ⟨U, oU, cU, fU, gU, xsU, rfl, hO, hF, hsU, hap, hbn⟩
          have sU := srIn_of hO hF hsU.sb
          clear hO hF hap
          replace hB := hB.keep hbn
          replace hb := bel_to hb hbn
          clear hbn
          have kU := Blk.new w20 #[.int .i64 U.n, .slice oU U.R.length cU, .int .i64 U.m, .int .i64 U.a, .slice fU U.F.length gU, .int .i64 U.t] 29
          have hbn := (Below.refl w20.heap.size w20).alloc (Nat.le_refl _) (.cells #[.int .i64 U.n, .slice oU U.R.length cU, .int .i64 U.m, .int .i64 U.a, .slice fU U.F.length gU, .int .i64 U.t] 29)
          replace hB := hB.keep hbn
          replace sU := sU.keep hbn
          replace hb := bel_to hb hbn
          clear hbn
          go_wp2_with fail
          have H := c_DrawNewSearch oc mc capc hmc _ hB
          unfold DrawsTab at H
          refine H.mono ?_
          clear H
          rintro e w21 ⟨n4, m4, o4, c4, xs4, R4, rfl, hO, ⟨hRl, hlen⟩, hbn⟩
          replace hB := hB.keep hbn
          replace sU := sU.keep hbn
          replace kU := kU.keep hbn
          replace hb := bel_to hb hbn
          clear hbn
          have sR := hO.readC (show R4.length ≤ Room by unfold Room; omega) (fun j hj => Nat.le_trans (hlen j hj) (by unfold Room; omega))
          have bN : SB (nsF n4 R4 m4) := ns_sb hRl hlen
          clear hO hlen
          have k4 := Blk.new w21 #[.int .i64 n4, .slice o4 R4.length c4] 26
          have hbn := (Below.refl w21.heap.size w21).alloc (Nat.le_refl _) (.cells #[.int .i64 n4, .slice o4 R4.length c4] 26)
          replace hB := hB.keep hbn
          replace sU := sU.keep hbn
          replace kU := kU.keep hbn
          replace sR := sR.keep hbn
          replace hb := bel_to hb hbn
          clear hbn
          obtain ⟨Nw, HN⟩ : ∃ X, Hid (nsF n4 R4 m4 = X) := ⟨_, rfl⟩
          obtain ⟨mk, HMK⟩ : ∃ b, Hid ((isTabF n4 R4 && modeF m4) = b) := ⟨_, rfl⟩
          rw [HN.out] at bN
          have g0 := k4.cell 0 (.int .i64 n4) rfl
          have g1 := k4.cell 1 (.slice o4 R4.length c4) rfl
          go_wp2_with fail
          have H := c_NewSearch n4 o4 c4 R4 m4 _ sR
          rw [HN.out, HMK.out] at H
          refine (H.got bN).mono ?_
          clear H
          rintro e w22 ⟨oV, cV, fV, gV, rfl, sV, hbn⟩
          replace hB := hB.keep hbn
          replace sU := sU.keep hbn
          replace kU := kU.keep hbn
          replace sR := sR.keep hbn
          replace k4 := k4.keep hbn
          replace hb := bel_to hb hbn
          clear hbn
          clear g0 g1
          have kV := Blk.new w22 #[.int .i64 Nw.n, .slice oV Nw.R.length cV, .int .i64 Nw.m, .int .i64 Nw.a, .slice fV Nw.F.length gV, .int .i64 Nw.t] 29
          have hbn := (Below.refl w22.heap.size w22).alloc (Nat.le_refl _) (.cells #[.int .i64 Nw.n, .slice oV Nw.R.length cV, .int .i64 Nw.m, .int .i64 Nw.a, .slice fV Nw.F.length gV, .int .i64 Nw.t] 29)
          replace hB := hB.keep hbn
          replace sU := sU.keep hbn
          replace kU := kU.keep hbn
          replace sR := sR.keep hbn
          replace k4 := k4.keep hbn
          replace sV := sV.keep hbn
          replace hb := bel_to hb hbn
          clear hbn
          have g0 := k4.cell 0 (.int .i64 n4) rfl
          have g1 := k4.cell 1 (.slice o4 R4.length c4) rfl
          go_wp2_with fail
          have H := c_specNewSearch n4 o4 c4 R4 m4 _ sR
          rw [HN.out, HMK.out] at H
          refine (H.got bN).mono ?_
          clear H
          rintro e w23 ⟨oW, cW, fW, gW, rfl, sW, hbn⟩
          replace hB := hB.keep hbn
          replace sU := sU.keep hbn
          replace kU := kU.keep hbn
          replace sR := sR.keep hbn
          replace k4 := k4.keep hbn
          replace sV := sV.keep hbn
          replace kV := kV.keep hbn
          replace hb := bel_to hb hbn
          clear hbn
          clear g0 g1
          have kW := Blk.new w23 #[.int .i64 Nw.n, .slice oW Nw.R.length cW, .int .i64 Nw.m, .int .i64 Nw.a, .slice fW Nw.F.length gW, .int .i64 Nw.t] 29
          have hbn := (Below.refl w23.heap.size w23).alloc (Nat.le_refl _) (.cells #[.int .i64 Nw.n, .slice oW Nw.R.length cW, .int .i64 Nw.m, .int .i64 Nw.a, .slice fW Nw.F.length gW, .int .i64 Nw.t] 29)
          replace hB := hB.keep hbn
          replace sU := sU.keep hbn
          replace kU := kU.keep hbn
          replace sR := sR.keep hbn
          replace k4 := k4.keep hbn
          replace sV := sV.keep hbn
          replace kV := kV.keep hbn
          replace sW := sW.keep hbn
          replace hb := bel_to hb hbn
          clear hbn
          obtain ⟨b7, HB7⟩ : ∃ b, Hid (isSrdF U = b) := ⟨_, rfl⟩
          have hq1 : (b7 == b7) = true := by simp
          have hq2 : (mk == mk) = true := by simp
          have eN := eqSr_self Nw
          have u0 := kU.cell 0 (.int .i64 U.n) rfl
          have u1 := kU.cell 1 (.slice oU U.R.length cU) rfl
          have u2 := kU.cell 2 (.int .i64 U.m) rfl
          have u3 := kU.cell 3 (.int .i64 U.a) rfl
          have u4 := kU.cell 4 (.slice fU U.F.length gU) rfl
          have u5 := kU.cell 5 (.int .i64 U.t) rfl
          have x0 := kV.cell 0 (.int .i64 Nw.n) rfl
          have x1 := kV.cell 1 (.slice oV Nw.R.length cV) rfl
          have x2 := kV.cell 2 (.int .i64 Nw.m) rfl
          have x3 := kV.cell 3 (.int .i64 Nw.a) rfl
          have x4 := kV.cell 4 (.slice fV Nw.F.length gV) rfl
          have x5 := kV.cell 5 (.int .i64 Nw.t) rfl
          have y0 := kW.cell 0 (.int .i64 Nw.n) rfl
          have y1 := kW.cell 1 (.slice oW Nw.R.length cW) rfl
          have y2 := kW.cell 2 (.int .i64 Nw.m) rfl
          have y3 := kW.cell 3 (.int .i64 Nw.a) rfl
          have y4 := kW.cell 4 (.slice fW Nw.F.length gW) rfl
          have y5 := kW.cell 5 (.int .i64 Nw.t) rfl
          go_upto_region 28 with fail
          generalize w23.alloc (.cells #[.int .i64 Nw.n, .slice oW Nw.R.length cW, .int .i64 Nw.m, .int .i64 Nw.a, .slice fW Nw.F.length gW, .int .i64 Nw.t] 29) = w24 at *
          refine wp_region_held_drew (S := fun w' => w'.cell? ⟨w20.heap.size, 0, none⟩ = some (.int .i64 U.n) ∧ w'.cell? ⟨w20.heap.size, 1, none⟩ = some (.slice oU U.R.length cU) ∧ w'.cell? ⟨w20.heap.size, 2, none⟩ = some (.int .i64 U.m) ∧ w'.cell? ⟨w20.heap.size, 3, none⟩ = some (.int .i64 U.a) ∧ w'.cell? ⟨w20.heap.size, 4, none⟩ = some (.slice fU U.F.length gU) ∧ w'.cell? ⟨w20.heap.size, 5, none⟩ = some (.int .i64 U.t) ∧ w'.cell? ⟨w22.heap.size, 0, none⟩ = some (.int .i64 Nw.n) ∧ w'.cell? ⟨w22.heap.size, 1, none⟩ = some (.slice oV Nw.R.length cV) ∧ w'.cell? ⟨w22.heap.size, 2, none⟩ = some (.int .i64 Nw.m) ∧ w'.cell? ⟨w22.heap.size, 3, none⟩ = some (.int .i64 Nw.a) ∧ w'.cell? ⟨w22.heap.size, 4, none⟩ = some (.slice fV Nw.F.length gV) ∧ w'.cell? ⟨w22.heap.size, 5, none⟩ = some (.int .i64 Nw.t) ∧ w'.cell? ⟨w23.heap.size, 0, none⟩ = some (.int .i64 Nw.n) ∧ w'.cell? ⟨w23.heap.size, 1, none⟩ = some (.slice oW Nw.R.length cW) ∧ w'.cell? ⟨w23.heap.size, 2, none⟩ = some (.int .i64 Nw.m) ∧ w'.cell? ⟨w23.heap.size, 3, none⟩ = some (.int .i64 Nw.a) ∧ w'.cell? ⟨w23.heap.size, 4, none⟩ = some (.slice fW Nw.F.length gW) ∧ w'.cell? ⟨w23.heap.size, 5, none⟩ = some (.int .i64 Nw.t) ∧ Below w24.heap.size w24 w') (by kernel_rfl) ⟨cell_keep u0 (Below.refl _ _).drew, cell_keep u1 (Below.refl _ _).drew, cell_keep u2 (Below.refl _ _).drew, cell_keep u3 (Below.refl _ _).drew, cell_keep u4 (Below.refl _ _).drew, cell_keep u5 (Below.refl _ _).drew, cell_keep x0 (Below.refl _ _).drew, cell_keep x1 (Below.refl _ _).drew, cell_keep x2 (Below.refl _ _).drew, cell_keep x3 (Below.refl _ _).drew, cell_keep x4 (Below.refl _ _).drew, cell_keep x5 (Below.refl _ _).drew, cell_keep y0 (Below.refl _ _).drew, cell_keep y1 (Below.refl _ _).drew, cell_keep y2 (Below.refl _ _).drew, cell_keep y3 (Below.refl _ _).drew, cell_keep y4 (Below.refl _ _).drew, cell_keep y5 (Below.refl _ _).drew, (Below.refl _ _).drew⟩ (fun hS => ?_)
          (refine wpAnyH_val (i := 0) (some 166) ?_ rfl rfl (by kernel_rfl) (by kernel_rfl) (by kernel_rfl) (fun _ _ _ h => h) (by rfl) (by assumption) ?_ ?_; rotate_left; (intro w hSw; go_simp; (try with_reducible rfl)); (try simp only [Act.put, List.setIfInBounds_toArray, List.set_cons_zero, List.set_cons_succ])); (refine wpAnyH_val (i := 2) (some 168) ?_ rfl rfl (by kernel_rfl) (by kernel_rfl) (by kernel_rfl) (fun _ _ _ h => h) (by rfl) (by assumption) ?_ ?_; rotate_left; (intro w hSw; go_simp; (try with_reducible rfl)); (try simp only [Act.put, List.setIfInBounds_toArray, List.set_cons_zero, List.set_cons_succ]))
          (refine wpAnyH_ready (rs := [1]) (by kernel_rfl) (by simp) ?_; refine AllReadyH.cons rfl (fun K hK => ?_) AllReadyH.nil; go_simp)
          refine Calls.mono (Ans.eqb (c_IsSearched U oU fU cU gU _ (sU.keep hS.2.2.2.2.2.2.2.2.2.2.2.2.2.2.2.2.2.2).1 (sU.keep hS.2.2.2.2.2.2.2.2.2.2.2.2.2.2.2.2.2.2).2.1) HB7.out) ?_
          rintro e wz ⟨rfl, hbn⟩
          have hS3 := (show _ ∧ _ ∧ _ ∧ _ ∧ _ ∧ _ ∧ _ ∧ _ ∧ _ ∧ _ ∧ _ ∧ _ ∧ _ ∧ _ ∧ _ ∧ _ ∧ _ ∧ _ ∧ Below w24.heap.size w24 _ from ⟨cell_keep hS.1 hbn, cell_keep hS.2.1 hbn, cell_keep hS.2.2.1 hbn, cell_keep hS.2.2.2.1 hbn, cell_keep hS.2.2.2.2.1 hbn, cell_keep hS.2.2.2.2.2.1 hbn, cell_keep hS.2.2.2.2.2.2.1 hbn, cell_keep hS.2.2.2.2.2.2.2.1 hbn, cell_keep hS.2.2.2.2.2.2.2.2.1 hbn, cell_keep hS.2.2.2.2.2.2.2.2.2.1 hbn, cell_keep hS.2.2.2.2.2.2.2.2.2.2.1 hbn, cell_keep hS.2.2.2.2.2.2.2.2.2.2.2.1 hbn, cell_keep hS.2.2.2.2.2.2.2.2.2.2.2.2.1 hbn, cell_keep hS.2.2.2.2.2.2.2.2.2.2.2.2.2.1 hbn, cell_keep hS.2.2.2.2.2.2.2.2.2.2.2.2.2.2.1 hbn, cell_keep hS.2.2.2.2.2.2.2.2.2.2.2.2.2.2.2.1 hbn, cell_keep hS.2.2.2.2.2.2.2.2.2.2.2.2.2.2.2.2.1 hbn, cell_keep hS.2.2.2.2.2.2.2.2.2.2.2.2.2.2.2.2.2.1 hbn, bel_to hS.2.2.2.2.2.2.2.2.2.2.2.2.2.2.2.2.2.2 hbn⟩)
          refine hK.out _ _ hS3 (fun hS2 => ?_)
          clear hK hbn hS hS2
          have hS := hS3
          clear hS3
          (try simp only [Act.put, List.setIfInBounds_toArray, List.set_cons_zero, List.set_cons_succ])
          (refine wpAnyH_ready (rs := [3]) (by kernel_rfl) (by simp) ?_; refine AllReadyH.cons rfl (fun K hK => ?_) AllReadyH.nil; go_simp)
          refine Calls.mono (Ans.eqb (c_specIsSearched U oU fU cU gU _ (sU.keep hS.2.2.2.2.2.2.2.2.2.2.2.2.2.2.2.2.2.2).1.1 (sU.keep hS.2.2.2.2.2.2.2.2.2.2.2.2.2.2.2.2.2.2).2.1) HB7.out) ?_
          rintro e wz ⟨rfl, hbn⟩
          have hS3 := (show _ ∧ _ ∧ _ ∧ _ ∧ _ ∧ _ ∧ _ ∧ _ ∧ _ ∧ _ ∧ _ ∧ _ ∧ _ ∧ _ ∧ _ ∧ _ ∧ _ ∧ _ ∧ Below w24.heap.size w24 _ from ⟨cell_keep hS.1 hbn, cell_keep hS.2.1 hbn, cell_keep hS.2.2.1 hbn, cell_keep hS.2.2.2.1 hbn, cell_keep hS.2.2.2.2.1 hbn, cell_keep hS.2.2.2.2.2.1 hbn, cell_keep hS.2.2.2.2.2.2.1 hbn, cell_keep hS.2.2.2.2.2.2.2.1 hbn, cell_keep hS.2.2.2.2.2.2.2.2.1 hbn, cell_keep hS.2.2.2.2.2.2.2.2.2.1 hbn, cell_keep hS.2.2.2.2.2.2.2.2.2.2.1 hbn, cell_keep hS.2.2.2.2.2.2.2.2.2.2.2.1 hbn, cell_keep hS.2.2.2.2.2.2.2.2.2.2.2.2.1 hbn, cell_keep hS.2.2.2.2.2.2.2.2.2.2.2.2.2.1 hbn, cell_keep hS.2.2.2.2.2.2.2.2.2.2.2.2.2.2.1 hbn, cell_keep hS.2.2.2.2.2.2.2.2.2.2.2.2.2.2.2.1 hbn, cell_keep hS.2.2.2.2.2.2.2.2.2.2.2.2.2.2.2.2.1 hbn, cell_keep hS.2.2.2.2.2.2.2.2.2.2.2.2.2.2.2.2.2.1 hbn, bel_to hS.2.2.2.2.2.2.2.2.2.2.2.2.2.2.2.2.2.2 hbn⟩)
          refine hK.out _ _ hS3 (fun hS2 => ?_)
          clear hK hbn hS hS2
          have hS := hS3
          clear hS3
          (try simp only [Act.put, List.setIfInBounds_toArray, List.set_cons_zero, List.set_cons_succ])
          (refine wpAnyH_val (i := 4) (some 170) ?_ rfl rfl (by kernel_rfl) (by kernel_rfl) (by kernel_rfl) (fun _ _ _ h => h) (by rfl) (by assumption) ?_ ?_; rotate_left; (intro w hSw; go_simp; (try with_reducible rfl)); (try simp only [Act.put, List.setIfInBounds_toArray, List.set_cons_zero, List.set_cons_succ])); (refine wpAnyH_val (i := 5) (some 171) ?_ rfl rfl (by kernel_rfl) (by kernel_rfl) (by kernel_rfl) (fun _ _ _ h => h) (by rfl) (by assumption) ?_ ?_; rotate_left; (intro w hSw; go_simp; (try with_reducible rfl)); (try simp only [Act.put, List.setIfInBounds_toArray, List.set_cons_zero, List.set_cons_succ])); (refine wpAnyH_val (i := 6) (some 172) ?_ rfl rfl (by kernel_rfl) (by kernel_rfl) (by kernel_rfl) (fun _ _ _ h => h) (by rfl) (by assumption) ?_ ?_; rotate_left; (intro w hSw; go_simp; (try with_reducible rfl)); (try simp only [Act.put, List.setIfInBounds_toArray, List.set_cons_zero, List.set_cons_succ])); (refine wpAnyH_val (i := 7) (some 173) ?_ rfl rfl (by kernel_rfl) (by kernel_rfl) (by kernel_rfl) (fun _ _ _ h => h) (by rfl) (by assumption) ?_ ?_; rotate_left; (intro w hSw; go_simp; (try with_reducible rfl)); (try simp only [Act.put, List.setIfInBounds_toArray, List.set_cons_zero, List.set_cons_succ])); (refine wpAnyH_val (i := 8) (some 174) ?_ rfl rfl (by kernel_rfl) (by kernel_rfl) (by kernel_rfl) (fun _ _ _ h => h) (by rfl) (by assumption) ?_ ?_; rotate_left; (intro w hSw; go_simp; (try with_reducible rfl)); (try simp only [Act.put, List.setIfInBounds_toArray, List.set_cons_zero, List.set_cons_succ])); (refine wpAnyH_val (i := 9) (some 175) ?_ rfl rfl (by kernel_rfl) (by kernel_rfl) (by kernel_rfl) (fun _ _ _ h => h) (by rfl) (by assumption) ?_ ?_; rotate_left; (intro w hSw; go_simp; (try with_reducible rfl)); (try simp only [Act.put, List.setIfInBounds_toArray, List.set_cons_zero, List.set_cons_succ])); (refine wpAnyH_val (i := 10) (some 176) ?_ rfl rfl (by kernel_rfl) (by kernel_rfl) (by kernel_rfl) (fun _ _ _ h => h) (by rfl) (by assumption) ?_ ?_; rotate_left; (intro w hSw; go_simp; (try with_reducible rfl)); (try simp only [Act.put, List.setIfInBounds_toArray, List.set_cons_zero, List.set_cons_succ])); (refine wpAnyH_val (i := 11) (some 177) ?_ rfl rfl (by kernel_rfl) (by kernel_rfl) (by kernel_rfl) (fun _ _ _ h => h) (by rfl) (by assumption) ?_ ?_; rotate_left; (intro w hSw; go_simp; (try with_reducible rfl)); (try simp only [Act.put, List.setIfInBounds_toArray, List.set_cons_zero, List.set_cons_succ])); (refine wpAnyH_val (i := 12) (some 178) ?_ rfl rfl (by kernel_rfl) (by kernel_rfl) (by kernel_rfl) (fun _ _ _ h => h) (by rfl) (by assumption) ?_ ?_; rotate_left; (intro w hSw; go_simp; (try with_reducible rfl)); (try simp only [Act.put, List.setIfInBounds_toArray, List.set_cons_zero, List.set_cons_succ]))
          (refine wpAnyH_ready (rs := [13]) (by kernel_rfl) (by simp) ?_; refine AllReadyH.cons rfl (fun K hK => ?_) AllReadyH.nil; go_simp)
          refine Calls.mono (Ans.eqb (c_specEqualSearches Nw Nw oV oW fV fW cV cW gV gW _ (sV.keep hS.2.2.2.2.2.2.2.2.2.2.2.2.2.2.2.2.2.2).1.1 (sW.keep hS.2.2.2.2.2.2.2.2.2.2.2.2.2.2.2.2.2.2).1.1 (sV.keep hS.2.2.2.2.2.2.2.2.2.2.2.2.2.2.2.2.2.2).2.1 (sW.keep hS.2.2.2.2.2.2.2.2.2.2.2.2.2.2.2.2.2.2).2.1) eN) ?_
          rintro e wz ⟨rfl, hbn⟩
          have hS3 := (show _ ∧ _ ∧ _ ∧ _ ∧ _ ∧ _ ∧ _ ∧ _ ∧ _ ∧ _ ∧ _ ∧ _ ∧ _ ∧ _ ∧ _ ∧ _ ∧ _ ∧ _ ∧ Below w24.heap.size w24 _ from ⟨cell_keep hS.1 hbn, cell_keep hS.2.1 hbn, cell_keep hS.2.2.1 hbn, cell_keep hS.2.2.2.1 hbn, cell_keep hS.2.2.2.2.1 hbn, cell_keep hS.2.2.2.2.2.1 hbn, cell_keep hS.2.2.2.2.2.2.1 hbn, cell_keep hS.2.2.2.2.2.2.2.1 hbn, cell_keep hS.2.2.2.2.2.2.2.2.1 hbn, cell_keep hS.2.2.2.2.2.2.2.2.2.1 hbn, cell_keep hS.2.2.2.2.2.2.2.2.2.2.1 hbn, cell_keep hS.2.2.2.2.2.2.2.2.2.2.2.1 hbn, cell_keep hS.2.2.2.2.2.2.2.2.2.2.2.2.1 hbn, cell_keep hS.2.2.2.2.2.2.2.2.2.2.2.2.2.1 hbn, cell_keep hS.2.2.2.2.2.2.2.2.2.2.2.2.2.2.1 hbn, cell_keep hS.2.2.2.2.2.2.2.2.2.2.2.2.2.2.2.1 hbn, cell_keep hS.2.2.2.2.2.2.2.2.2.2.2.2.2.2.2.2.1 hbn, cell_keep hS.2.2.2.2.2.2.2.2.2.2.2.2.2.2.2.2.2.1 hbn, bel_to hS.2.2.2.2.2.2.2.2.2.2.2.2.2.2.2.2.2.2 hbn⟩)
          refine hK.out _ _ hS3 (fun hS2 => ?_)
          clear hK hbn hS hS2
          have hS := hS3
          clear hS3
          (try simp only [Act.put, List.setIfInBounds_toArray, List.set_cons_zero, List.set_cons_succ])
          (refine wpAnyH_val (i := 14) (some 180) ?_ rfl rfl (by kernel_rfl) (by kernel_rfl) (by kernel_rfl) (fun _ _ _ h => h) (by rfl) (by assumption) ?_ ?_; rotate_left; (intro w hSw; go_simp; (try with_reducible rfl)); (try simp only [Act.put, List.setIfInBounds_toArray, List.set_cons_zero, List.set_cons_succ])); (refine wpAnyH_val (i := 15) (some 2) ?_ rfl rfl (by kernel_rfl) (by kernel_rfl) (by kernel_rfl) (fun _ _ _ h => h) (by rfl) (by assumption) ?_ ?_; rotate_left; (intro w hSw; go_simp; (try with_reducible rfl)); (try simp only [Act.put, List.setIfInBounds_toArray, List.set_cons_zero, List.set_cons_succ]))
          refine wpAnyH_done (by kernel_rfl) ?_ _
          try dsimp only [NoPanic, Exit.then]
          go_wp2
          go_ret
          exact ⟨rfl, bel_to hb hS.2.2.2.2.2.2.2.2.2.2.2.2.2.2.2.2.2.2⟩
end Go.Proofs.YtcenndlbhgfdfaaGreat
