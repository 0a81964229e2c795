/- The law of ReduceLeft returns true. -/
import Derived.Test.YtmdkbookcgkpaaaConv
import Derived.Test.YtmdkbookcgkpaaaLDeps
import Derived.Test.YtmdkbookcgkpaaaReduce2
import Derived.Deep.RegionHeld3
import Derived.Deep.DeepCutAuto
namespace Go.Proofs.Ytmdkbookcgkpaaa
open Go.RowKit
set_option linter.unusedVariables false

set_option maxHeartbeats 800000 in
theorem w_FnExactReduceLeft (w : World) (n : Int) (wfn : (Lit.int .i64 n).wf = true) {v : Value} (hv : InDeps w v) {x : Value} (hx : ∃ l r : Int, x = .agg #[.int .i64 l, .int .i64 r] ∧ (Lit.int .i64 l).wf = true ∧ (Lit.int .i64 r).wf = true) :
    Calls Try.prog 7 #[.int .i64 n, v, x] w fun e w' => e = .returned (.bool true) ∧ Below w.heap.size w w' := by
  obtain ⟨a, len, cap, rfl, hm, hD0⟩ := hv
  obtain ⟨l, r, rfl, _, _⟩ := hx
  have hb := (Below.refl w.heap.size w).alloc (Nat.le_refl _) (.cells #[.int .i64 l, .int .i64 r] 34)
  have b0 := box_at w #[.int .i64 l, .int .i64 r] 34 0 _ rfl
  have b1 := box_at w #[.int .i64 l, .int .i64 r] 34 1 _ rfl
  by_cases hbig : (1048576 : Int) < len
  · go_enter Try.func7, Try.ntmps7
    go_wp2_with (first | (go_at_call 19; refine Calls.mono (c_szDepS_no _ _ _ _ (by omega) hbig hm _) ?_; rintro e w1 ⟨rfl, hbn⟩; replace hb := bel_to (w := w) (by first | exact hb | exact hb.alloc hb.size _ | exact (hb.alloc hb.size _).alloc (Nat.le_trans hb.size (by simp)) _ | exact hb.setCell (by simp [hb.size]) _) hbn; clear hbn))
    go_ret
    exact ⟨rfl, hb⟩
  · obtain ⟨D, rfl, hD⟩ := hD0 (room_of (by omega))
    have hle : (D.length : Int) ≤ 1048576 := by omega
    have hr := hD.len
    go_enter Try.func7, Try.ntmps7
    go_upto_region 5 with (first | (go_at_call 19; refine Calls.mono (c_szDepS_ok _ _ _ _ (by omega) hle _) ?_; rintro e w1 ⟨rfl, hbn⟩; replace b0 := cell_keep b0 hbn; replace b1 := cell_keep b1 hbn; replace hb := bel_to (w := w) (by first | exact hb | exact hb.alloc hb.size _ | exact (hb.alloc hb.size _).alloc (Nat.le_trans hb.size (by simp)) _ | exact hb.setCell (by simp [hb.size]) _) hbn; clear hbn))
    go_cut [8] (fun s8 wx => ∃ g : Nat, s8 = .pointer (some ⟨g, 0, none⟩) ∧ wx.cell? ⟨g, 0, none⟩ = some (.int .i64 (reduceF n D l r)) ∧ wx.cell? ⟨g, 1, none⟩ = some (.int .i64 r) ∧
      wx.cell? ⟨w.heap.size, 0, none⟩ = some (.int .i64 l) ∧ wx.cell? ⟨w.heap.size, 1, none⟩ = some (.int .i64 r) ∧ Below w.heap.size w wx)
    case first =>
      have c0 := cell_keep b0 (Below.refl _ _).drew
      have c1 := cell_keep b1 (Below.refl _ _).drew
      have hbc := hb.drew
      have hlt0 := World.block_lt_of_cell? _ _ b0
      go_region_held3 (fun w' => w'.cell? ⟨w.heap.size, 0, none⟩ = some (.int .i64 l) ∧ w'.cell? ⟨w.heap.size, 1, none⟩ = some (.int .i64 r) ∧ Below w.heap.size w w')
        (first | exact ⟨c0, c1, hbc⟩ | exact ⟨cell_keep c0 ((Below.refl _ _).alloc (Nat.le_refl _) _), cell_keep c1 ((Below.refl _ _).alloc (Nat.le_refl _) _), hbc.alloc hbc.size _⟩ | (refine ⟨?_, ?_, (hbc.setCell (by simp only; omega) _).setCell (by simp only; omega) _⟩; (rw [World.cell?_setCell_far _ _ _ _ (by simp only; omega), World.cell?_setCell_far _ _ _ _ (by simp only; omega)]; exact c0); (rw [World.cell?_setCell_far _ _ _ _ (by simp only; omega), World.cell?_setCell_far _ _ _ _ (by simp only; omega)]; exact c1)))
        (first
          | (go_at_call 21; rename_i hS _ _; refine (c_toDepS _ _ _ _ (hD.keep hS.2.2)).mono ?_; rintro e w1 ⟨v1, rfl, h1, hbn⟩; obtain ⟨o1, k1, rfl, hL1⟩ := h1.reads hr; clear h1; have hlt := World.block_lt_of_cell? _ _ c0; (first | have gB := (Blk.new _ _ _).keep hbn | have gB := (Blk.drew (Blk.new _ _ _)).keep hbn | replace gB := gB.keep hbn | skip); (try (have g0 := gB.cell 0 _ rfl; have g1 := gB.cell 1 _ rfl; have gf0 := gB.free 0; have gf1 := gB.free 1)); replace c0 := cell_keep hS.1 hbn; replace c1 := cell_keep hS.2.1 hbn; replace hbc := bel_to hS.2.2 hbn)
          | (go_at_call 25; rename_i hS _ _; refine Calls.mono (c_toDep _ _ _) ?_; rintro e w1 ⟨rfl, hbn⟩; (first | replace hL1 := hL1.keep hbn | replace hL1 := (hL1.keep ((Below.refl _ _).alloc (Nat.le_refl _) _)).keep hbn); have hlt := World.block_lt_of_cell? _ _ c0; (first | have gB := (Blk.new _ _ _).keep hbn | have gB := (Blk.drew (Blk.new _ _ _)).keep hbn | replace gB := gB.keep hbn | skip); (try (have g0 := gB.cell 0 _ rfl; have g1 := gB.cell 1 _ rfl; have gf0 := gB.free 0; have gf1 := gB.free 1)); replace c0 := cell_keep hS.1 hbn; replace c1 := cell_keep hS.2.1 hbn; replace hbc := bel_to hS.2.2 hbn)
          | (go_at_call 29; rename_i hS _ _; refine Calls.mono (c_specReduceLeft _ _ _ _ _ _ _ (by first | exact hL1 | exact hL1.keep ((Below.refl _ _).alloc (Nat.le_refl _) _))) ?_; rintro e w1 ⟨rfl, hbn⟩; clear hL1; have hlt := World.block_lt_of_cell? _ _ c0; (first | have gB := (Blk.new _ _ _).keep hbn | have gB := (Blk.drew (Blk.new _ _ _)).keep hbn | replace gB := gB.keep hbn | skip); (try (have g0 := gB.cell 0 _ rfl; have g1 := gB.cell 1 _ rfl; have gf0 := gB.free 0; have gf1 := gB.free 1)); replace c0 := cell_keep hS.1 hbn; replace c1 := cell_keep hS.2.1 hbn; replace hbc := bel_to hS.2.2 hbn))
      all_goals (rename_i hS; go_wp2_with fail; go_meet; first | exact ⟨_, rfl, box_at _ _ _ 0 _ rfl, box_at _ _ _ 1 _ rfl, hS.1, hS.2.1, hS.2.2⟩ | exact ⟨_, rfl, ((gB.set 0 _).set 1 _).cell 0 _ rfl, ((gB.set 0 _).set 1 _).cell 1 _ rfl, hS.1, hS.2.1, hS.2.2⟩)
    case rest =>
      clear b0 b1 hb
      obtain ⟨g, rfl, q0, q1, b0, b1, hb⟩ := hcut
      go_wp2_with fail
      refine (c_toDepS _ _ _ _ (hD.keep hb)).mono ?_
      rintro e w2 ⟨v2, rfl, h2, hbn⟩
      replace b0 := cell_keep b0 hbn
      replace b1 := cell_keep b1 hbn
      replace q0 := cell_keep q0 hbn
      replace q1 := cell_keep q1 hbn
      replace hb := bel_to hb hbn
      obtain ⟨o2, c2, rfl, hL2⟩ := h2.reads hr
      clear h2 hbn
      go_wp2_with fail
      refine Calls.mono (c_toDep _ _ _) ?_
      rintro e w3 ⟨rfl, hbn⟩
      replace q0 := cell_keep q0 hbn
      replace q1 := cell_keep q1 hbn
      replace hb := bel_to hb hbn
      replace hL2 := hL2.keep hbn
      clear b0 b1 hbn
      go_wp2_with fail
      refine Calls.mono (c_ReduceLeft _ _ _ _ _ _ _ hL2) ?_
      rintro e w4 ⟨rfl, hbn⟩
      replace q0 := cell_keep q0 hbn
      replace q1 := cell_keep q1 hbn
      replace hb := bel_to hb hbn
      replace hL2 := hL2.keep hbn
      have hz := World.block_lt_of_cell? _ _ q0
      clear hbn
      go_wp2_with fail
      have hdd : depEqB (reduceF n D l r) r (reduceF n D l r) r = true := by simp [depEqB]
      refine Calls.mono (c_eqDep _ _ _ _ _) ?_
      rintro e w5 ⟨rfl, hbn⟩
      replace hb := bel_to (hb.alloc hb.size _) hbn
      replace hL2 := (hL2.keep ((Below.refl _ _).alloc (Nat.le_refl _) _)).keep hbn
      clear hbn q0 q1
      go_wp2_with fail
      refine (c_toDepS _ _ _ _ (hD.keep hb)).mono ?_
      rintro e w6 ⟨v6, rfl, h6, hbn⟩
      replace hb := bel_to hb hbn
      replace hL2 := hL2.keep hbn
      obtain ⟨o6, c6, rfl, hL6⟩ := h6.reads hr
      clear h6 hbn
      go_wp2_with fail
      refine Calls.mono (c_eqDepS _ _ _ _ _ _ _ hL2 hL6) ?_
      rintro e w7 ⟨rfl, hbn⟩
      replace hb := bel_to hb hbn
      have ht : (decide (D = D)) = true := by simp
      go_wp2
      go_ret
      exact ⟨rfl, hb⟩
end Go.Proofs.Ytmdkbookcgkpaaa
