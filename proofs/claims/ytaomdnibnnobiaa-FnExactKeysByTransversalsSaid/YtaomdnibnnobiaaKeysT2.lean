/- KeysByTransversals, of the reference. -/
import Derived.Test.YtaomdnibnnobiaaKeysT
import Derived.Deep.RegionHeld3
namespace Go.Proofs.Ytaomdnibnnobiaa
open Go.RowKit
set_option linter.unusedVariables false
set_option maxRecDepth 100000

set_option maxHeartbeats 1600000 in
theorem c_specKeysByTransversals (n : Int) (oa) (cap : Nat) (R : List (List Int)) (m : Int) (w : World) (hR : RowsAt w oa R) :
    Calls Try.prog 24 #[.agg #[.int .i64 n, .slice oa R.length cap], .int .i64 m] w fun e w' => ∃ v, e = .returned v ∧ OwnI w' w.heap.size v (keysTF n R m) ∧ Below w.heap.size w w' := by
  obtain ⟨i0, hi, hz0, hz1, hz2⟩ := info_parts info_int
  have hb := (Below.refl w.heap.size w).alloc (Nat.le_refl _) (.cells #[.int .i64 n, .slice oa R.length cap] 41)
  have a0 := box_at w #[.int .i64 n, .slice oa R.length cap] 41 0 _ rfl
  have a1 := box_at w #[.int .i64 n, .slice oa R.length cap] 41 1 _ rfl
  cases hf : (isTabF n R && modeF m)
  · have HM : Hid (keysTF n R m = []) := by show keysTF n R m = []; unfold keysTF; rw [hf]; rfl
    go_enter Try.func24, Try.ntmps24
    go_wp2_with (first | (go_at_call 57; refine Calls.mono (Ans.eqb (c_l4Fine _ _ _ _ _ _ (hR.keep hb)) hf) ?_; rintro e w1 ⟨rfl, hbn⟩; replace a0 := cell_keep a0 hbn; replace a1 := cell_keep a1 hbn; have hI := empty_behind a1; replace hb := bel_to (w := w) (by first | exact hb | exact hb.alloc hb.size _ | exact (hb.alloc hb.size _).alloc (Nat.le_trans hb.size (by simp)) _ | exact hb.setCell (by simp [hb.size]) _) hbn; clear hbn))
    go_ret
    exact ⟨_, rfl, by rw [HM.out]; exact hI.based (Nat.le_succ _), hb.alloc hb.size _⟩
  have HM : Hid (keysTF n R m = transF (edgesF n (agreeSetsF n R m)) n) := by show keysTF n R m = _; unfold keysTF; rw [hf]; rfl
  have ht : isTabF n R = true := by have := hf; simp only [Bool.and_eq_true] at this; exact this.1
  obtain ⟨hn1, hn5, _, _⟩ := isTab_of ht
  have hn05 : 0 ≤ n ∧ n ≤ 5 := ⟨by omega, hn5⟩
  have hgl := agreeSets_len n R m
  clear ht
  go_enter Try.func24, Try.ntmps24
  go_wp2_with (first | (go_at_call 57; refine Calls.mono (Ans.eqb (c_l4Fine _ _ _ _ _ _ (hR.keep hb)) hf) ?_; rintro e w1 ⟨rfl, hbn⟩; replace a0 := cell_keep a0 hbn; replace a1 := cell_keep a1 hbn; have b0 := cell_al a0 (.cells #[] 3); have b1 := cell_al a1 (.cells #[] 3); have hI := empty_behind a1; replace hb := bel_to (w := w) (by first | exact hb | exact hb.alloc hb.size _ | exact (hb.alloc hb.size _).alloc (Nat.le_trans hb.size (by simp)) _ | exact hb.setCell (by simp [hb.size]) _) hbn; clear hbn))
  replace hb := hb.alloc hb.size (.cells #[] 3)
  clear a0 a1
  have old := hI
  refine (c_specAgreeSets n _ _ R m _ (hR.keep hb)).mono ?_
  rintro e w2 ⟨v2, rfl, hM, hbn⟩
  have ap_hM := (apart_old old hM).symm
  replace hI := hI.keep hbn
  replace hM := hM.based (World.block_lt_of_cell? _ _ b1)
  have a0 := cell_keep b0 hbn
  have a1 := cell_keep b1 hbn
  replace hb := bel_to hb hbn
  clear old hbn b0 b1
  generalize agreeSetsF n R m = M at *
  obtain ⟨o1, c1, rfl⟩ := hM.shape
  go_wp2
  go_loopw [5, 7] (fun v i wr => ∃ k : Nat, i = .int .i64 k ∧ k ≤ M.length ∧ OwnI wr (w.heap.size + 1) v (edgesF n (M.take k)) ∧ OwnI wr (w.heap.size + 1) (.slice o1 M.length c1) M ∧ Apart (.slice o1 M.length c1) v ∧ wr.cell? ⟨w.heap.size, 0, none⟩ = some (.int .i64 n) ∧ wr.cell? ⟨w.heap.size, 1, none⟩ = some (.slice oa R.length cap) ∧ Below w.heap.size w wr) (fun _ i _ => M.length - (intOf i).toNat)
  case atStart => exact ⟨0, rfl, Nat.zero_le _, by simpa [edgesF] using hI, hM, ap_hM, a0, a1, hb⟩
  case round =>
    clear hI hM ap_hM a0 a1 hb
    obtain ⟨k, rfl, hk, hI, hM, ap_hM, a0, a1, hb⟩ := hrel
    by_cases hlt : k < M.length
    · obtain ⟨b2, off2, rfl, hbs2, hca⟩ := (hM.ints rfl (by unfold Room; omega)).at_ (by omega)
      have hc2 := hca k hlt
      have HT : Hid (edgesF n (M.take (k + 1)) = edgesF n (M.take k) ++ [dif (allM n) (nth M k)]) := edges_succ hlt
      have hfl : (edgesF n (M.take k)).length ≤ 32 := by unfold edgesF; rw [List.length_map, List.length_take]; omega
      have HC : Hid (∀ (wz : World), OwnI wz (w.heap.size + 1) (.slice (some ⟨b2, off2, none⟩) M.length c1) M → wz.cell? ⟨b2, off2 + k, none⟩ = some (.int .i64 (nth M k))) := fun wz h => by
        obtain ⟨b3, off3, e3, _, h3⟩ := (h.ints rfl (by unfold Room; omega)).at_ (by omega)
        simp only [Option.some.injEq, Addr.mk.injEq] at e3
        obtain ⟨rfl, rfl, _⟩ := e3
        exact h3 k hlt
      clear hca
      generalize nth M k = x at *
      generalize edgesF n (M.take k) = F at *
      go_wp2_with fail
      go_region_held3 (fun w' => Below w.heap.size w w' ∧ OwnI w' (w.heap.size + 1) u5 F ∧ OwnI w' (w.heap.size + 1) (.slice (some ⟨b2, off2, none⟩) M.length c1) M ∧ w'.cell? ⟨w.heap.size, 0, none⟩ = some (.int .i64 n) ∧ w'.cell? ⟨w.heap.size, 1, none⟩ = some (.slice oa R.length cap) ∧ w'.cell? ⟨b2, off2 + k, none⟩ = some (.int .i64 x))
        (first
          | exact hS2
          | (rename_i hS _ _; exact ⟨bel_to hS.1 hbn, hS.2.1.keep hbn, hS.2.2.1.keep hbn, cell_keep hS.2.2.2.1 hbn, cell_keep hS.2.2.2.2.1 hbn, cell_keep hS.2.2.2.2.2 hbn⟩)
          | (rename_i hS _ _; exact ⟨hS.1.alloc hS.1.size _, World.ownsRow.alloc hS.2.1 _, World.ownsRow.alloc hS.2.2.1 _, cell_al hS.2.2.2.1 _, cell_al hS.2.2.2.2.1 _, cell_al hS.2.2.2.2.2 _⟩)
          | exact ⟨hb.drew, hI.keep (Below.refl _ _).drew, hM.keep (Below.refl _ _).drew, cell_keep a0 (Below.refl _ _).drew, cell_keep a1 (Below.refl _ _).drew, cell_keep hc2 (Below.refl _ _).drew⟩)
        (first
          | (go_at_call 59; rename_i hS _ _; refine Calls.mono (c_l2All _ hn05 _) ?_; rintro e wz ⟨rfl, hbn⟩)
          | (rename_i hS _ _; refine step_append_held _ (by rfl) _ _ 22 (by rfl) (w.heap.size + 1) 3 i0 (.int .i64 0) 1 8 Try.underlying22 hi hz0 hz1 hz2 rfl (by decide) u5 _ _ (by rfl) hS.2.1 _ 1 1 [.int .i64 (bits BinOp.andNot .i64 (allM n) x)] (by rfl) rfl (by intro j u hj; match j, hj with | 0, hj => simp at hj; subst hj; simp [Addr.add]) (by intro u hu; simp at hu; subst hu; rfl) (by unfold maxLen; omega) (by omega) (World.block_lt_of_cell? _ _ hS.2.2.2.1) ?_; intro v2 w2 hown hold hgrow hfr; have hS2 := (show _ ∧ _ ∧ _ ∧ _ ∧ _ ∧ _ from ⟨hS.1.grown hgrow hS.1.size (fun g hg => Nat.le_trans (Nat.le_succ _) (World.ownsRow.lt hS.2.1 g hg).1), hold, OwnI.far hS.2.2.1 hgrow ap_hM, cell_gr hS.2.2.2.1 hS.2.1 (by omega) hgrow, cell_gr hS.2.2.2.2.1 hS.2.1 (by omega) hgrow, HC.out _ (OwnI.far hS.2.2.1 hgrow ap_hM)⟩); have hO := OwnI.snoc hown; have ap_v := Apart.next hS.2.2.1 ap_hM hfr; clear hown hold hgrow hfr)
          | fail)
      rename_i hS
      replace hb := hS.1
      replace hM := hS.2.2.1
      replace a0 := hS.2.2.2.1
      replace a1 := hS.2.2.2.2.1
      have HI := (show Hid _ from hO)
      clear hO hS hc2
      go_wp2
      go_roundw
      case rel => exact ⟨k + 1, by go_num, by omega, by rw [HT.out]; exact HI.out, hM, ap_v, a0, a1, hb⟩
      case measure => simp [intOf]; omega
    · have hkk : k = M.length := by omega
      have HE : Hid (edgesF n (M.take k) = edgesF n M) := by show edgesF n (M.take k) = edgesF n M; rw [hkk, List.take_length]
      have hfr : (edgesF n (M.take k)).length ≤ Room := by unfold edgesF; rw [List.length_map, List.length_take]; unfold Room; omega
      clear hkk
      obtain ⟨oF, cF, rfl⟩ := hI.shape
      go_wp2_with fail
      refine (c_specTransversals _ _ _ n _ (hI.ints rfl hfr)).mono ?_
      rintro e w3 ⟨v3, rfl, hR2, hbn⟩
      replace hR2 := hR2.based hb.size
      replace hb := bel_to hb hbn
      clear hbn
      go_wp2
      go_ret
      exact ⟨_, rfl, by rw [HM.out, ← HE.out]; exact hR2, hb⟩
end Go.Proofs.Ytaomdnibnnobiaa
