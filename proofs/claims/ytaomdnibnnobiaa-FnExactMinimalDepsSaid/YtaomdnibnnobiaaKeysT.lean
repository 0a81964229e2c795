/- KeysByTransversals, of the program and of the reference. -/
import Derived.Test.YtaomdnibnnobiaaAgree2
import Derived.Test.YtaomdnibnnobiaaTrans2
namespace Go.Proofs.Ytaomdnibnnobiaa
open Go.RowKit
set_option linter.unusedVariables false
set_option maxRecDepth 100000

def edgesF (n : Int) (L : List Int) : List Int := L.map (dif (allM n))
def keysTF (n : Int) (R : List (List Int)) (m : Int) : List Int := if isTabF n R && modeF m then transF (edgesF n (agreeSetsF n R m)) n else []
theorem keysT_len (n : Int) (R : List (List Int)) (m : Int) : (keysTF n R m).length ≤ Room := by
  unfold keysTF
  split
  · exact transF_len _ _
  · simp
theorem edges_succ {n : Int} {L : List Int} {k : Nat} (h : k < L.length) : edgesF n (L.take (k + 1)) = edgesF n (L.take k) ++ [dif (allM n) (nth L k)] := map_take_succ (f := dif (allM n)) h
theorem empty_behind {w' : World} {B j : Nat} {v : Value} (h : w'.cell? ⟨B, j, none⟩ = some v) : OwnI (w'.alloc (.cells #[] 3)) (B + 1) (.slice (some ⟨w'.heap.size, 0, none⟩) 0 0) [] := OwnI.empty _ _ (World.block_lt_of_cell? _ _ h)
set_option maxHeartbeats 1600000 in
theorem c_KeysByTransversals (n : Int) (oa) (cap : Nat) (R : List (List Int)) (m : Int) (w : World) (hR : RowsAt w oa R) (hcap : R.length ≤ cap) :
    Calls Try.prog 26 #[.agg #[.int .i64 n, .slice oa R.length cap], .int .i64 m] w fun e w' => ∃ v, e = .returned v ∧ OwnI w' w.heap.size v (keysTF n R m) ∧ Below w.heap.size w w' := by
  obtain ⟨i0, hi, hz0, hz1, hz2⟩ := info_parts info_int
  have hb := (Below.refl w.heap.size w).alloc (Nat.le_refl _) (.cells #[.int .i64 n, .slice oa R.length cap] 41)
  have a0 := box_at w #[.int .i64 n, .slice oa R.length cap] 41 0 _ rfl
  have a1 := box_at w #[.int .i64 n, .slice oa R.length cap] 41 1 _ rfl
  cases ht : isTabF n R
  · have HM : Hid (keysTF n R m = []) := by show keysTF n R m = []; unfold keysTF; rw [ht]; rfl
    go_enter Try.func26, Try.ntmps26
    go_wp2_with (first | (go_at_call 62; refine Calls.mono (Ans.eqb (c_IsTable _ _ _ _ _ (hR.keep hb)) ht) ?_; rintro e w1 ⟨rfl, hbn⟩; replace a0 := cell_keep a0 hbn; replace a1 := cell_keep a1 hbn; replace hb := bel_to (w := w) (by first | exact hb | exact hb.alloc hb.size _ | exact (hb.alloc hb.size _).alloc (Nat.le_trans hb.size (by simp)) _ | exact hb.setCell (by simp [hb.size]) _) hbn; clear hbn))
    go_ret
    exact ⟨_, rfl, by rw [HM.out]; exact OwnI.nil _ _, hb⟩
  cases hm : modeF m
  · have HM : Hid (keysTF n R m = []) := by show keysTF n R m = []; unfold keysTF; rw [ht, hm]; rfl
    go_enter Try.func26, Try.ntmps26
    go_wp2_with (first | (go_at_call 62; refine Calls.mono (Ans.eqb (c_IsTable _ _ _ _ _ (hR.keep hb)) ht) ?_; rintro e w1 ⟨rfl, hbn⟩; replace a0 := cell_keep a0 hbn; replace a1 := cell_keep a1 hbn; replace hb := bel_to (w := w) (by first | exact hb | exact hb.alloc hb.size _ | exact (hb.alloc hb.size _).alloc (Nat.le_trans hb.size (by simp)) _ | exact hb.setCell (by simp [hb.size]) _) hbn; clear hbn) | (go_at_call 63; refine Calls.mono (Ans.eqb (c_isMode _ _) hm) ?_; rintro e w1 ⟨rfl, hbn⟩; replace a0 := cell_keep a0 hbn; replace a1 := cell_keep a1 hbn; replace hb := bel_to (w := w) (by first | exact hb | exact hb.alloc hb.size _ | exact (hb.alloc hb.size _).alloc (Nat.le_trans hb.size (by simp)) _ | exact hb.setCell (by simp [hb.size]) _) hbn; clear hbn))
    go_ret
    exact ⟨_, rfl, by rw [HM.out]; exact OwnI.nil _ _, hb⟩
  have HM : Hid (keysTF n R m = transF (edgesF n (agreeSetsF n R m)) n) := by show keysTF n R m = _; unfold keysTF; rw [ht, hm]; rfl
  obtain ⟨hn1, hn5, _, _⟩ := isTab_of ht
  have hp := (pow_wrap (n := n) (by omega) hn5).1
  have hp2 := (pow_wrap (n := n) (by omega) hn5).2.1
  have hp3 := (pow_wrap (n := n) (by omega) hn5).2.2
  have hgl := agreeSets_len n R m
  have HAll : Hid (allM n = 2 ^ n.toNat - 1) := rfl
  go_enter Try.func26, Try.ntmps26
  go_wp2_with (first | (go_at_call 62; refine Calls.mono (Ans.eqb (c_IsTable _ _ _ _ _ (hR.keep hb)) ht) ?_; rintro e w1 ⟨rfl, hbn⟩; replace a0 := cell_keep a0 hbn; replace a1 := cell_keep a1 hbn; replace hb := bel_to (w := w) (by first | exact hb | exact hb.alloc hb.size _ | exact (hb.alloc hb.size _).alloc (Nat.le_trans hb.size (by simp)) _ | exact hb.setCell (by simp [hb.size]) _) hbn; clear hbn) | (go_at_call 63; refine Calls.mono (Ans.eqb (c_isMode _ _) hm) ?_; rintro e w1 ⟨rfl, hbn⟩; replace a0 := cell_keep a0 hbn; replace a1 := cell_keep a1 hbn; have b0 := cell_al a0 (.cells #[] 3); have b1 := cell_al a1 (.cells #[] 3); have hI := empty_behind a1; replace hb := bel_to (w := w) (by first | exact hb | exact hb.alloc hb.size _ | exact (hb.alloc hb.size _).alloc (Nat.le_trans hb.size (by simp)) _ | exact hb.setCell (by simp [hb.size]) _) hbn; clear hbn))
  replace hb := hb.alloc hb.size (.cells #[] 3)
  clear a0 a1
  have old := hI
  refine (c_AgreeSets n _ _ R m _ (hR.keep hb) hcap).mono ?_
  rintro e w2 ⟨v2, rfl, hM, hbn⟩
  have ap_hM := (apart_old old hM).symm
  replace hI := hI.keep hbn
  replace hM := hM.based (World.block_lt_of_cell? _ _ b1)
  have a0 := cell_keep b0 hbn
  have a1 := cell_keep b1 hbn
  replace hb := bel_to hb hbn
  clear old hbn b0 b1
  generalize agreeSetsF n R m = M at *
  obtain ⟨o1, c1, rfl⟩ := hM.shape
  go_wp2
  go_loopw [5, 21] (fun v i wr => ∃ k : Nat, i = .int .i64 k ∧ k ≤ M.length ∧ OwnI wr (w.heap.size + 1) v (edgesF n (M.take k)) ∧ OwnI wr (w.heap.size + 1) (.slice o1 M.length c1) M ∧ Apart (.slice o1 M.length c1) v ∧ wr.cell? ⟨w.heap.size, 0, none⟩ = some (.int .i64 n) ∧ wr.cell? ⟨w.heap.size, 1, none⟩ = some (.slice oa R.length cap) ∧ Below w.heap.size w wr) (fun _ i _ => M.length - (intOf i).toNat)
  case atStart => exact ⟨0, rfl, Nat.zero_le _, by simpa [edgesF] using hI, hM, ap_hM, a0, a1, hb⟩
  case round =>
    clear hI hM ap_hM a0 a1 hb
    obtain ⟨k, rfl, hk, hI, hM, ap_hM, a0, a1, hb⟩ := hrel
    by_cases hlt : k < M.length
    · obtain ⟨b2, off2, rfl, hbs2, hca⟩ := (hM.ints rfl (by unfold Room; omega)).at_ (by omega)
      have hc2 := hca k hlt
      have HT : Hid (edgesF n (M.take (k + 1)) = edgesF n (M.take k) ++ [dif (allM n) (nth M k)]) := edges_succ hlt
      have hfl : (edgesF n (M.take k)).length ≤ 32 := by unfold edgesF; rw [List.length_map, List.length_take]; omega
      clear hca
      generalize nth M k = x at *
      generalize edgesF n (M.take k) = F at *
      go_wp2_with (first | (at_builtin; refine wpList_append_fresh rfl _ _ 22 rfl (w.heap.size + 1) 3 i0 (.int .i64 0) 1 8 Try.underlying22 hi hz0 hz1 hz2 rfl (by decide) _ _ _ rfl (World.ownsRow.alloc hI _) _ 1 1 [.int .i64 (bits BinOp.andNot .i64 (2 ^ n.toNat - 1) x)] rfl rfl (by intro j u hj; match j, hj with | 0, hj => simp at hj; subst hj; simp [Addr.add]) (by intro u hu; simp at hu; subst hu; rfl) (by unfold maxLen; omega) (by omega) (by have := World.block_lt_of_cell? _ _ a1; simp at this; simp; omega) ?_; intro v' w3 hown hgrow hfr; replace hb := (hb.alloc hb.size _).grown hgrow (by have := hb.size; simp; omega) (fun g hg => Nat.le_trans (Nat.le_succ _) (World.ownsRow.lt hI g hg).1); replace a0 := cell_gr (cell_al a0 _) (World.ownsRow.alloc hI _) (by omega) hgrow; replace a1 := cell_gr (cell_al a1 _) (World.ownsRow.alloc hI _) (by omega) hgrow; obtain ⟨hM, ap_hM⟩ := OwnI.past hM hgrow ap_hM hfr; replace hI := OwnI.snoc hown; clear hown hgrow hfr) | fail)
      go_roundw
      case rel => exact ⟨k + 1, by go_num, by omega, by rw [HT.out]; exact hI, hM, ap_hM, a0, a1, hb⟩
      case measure => simp [intOf]; omega
    · have hkk : k = M.length := by omega
      have HE : Hid (edgesF n (M.take k) = edgesF n M) := by show edgesF n (M.take k) = edgesF n M; rw [hkk, List.take_length]
      have hfr : (edgesF n (M.take k)).length ≤ Room := by unfold edgesF; rw [List.length_map, List.length_take]; unfold Room; omega
      clear hkk
      obtain ⟨oF, cF, rfl⟩ := hI.shape
      go_wp2_with fail
      refine (c_Transversals _ _ _ n _ (hI.ints rfl hfr)).mono ?_
      rintro e w3 ⟨v3, rfl, hR2, hbn⟩
      replace hR2 := hR2.based hb.size
      replace hb := bel_to hb hbn
      clear hbn
      go_wp2
      go_ret
      exact ⟨_, rfl, by rw [HM.out, ← HE.out]; exact hR2, hb⟩
end Go.Proofs.Ytaomdnibnnobiaa
