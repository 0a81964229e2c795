/- Contracts and lemmas for FnTransversals, part 8 of 8. -/
import Derived.Test.YtjbmpnbfiahdhaaGreatQFnTransversals1
import Derived.Test.YtjbmpnbfiahdhaaGreatQFnTransversals2
import Derived.Test.YtjbmpnbfiahdhaaGreatQFnTransversals3
import Derived.Test.YtjbmpnbfiahdhaaGreatQFnTransversals4
import Derived.Test.YtjbmpnbfiahdhaaGreatQFnTransversals5
import Derived.Test.YtjbmpnbfiahdhaaGreatQFnTransversals6
import Derived.Test.YtjbmpnbfiahdhaaGreatQFnTransversals7
import Derived.Deep.CutRange
import Derived.Deep.RegionHeld3
namespace Go.Proofs.YtjbmpnbfiahdhaaGreat
open Go.RowKit
set_option linter.unusedVariables false
set_option maxRecDepth 100000

theorem nthI_mem' {L : List Int} {k : Nat} (h : k < L.length) : nth L k ∈ L := List.mem_iff_getElem?.2 ⟨k, nth_eq h⟩
theorem bel_world {B : Nat} {w0 w : World} (h : Below B w0 w) : ∃ w', w' = w := ⟨w, rfl⟩
theorem OwnRows.capLe {w : World} {B n c : Nat} {o : Option Addr} {xs : List Value} {R : List (List Int)} (h : OwnRows w B (.slice o n c) xs R) : R.length ≤ c := by
  rcases h.outer.2 with ⟨hv, h0⟩ | ⟨g, cap, cur, hv, hb, hg, hl, _⟩
  · have := h.len; cases hv; omega
  · have := h.len; cases hv; omega
set_option maxHeartbeats 100000000 in
theorem w_FnTransversals (w : World) {v0 : Value} (w0 : InBytes w v0) :
    Calls Tryz.prog 6 #[v0] w fun e w' => e = .returned (.bool true) ∧ Below w.heap.size w w' := by
  obtain ⟨oc, mc, capc, rfl, hmm, hB⟩ := w0
  have hb := Below.refl w.heap.size w
  by_cases hbig : (1048576 : Int) < mc
  · go_enter Tryz.func6, Tryz.ntmps6
    go_wp2_with fail
    refine Calls.mono (Ans.eqb (b' := true) (c_big _ _ _ _) (by simpa using hbig)) ?_
    rintro e w1 ⟨rfl, hbn⟩
    replace hb := bel_to hb hbn
    go_wp2
    go_ret
    exact ⟨rfl, hb⟩
  have hmc : mc ≤ 1048576 := by omega
  go_enter Tryz.func6, Tryz.ntmps6
  go_wp2_with fail
  refine Calls.mono (Ans.eqb (b' := false) (c_big _ _ _ _) (by simp only [decide_eq_false_iff_not]; omega)) ?_
  rintro e w1 ⟨rfl, hbn⟩
  replace hB := hB.keep hbn
  replace hb := bel_to hb hbn
  clear hbn
  clear hbig
  go_wp2_with fail
  have H := c_DrawTransversals oc mc capc hmc _ hB
  unfold DrawsL at H
  refine H.mono ?_
  clear H
  rintro e w2 ⟨oE, cE, E, n, rfl, hE, hEl, hbn⟩
  replace hB := hB.keep hbn
  replace hb := bel_to hb hbn
  clear hbn
  have hER : E.length ≤ Room := by unfold Room; omega
  have hE9 : E.length ≤ 1073741824 := hER
  go_wp2_with fail
  refine (c_Transversals oE cE E n _ (hE.ints rfl hER)).mono ?_
  rintro e w3 ⟨v5, rfl, hL, hbn⟩
  replace hB := hB.keep hbn
  replace hE := hE.keep hbn
  replace hb := bel_to hb hbn
  clear hbn
  obtain ⟨oL, cL, rfl⟩ := hL.shape
  have hKL := transF_len E n
  have HTL : Hid (∀ j, j < (transF E n).length → St (nth (transF E n) j) ∧ hitsAllF E (nth (transF E n) j) = true ∧ ∀ k : Nat, k < 5 → hasc (nth (transF E n) j) k = true → ∀ y, y = dif (nth (transF E n) j) (one k) → hitsAllF E y = false) := fun j hj => trans_law (nthI_mem' hj)
  generalize hkk : transF E n = K at *
  have HK : Hid (transF E n = K) := hkk
  clear hkk
  have hK9 : K.length ≤ 1073741824 := hKL
  go_wp2_with fail
  refine (c_specTransversals oE cE E n _ (hE.ints rfl hER)).mono ?_
  rintro e w4 ⟨v6, rfl, hY, hbn⟩
  rw [HK.out] at hY
  obtain ⟨oY, cY, rfl⟩ := hY.shape
  replace hB := hB.keep hbn
  replace hE := hE.keep hbn
  replace hL := hL.keep hbn
  replace hb := bel_to hb hbn
  clear hbn
  go_wp2_with fail
  refine Calls.mono (c_lawSameInts oL oY cL cY K _ (hL.ints rfl hKL) (hY.ints rfl hKL)) ?_
  rintro e w5 ⟨rfl, hbn⟩
  clear hY
  replace hB := hB.keep hbn
  replace hE := hE.keep hbn
  replace hL := hL.keep hbn
  replace hb := bel_to hb hbn
  clear hbn
  go_wp2_with fail
  go_loopw [6] (fun v wr => ∃ k : Nat, v = .int .i64 k ∧ k ≤ K.length ∧ Below w5.heap.size w5 wr) (fun v _ => K.length - (intOf v).toNat)
  case atStart => exact ⟨0, rfl, Nat.zero_le _, Below.refl _ _⟩
  case round =>
    obtain ⟨k, rfl, hk, hbn⟩ := hrel
    have hbo := hbn
    replace hB := hB.keep hbn
    replace hE := hE.keep hbn
    replace hL := hL.keep hbn
    replace hb := bel_to hb hbn
    clear hbn
    obtain ⟨w6, hwq⟩ := bel_world hb
    subst hwq
    by_cases hlt : k < K.length
    · obtain ⟨b, off, e', hbs, hcell⟩ := (hL.ints rfl hKL).at_ (by omega)
      subst e'
      have hc1 := hcell k hlt
      clear hcell hbs
      have HT := (show Hid _ from HTL.out k hlt)
      generalize nth K k = x at *
      have hsx := HT.out.1
      go_wp2_with fail
      refine Calls.mono (Ans.eqb (a_HitsAll oE cE E x _ (hE.ints rfl hER)) HT.out.2.1) ?_
      rintro e w7 ⟨rfl, hbn⟩
      replace hc1 := cell_keep hc1 hbn
      replace hB := hB.keep hbn
      replace hE := hE.keep hbn
      replace hL := hL.keep hbn
      replace hbo := bel_to hbo hbn
      replace hb := bel_to hb hbn
      clear hbn
      go_wp2_with fail
      go_loopw [7] (fun v wr => ∃ j : Nat, v = .int .i64 j ∧ j ≤ 5 ∧ Below w7.heap.size w7 wr) (fun v _ => 5 - (intOf v).toNat)
      case atStart => exact ⟨0, rfl, Nat.zero_le _, Below.refl _ _⟩
      case round =>
        obtain ⟨j, rfl, hj, hbn⟩ := hrel
        have hbi := hbn
        replace hc1 := cell_keep hc1 hbn
        replace hB := hB.keep hbn
        replace hE := hE.keep hbn
        replace hL := hL.keep hbn
        replace hbo := bel_to hbo hbn
        replace hb := bel_to hb hbn
        clear hbn
        obtain ⟨w8, hwq⟩ := bel_world hb
        subst hwq
        by_cases hj5 : j < 5
        · have hj64 : (0 : Int) ≤ (j : Int) ∧ (j : Int) < 64 := by omega
          have hdE := hE.ints rfl hER
          cases hq : hasc x j
          · have hqa : (bits BinOp.and .i64 (x / 2 ^ j) 1 == 1) = false := hq
            go_wp2_with fail
            (refine wp_region_after (by kernel_rfl) (by kernel_rfl) ?_; have q_hc1 := fun (x : After _) => cell_keep hc1 x.bel; (repeat (go_big_quiet_step (fail))); clear q_hc1; refine wpQuiet_nil ?_; rintro _ ⟨⟨w1, hbn⟩, rfl⟩; (try simp only [After.w]); replace hc1 := cell_keep hc1 hbn; replace hB := hB.keep hbn; replace hE := hE.keep hbn; replace hL := hL.keep hbn; replace hbo := bel_to hbo hbn; replace hbi := bel_to hbi hbn; replace hb := bel_to (w := w) (by first | exact hb | exact hb.alloc hb.size _ | exact (hb.alloc hb.size _).alloc (Nat.le_trans hb.size (by simp)) _ | exact hb.setCell (by simp [hb.size]) _) hbn; clear hbn)
            go_wp2
            go_roundw
            case rel => exact ⟨j + 1, by go_num, by omega, hbi⟩
            case measure => simp [intOf]; omega
          · have hqa : (bits BinOp.and .i64 (x / 2 ^ j) 1 == 1) = true := hq
            have HF := (show Hid _ from HT.out.2.2 j hj5 hq)
            go_wp2_with fail
            (refine wp_region_after (by kernel_rfl) (by kernel_rfl) ?_; have q_hc1 := fun (x : After _) => cell_keep hc1 x.bel; (repeat (go_big_quiet_step ((go_at_call 52; exact Ans.after (Ans.eqb (a_specHitsAll oE cE E _ _ (hdE.keep (After.bel _))) (HF.out _ rfl)))))); clear q_hc1; refine wpQuiet_nil ?_; rintro _ ⟨⟨w1, hbn⟩, rfl⟩; (try simp only [After.w]); replace hc1 := cell_keep hc1 hbn; replace hB := hB.keep hbn; replace hE := hE.keep hbn; replace hL := hL.keep hbn; replace hbo := bel_to hbo hbn; replace hbi := bel_to hbi hbn; replace hb := bel_to (w := w) (by first | exact hb | exact hb.alloc hb.size _ | exact (hb.alloc hb.size _).alloc (Nat.le_trans hb.size (by simp)) _ | exact hb.setCell (by simp [hb.size]) _) hbn; clear hbn)
            go_wp2
            go_roundw
            case rel => exact ⟨j + 1, by go_num, by omega, hbi⟩
            case measure => simp [intOf]; omega
        · go_wp2_with fail
          go_roundw
          case rel => exact ⟨k + 1, by go_num, by omega, hbo⟩
          case measure => simp [intOf]; omega
    · clear hbo hE hL
      go_wp2_with fail
      have H := c_DrawGrowTransversals oc mc capc hmc _ hB
      unfold DrawsL at H
      refine H.mono ?_
      clear H
      rintro e w13 ⟨oA, cA, A, e1, rfl, hA, hAl, hbn⟩
      replace hB := hB.keep hbn
      replace hb := bel_to hb hbn
      clear hbn
      have hAR : A.length ≤ Room := by unfold Room; omega
      go_wp2_with fail
      have H := c_DrawHitsAll oc mc capc hmc _ hB
      unfold DrawsL at H
      refine H.mono ?_
      clear H
      rintro e w14 ⟨oD, cD, Dl, x1, rfl, hD, hDl, hbn⟩
      replace hB := hB.keep hbn
      replace hA := hA.keep hbn
      replace hb := bel_to hb hbn
      clear hbn
      have hDR : Dl.length ≤ Room := by unfold Room; omega
      go_wp2_with fail
      have H := c_DrawDepsByTransversals oc mc capc hmc _ hB
      unfold DrawsTab at H
      refine H.mono ?_
      clear H
      rintro e w15 ⟨n2, m2, o2, c2, xs2, R2, rfl, hP, ⟨hPl, hPlen⟩, hbn⟩
      replace hB := hB.keep hbn
      replace hA := hA.keep hbn
      replace hD := hD.keep hbn
      replace hb := bel_to hb hbn
      clear hbn
      have hPR : R2.length ≤ Room := by unfold Room; omega
      have HPr : Hid (∀ j, j < R2.length → (row R2 j).length ≤ Room) := fun j hj => Nat.le_trans (hPlen j hj) (by unfold Room; omega)
      clear hPlen
      have k12 := Blk.new w15 #[.int .i64 n2, .slice o2 R2.length c2] 29
      have hbn := (Below.refl w15.heap.size w15).alloc (Nat.le_refl _) (.cells #[.int .i64 n2, .slice o2 R2.length c2] 29)
      replace hB := hB.keep hbn
      replace hA := hA.keep hbn
      replace hD := hD.keep hbn
      replace hP := hP.keep hbn
      replace hb := bel_to hb hbn
      clear hbn
      have hcap := hP.capLe
      have hdA := hA.ints rfl hAR
      have hdD := hD.ints rfl hDR
      have hdP := hP.read hPR HPr.out
      obtain ⟨G1, HG1⟩ : ∃ G, Hid (growF A e1 = G) := ⟨_, rfl⟩
      have hGL : G1.length ≤ Room := by rw [← HG1.out]; exact growF_len _ _
      obtain ⟨T1, HT1⟩ : ∃ G, Hid (depsTF n2 R2 m2 = G) := ⟨_, rfl⟩
      have hTL : T1.length ≤ Room := by rw [← HT1.out]; exact depsT_len _ _ _
      obtain ⟨q3, HQ3⟩ : ∃ q, Hid (hitsAllF Dl x1 = q) := ⟨_, rfl⟩
      have hq3 : (q3 == q3) = true := by simp
      have e0 := k12.cell 0 (.int .i64 n2) rfl
      have e1' := k12.cell 1 (.slice o2 R2.length c2) rfl
      clear hB hA hD hP k12
      go_upto_region 20 with fail
      generalize w15.alloc (.cells #[.int .i64 n2, .slice o2 R2.length c2] 29) = w16 at *
      refine wp_region_held_drew (S := fun w' => w'.cell? ⟨w15.heap.size, 0, none⟩ = some (.int .i64 n2) ∧ w'.cell? ⟨w15.heap.size, 1, none⟩ = some (.slice o2 R2.length c2) ∧ Below w16.heap.size w16 w') (by kernel_rfl) ⟨cell_keep e0 (Below.refl _ _).drew, cell_keep e1' (Below.refl _ _).drew, (Below.refl _ _).drew⟩ (fun hS => ?_)
      (refine wpAnyH_val (i := 0) (some 81) ?_ rfl rfl (by kernel_rfl) (by kernel_rfl) (by kernel_rfl) (fun _ _ _ h => h) (by rfl) (by assumption) ?_ ?_; rotate_left; (intro w hSw; go_simp; (try with_reducible rfl)); (try simp only [Act.put, List.setIfInBounds_toArray, List.set_cons_zero, List.set_cons_succ])); (refine wpAnyH_val (i := 1) (some 82) ?_ rfl rfl (by kernel_rfl) (by kernel_rfl) (by kernel_rfl) (fun _ _ _ h => h) (by rfl) (by assumption) ?_ ?_; rotate_left; (intro w hSw; go_simp; (try with_reducible rfl)); (try simp only [Act.put, List.setIfInBounds_toArray, List.set_cons_zero, List.set_cons_succ])); (refine wpAnyH_val (i := 3) (some 84) ?_ rfl rfl (by kernel_rfl) (by kernel_rfl) (by kernel_rfl) (fun _ _ _ h => h) (by rfl) (by assumption) ?_ ?_; rotate_left; (intro w hSw; go_simp; (try with_reducible rfl)); (try simp only [Act.put, List.setIfInBounds_toArray, List.set_cons_zero, List.set_cons_succ])); (refine wpAnyH_val (i := 4) (some 85) ?_ rfl rfl (by kernel_rfl) (by kernel_rfl) (by kernel_rfl) (fun _ _ _ h => h) (by rfl) (by assumption) ?_ ?_; rotate_left; (intro w hSw; go_simp; (try with_reducible rfl)); (try simp only [Act.put, List.setIfInBounds_toArray, List.set_cons_zero, List.set_cons_succ]))
      (refine wpAnyH_ready (rs := [2]) (by kernel_rfl) (by simp) ?_; refine AllReadyH.cons rfl (fun K hK => ?_) AllReadyH.nil; go_simp)
      refine (c_GrowTransversals oA cA A e1 _ (hdA.keep hS.2.2)).mono ?_
      rintro e wz ⟨v9, rfl, h9, hbn⟩
      rw [HG1.out] at h9
      obtain ⟨oX, cX, rfl⟩ := h9.shape
      have hdX := h9.ints rfl hGL
      clear h9
      have hS3 := (show _ ∧ _ ∧ Below w16.heap.size w16 _ from ⟨cell_keep hS.1 hbn, cell_keep hS.2.1 hbn, bel_to hS.2.2 hbn⟩)
      refine hK.out _ _ hS3 (fun hS2 => ?_)
      clear hK hbn hS hS2
      have hS := hS3
      clear hS3
      (try simp only [Act.put, List.setIfInBounds_toArray, List.set_cons_zero, List.set_cons_succ])
      (refine wpAnyH_ready (rs := [5]) (by kernel_rfl) (by simp) ?_; refine AllReadyH.cons rfl (fun K hK => ?_) AllReadyH.nil; go_simp)
      refine (c_specGrowTransversals oA cA A e1 _ (hdA.keep hS.2.2)).mono ?_
      rintro e wz ⟨v9, rfl, h9, hbn⟩
      rw [HG1.out] at h9
      obtain ⟨oY, cY, rfl⟩ := h9.shape
      have hdY := h9.ints rfl hGL
      clear h9
      have hdX := hdX.keep hbn
      have hS3 := (show _ ∧ _ ∧ Below w16.heap.size w16 _ from ⟨cell_keep hS.1 hbn, cell_keep hS.2.1 hbn, bel_to hS.2.2 hbn⟩)
      refine hK.out _ _ hS3 (fun hS2 => ?_)
      clear hK hbn hS hS2
      have hS := hS3
      clear hS3
      (try simp only [Act.put, List.setIfInBounds_toArray, List.set_cons_zero, List.set_cons_succ])
      (refine wpAnyH_ready (rs := [6]) (by kernel_rfl) (by simp) ?_; refine AllReadyH.cons rfl (fun K hK => ?_) AllReadyH.nil; go_simp)
      refine Calls.mono (c_lawSameInts oX oY cX cY G1 _ hdX hdY) ?_
      rintro e wz ⟨rfl, hbn⟩
      clear hdX hdY
      have hS3 := (show _ ∧ _ ∧ Below w16.heap.size w16 _ from ⟨cell_keep hS.1 hbn, cell_keep hS.2.1 hbn, bel_to hS.2.2 hbn⟩)
      refine hK.out _ _ hS3 (fun hS2 => ?_)
      clear hK hbn hS hS2
      have hS := hS3
      clear hS3
      (try simp only [Act.put, List.setIfInBounds_toArray, List.set_cons_zero, List.set_cons_succ])
      (refine wpAnyH_val (i := 7) (some 88) ?_ rfl rfl (by kernel_rfl) (by kernel_rfl) (by kernel_rfl) (fun _ _ _ h => h) (by rfl) (by assumption) ?_ ?_; rotate_left; (intro w hSw; go_simp; (try with_reducible rfl)); (try simp only [Act.put, List.setIfInBounds_toArray, List.set_cons_zero, List.set_cons_succ])); (refine wpAnyH_val (i := 8) (some 89) ?_ rfl rfl (by kernel_rfl) (by kernel_rfl) (by kernel_rfl) (fun _ _ _ h => h) (by rfl) (by assumption) ?_ ?_; rotate_left; (intro w hSw; go_simp; (try with_reducible rfl)); (try simp only [Act.put, List.setIfInBounds_toArray, List.set_cons_zero, List.set_cons_succ])); (refine wpAnyH_val (i := 9) (some 90) ?_ rfl rfl (by kernel_rfl) (by kernel_rfl) (by kernel_rfl) (fun _ _ _ h => h) (by rfl) (by assumption) ?_ ?_; rotate_left; (intro w hSw; go_simp; (try with_reducible rfl)); (try simp only [Act.put, List.setIfInBounds_toArray, List.set_cons_zero, List.set_cons_succ])); (refine wpAnyH_val (i := 11) (some 92) ?_ rfl rfl (by kernel_rfl) (by kernel_rfl) (by kernel_rfl) (fun _ _ _ h => h) (by rfl) (by assumption) ?_ ?_; rotate_left; (intro w hSw; go_simp; (try with_reducible rfl)); (try simp only [Act.put, List.setIfInBounds_toArray, List.set_cons_zero, List.set_cons_succ])); (refine wpAnyH_val (i := 12) (some 93) ?_ rfl rfl (by kernel_rfl) (by kernel_rfl) (by kernel_rfl) (fun _ _ _ h => h) (by rfl) (by assumption) ?_ ?_; rotate_left; (intro w hSw; go_simp; (try with_reducible rfl)); (try simp only [Act.put, List.setIfInBounds_toArray, List.set_cons_zero, List.set_cons_succ]))
      (refine wpAnyH_ready (rs := [10]) (by kernel_rfl) (by simp) ?_; refine AllReadyH.cons rfl (fun K hK => ?_) AllReadyH.nil; go_simp)
      refine Calls.mono (Ans.eqb (a_HitsAll oD cD Dl x1 _ (hdD.keep hS.2.2)) HQ3.out) ?_
      rintro e wz ⟨rfl, hbn⟩
      have hS3 := (show _ ∧ _ ∧ Below w16.heap.size w16 _ from ⟨cell_keep hS.1 hbn, cell_keep hS.2.1 hbn, bel_to hS.2.2 hbn⟩)
      refine hK.out _ _ hS3 (fun hS2 => ?_)
      clear hK hbn hS hS2
      have hS := hS3
      clear hS3
      (try simp only [Act.put, List.setIfInBounds_toArray, List.set_cons_zero, List.set_cons_succ])
      (refine wpAnyH_ready (rs := [13]) (by kernel_rfl) (by simp) ?_; refine AllReadyH.cons rfl (fun K hK => ?_) AllReadyH.nil; go_simp)
      refine Calls.mono (Ans.eqb (a_specHitsAll oD cD Dl x1 _ (hdD.keep hS.2.2)) HQ3.out) ?_
      rintro e wz ⟨rfl, hbn⟩
      have hS3 := (show _ ∧ _ ∧ Below w16.heap.size w16 _ from ⟨cell_keep hS.1 hbn, cell_keep hS.2.1 hbn, bel_to hS.2.2 hbn⟩)
      refine hK.out _ _ hS3 (fun hS2 => ?_)
      clear hK hbn hS hS2
      have hS := hS3
      clear hS3
      (try simp only [Act.put, List.setIfInBounds_toArray, List.set_cons_zero, List.set_cons_succ])
      (refine wpAnyH_val (i := 14) (some 95) ?_ rfl rfl (by kernel_rfl) (by kernel_rfl) (by kernel_rfl) (fun _ _ _ h => h) (by rfl) (by assumption) ?_ ?_; rotate_left; (intro w hSw; go_simp; (try with_reducible rfl)); (try simp only [Act.put, List.setIfInBounds_toArray, List.set_cons_zero, List.set_cons_succ])); (refine wpAnyH_val (i := 15) (some 96) ?_ rfl rfl (by kernel_rfl) (by kernel_rfl) (by kernel_rfl) (fun _ _ _ h => h) (by rfl) (by assumption) ?_ ?_; rotate_left; (intro w hSw; go_simp; (try with_reducible rfl)); (try simp only [Act.put, List.setIfInBounds_toArray, List.set_cons_zero, List.set_cons_succ])); (refine wpAnyH_val (i := 16) (some 97) ?_ rfl rfl (by kernel_rfl) (by kernel_rfl) (by kernel_rfl) (fun _ _ _ h => h) (by rfl) (by assumption) ?_ ?_; rotate_left; (intro w hSw; go_simp; (try with_reducible rfl)); (try simp only [Act.put, List.setIfInBounds_toArray, List.set_cons_zero, List.set_cons_succ])); (refine wpAnyH_val (i := 17) (some 98) ?_ rfl rfl (by kernel_rfl) (by kernel_rfl) (by kernel_rfl) (fun _ _ _ h => h) (by rfl) (by assumption) ?_ ?_; rotate_left; (intro w hSw; go_simp; (try with_reducible rfl)); (try simp only [Act.put, List.setIfInBounds_toArray, List.set_cons_zero, List.set_cons_succ])); (refine wpAnyH_val (i := 18) (some 99) ?_ rfl rfl (by kernel_rfl) (by kernel_rfl) (by kernel_rfl) (fun _ _ _ h => h) (by rfl) (by assumption) ?_ ?_; rotate_left; (intro w hSw; go_simp; (try with_reducible rfl)); (try simp only [Act.put, List.setIfInBounds_toArray, List.set_cons_zero, List.set_cons_succ])); (refine wpAnyH_val (i := 20) (some 101) ?_ rfl rfl (by kernel_rfl) (by kernel_rfl) (by kernel_rfl) (fun _ _ _ h => h) (by rfl) (by assumption) ?_ ?_; rotate_left; (intro w hSw; go_simp; (try with_reducible rfl)); (try simp only [Act.put, List.setIfInBounds_toArray, List.set_cons_zero, List.set_cons_succ])); (refine wpAnyH_val (i := 21) (some 102) ?_ rfl rfl (by kernel_rfl) (by kernel_rfl) (by kernel_rfl) (fun _ _ _ h => h) (by rfl) (by assumption) ?_ ?_; rotate_left; (intro w hSw; go_simp; (try with_reducible rfl)); (try simp only [Act.put, List.setIfInBounds_toArray, List.set_cons_zero, List.set_cons_succ]))
      (refine wpAnyH_ready (rs := [19]) (by kernel_rfl) (by simp) ?_; refine AllReadyH.cons rfl (fun K hK => ?_) AllReadyH.nil; go_simp)
      refine (c_DepsByTransversals n2 o2 c2 R2 m2 _ (hdP.keep hS.2.2) hcap).mono ?_
      rintro e wz ⟨v9, rfl, h9, hbn⟩
      rw [HT1.out] at h9
      obtain ⟨oU, cU, rfl⟩ := h9.shape
      have hdU := h9.deps rfl hTL
      clear h9
      have hS3 := (show _ ∧ _ ∧ Below w16.heap.size w16 _ from ⟨cell_keep hS.1 hbn, cell_keep hS.2.1 hbn, bel_to hS.2.2 hbn⟩)
      refine hK.out _ _ hS3 (fun hS2 => ?_)
      clear hK hbn hS hS2
      have hS := hS3
      clear hS3
      (try simp only [Act.put, List.setIfInBounds_toArray, List.set_cons_zero, List.set_cons_succ])
      (refine wpAnyH_ready (rs := [22]) (by kernel_rfl) (by simp) ?_; refine AllReadyH.cons rfl (fun K hK => ?_) AllReadyH.nil; go_simp)
      refine (c_specDepsByTransversals n2 o2 c2 R2 m2 _ (hdP.keep hS.2.2)).mono ?_
      rintro e wz ⟨v9, rfl, h9, hbn⟩
      rw [HT1.out] at h9
      obtain ⟨oV, cV, rfl⟩ := h9.shape
      have hdV := h9.deps rfl hTL
      clear h9
      have hdU := hdU.keep hbn
      have hS3 := (show _ ∧ _ ∧ Below w16.heap.size w16 _ from ⟨cell_keep hS.1 hbn, cell_keep hS.2.1 hbn, bel_to hS.2.2 hbn⟩)
      refine hK.out _ _ hS3 (fun hS2 => ?_)
      clear hK hbn hS hS2
      have hS := hS3
      clear hS3
      (try simp only [Act.put, List.setIfInBounds_toArray, List.set_cons_zero, List.set_cons_succ])
      (refine wpAnyH_ready (rs := [23]) (by kernel_rfl) (by simp) ?_; refine AllReadyH.cons rfl (fun K hK => ?_) AllReadyH.nil; go_simp)
      refine Calls.mono (Ans.eqb (b' := true) (c_specSameDeps oU oV cU cV T1 T1 _ hdU hdV) (by simp)) ?_
      rintro e wz ⟨rfl, hbn⟩
      have hS3 := (show _ ∧ _ ∧ Below w16.heap.size w16 _ from ⟨cell_keep hS.1 hbn, cell_keep hS.2.1 hbn, bel_to hS.2.2 hbn⟩)
      refine hK.out _ _ hS3 (fun hS2 => ?_)
      clear hK hbn hS hS2
      have hS := hS3
      clear hS3
      (try simp only [Act.put, List.setIfInBounds_toArray, List.set_cons_zero, List.set_cons_succ])
      (refine wpAnyH_val (i := 24) (some 105) ?_ rfl rfl (by kernel_rfl) (by kernel_rfl) (by kernel_rfl) (fun _ _ _ h => h) (by rfl) (by assumption) ?_ ?_; rotate_left; (intro w hSw; go_simp; (try with_reducible rfl)); (try simp only [Act.put, List.setIfInBounds_toArray, List.set_cons_zero, List.set_cons_succ])); (refine wpAnyH_val (i := 25) (some 2) ?_ rfl rfl (by kernel_rfl) (by kernel_rfl) (by kernel_rfl) (fun _ _ _ h => h) (by rfl) (by assumption) ?_ ?_; rotate_left; (intro w hSw; go_simp; (try with_reducible rfl)); (try simp only [Act.put, List.setIfInBounds_toArray, List.set_cons_zero, List.set_cons_succ]))
      refine wpAnyH_done (by kernel_rfl) ?_ _
      try dsimp only [NoPanic, Exit.then]
      go_wp2
      go_ret
      exact ⟨rfl, bel_to hb hS.2.2⟩
end Go.Proofs.YtjbmpnbfiahdhaaGreat
