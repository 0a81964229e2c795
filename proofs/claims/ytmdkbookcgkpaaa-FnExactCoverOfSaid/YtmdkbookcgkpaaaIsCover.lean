/- IsCover, of the program and of the reference. -/
import Derived.Test.YtmdkbookcgkpaaaWithout2
import Derived.Test.YtmdkbookcgkpaaaReduce2
namespace Go.Proofs.Ytmdkbookcgkpaaa
open Go.RowKit
set_option linter.unusedVariables false
set_option maxRecDepth 100000

def coverBad (n : Int) (D : List (Int × Int)) (i : Nat) : Bool := impliesDepF n (eraD D i) (nl D i) (nr D i) || !(reduceF n D (nl D i) (nr D i) == nl D i)
def isCoverF (n : Int) (D : List (Int × Int)) : Bool := areDepsF n D && (List.range D.length).all fun i => !coverBad n D i
theorem OwnD.cap {w : World} {base : Nat} {v : Value} {L : List (Int × Int)} (h : OwnD w base v L) : ∃ oa cap, v = .slice oa L.length cap ∧ L.length ≤ cap ∧ (oa = none → cap = 0) := by
  rcases h.2 with ⟨hv, h0⟩ | ⟨g, cap, cur, hv, hb, hg, hl, _⟩
  · exact ⟨none, 0, by rw [hv, h0], by omega, fun _ => rfl⟩
  · exact ⟨_, cap, hv, hl, fun h => by cases h⟩
theorem range_all_succ (p : Nat → Bool) (k : Nat) : (List.range (k + 1)).all p = ((List.range k).all p && p k) := by
  rw [List.range_succ, List.all_append]; simp
theorem range_all_false (p : Nat → Bool) (k n : Nat) (hk : k < n) (h : p k = false) : (List.range n).all p = false := by
  rw [List.all_eq_false]; exact ⟨k, List.mem_range.2 hk, by simp [h]⟩
theorem eraD_len {D : List (Int × Int)} {i : Nat} (h : i < D.length) : (eraD D i).length = D.length - 1 := by
  unfold eraD; rw [List.length_append, List.length_take, List.length_drop]; omega

set_option maxHeartbeats 1600000 in
theorem c_specIsCover (n : Int) (oa) (cap : Nat) (D : List (Int × Int)) (w : World) (hD : DepsAt w oa D) (hcap : D.length ≤ cap) :
    Ans Try.prog 44 #[.int .i64 n, .slice oa D.length cap] w (.bool (isCoverF n D)) := by
  unfold Ans
  have hb := Below.refl w.heap.size w
  have hn : D.length ≤ 1073741824 := hD.len
  cases ha : areDepsF n D
  · have HM : Hid (isCoverF n D = false) := by unfold isCoverF; rw [ha]; rfl
    go_enter Try.func44, Try.ntmps44
    go_wp2
    go_loopw [5] (fun i wr => i = .int .i64 0 ∧ Below w.heap.size w wr) (fun i _ => 0)
    case atStart => exact ⟨rfl, hb⟩
    case round =>
      clear hb
      obtain ⟨rfl, hb⟩ := hrel
      have hx := c_specAreDeps n oa cap D
      by_cases h0 : 0 < D.length
      · go_wp2_with (first | (go_at_call 20; refine Calls.mono (c_specAreDeps _ _ _ _ _ (hD.keep hb)) ?_; rintro e w1 ⟨rfl, hbn⟩; replace hb := bel_to (w := w) (by first | exact hb | exact hb.alloc hb.size _ | exact (hb.alloc hb.size _).alloc (Nat.le_trans hb.size (by simp)) _ | exact hb.setCell (by simp [hb.size]) _) hbn; clear hbn))
        go_ret
        exact ⟨ret_bool (by rw [HM.out]), hb⟩
      · go_wp2_with (first | (go_at_call 20; refine Calls.mono (c_specAreDeps _ _ _ _ _ (hD.keep hb)) ?_; rintro e w1 ⟨rfl, hbn⟩; replace hb := bel_to (w := w) (by first | exact hb | exact hb.alloc hb.size _ | exact (hb.alloc hb.size _).alloc (Nat.le_trans hb.size (by simp)) _ | exact hb.setCell (by simp [hb.size]) _) hbn; clear hbn))
        go_ret
        exact ⟨ret_bool (by rw [HM.out]), hb⟩
  · have HM : Hid (isCoverF n D = (List.range D.length).all fun i => !coverBad n D i) := by unfold isCoverF; rw [ha]; rfl
    go_enter Try.func44, Try.ntmps44
    go_wp2
    go_loopw [5] (fun i wr => ∃ k : Nat, i = .int .i64 k ∧ k ≤ D.length ∧ ((List.range k).all fun i => !coverBad n D i) = true ∧ Below w.heap.size w wr) (fun i _ => D.length - (intOf i).toNat)
    case atStart => exact ⟨0, rfl, Nat.zero_le _, rfl, hb⟩
    case round =>
      clear hb
      obtain ⟨k, rfl, hk, hall, hb⟩ := hrel
      have HA : Hid (((List.range k).all fun i => !coverBad n D i) = true) := hall
      clear hall
      by_cases hlt : k < D.length
      · obtain ⟨b, off, rfl, hbs, hc⟩ := hD.at_ (by omega)
        have hc1 := cell_keep (hc k hlt).1 hb
        have hc2 := cell_keep (hc k hlt).2 hb
        have HT : Hid (((List.range (k + 1)).all fun i => !coverBad n D i) = (((List.range k).all fun i => !coverBad n D i) && !coverBad n D k)) := range_all_succ _ k
        have HF : Hid (coverBad n D k = true → ((List.range D.length).all fun i => !coverBad n D i) = false) := fun h => range_all_false _ k _ hlt (by rw [h]; rfl)
        have hle : (eraD D k).length ≤ Room := by rw [eraD_len hlt]; unfold Room; omega
        clear hc
        go_wp2_with (first | (go_at_call 20; refine Calls.mono (c_specAreDeps _ _ _ _ _ (hD.keep hb)) ?_; rintro e w1 ⟨rfl, hbn⟩; replace hc1 := cell_keep hc1 hbn; replace hc2 := cell_keep hc2 hbn; replace hb := bel_to (w := w) (by first | exact hb | exact hb.alloc hb.size _ | exact (hb.alloc hb.size _).alloc (Nat.le_trans hb.size (by simp)) _ | exact hb.setCell (by simp [hb.size]) _) hbn; clear hbn))
        cases himp : impliesDepF n (eraD D k) (nl D k) (nr D k)
        · cases hr : (reduceF n D (nl D k) (nr D k) == nl D k)
          · have hr2 : (reduceF n D (nl D k) (nr D k) != nl D k) = true := by simp [bne, hr]
            go_region_held3 (fun w' => w'.cell? ⟨b, off + k * 2, none⟩ = some (.int .i64 (nl D k)) ∧ w'.cell? ⟨b, off + k * 2 + 1, none⟩ = some (.int .i64 (nr D k)) ∧ Below w.heap.size w w')
              (first | (rename_i hS _ _; exact ⟨cell_keep hS.1 hbn, cell_keep hS.2.1 hbn, bel_to hS.2.2 hbn⟩) | exact ⟨cell_keep hc1 (Below.refl _ _).drew, cell_keep hc2 (Below.refl _ _).drew, hb.drew⟩)
              (first
                | (go_at_call 77; rename_i hS _ _; refine (c_l11Without _ _ _ _ _ (hD.keep hS.2.2) hcap hlt).mono ?_; rintro e w1 ⟨v1, rfl, hO, hbn⟩; obtain ⟨o1, c1, rfl⟩ := hO.shape; have hL := hO.deps rfl hle; clear hO)
                | (go_at_call 24; refine Calls.mono (Ans.eqb (c_specImpliesDep _ _ _ _ _ _ _ hL) himp) ?_; rintro e w1 ⟨rfl, hbn⟩; clear hL)
                | (go_at_call 29; rename_i hS _ _; refine Calls.mono (c_specReduceLeft _ _ _ _ _ _ _ (hD.keep hS.2.2)) ?_; rintro e w1 ⟨rfl, hbn⟩)
                | fail)
            rename_i hS
            replace hb := hS.2.2
            clear hS hbn
            go_wp2
            go_ret
            exact ⟨ret_bool (by rw [HM.out, HF.out (by unfold coverBad; rw [himp, hr]; rfl)]), hb⟩
          · have hr2 : (reduceF n D (nl D k) (nr D k) != nl D k) = false := by simp [bne, hr]
            go_region_held3 (fun w' => w'.cell? ⟨b, off + k * 2, none⟩ = some (.int .i64 (nl D k)) ∧ w'.cell? ⟨b, off + k * 2 + 1, none⟩ = some (.int .i64 (nr D k)) ∧ Below w.heap.size w w')
              (first | (rename_i hS _ _; exact ⟨cell_keep hS.1 hbn, cell_keep hS.2.1 hbn, bel_to hS.2.2 hbn⟩) | exact ⟨cell_keep hc1 (Below.refl _ _).drew, cell_keep hc2 (Below.refl _ _).drew, hb.drew⟩)
              (first
                | (go_at_call 77; rename_i hS _ _; refine (c_l11Without _ _ _ _ _ (hD.keep hS.2.2) hcap hlt).mono ?_; rintro e w1 ⟨v1, rfl, hO, hbn⟩; obtain ⟨o1, c1, rfl⟩ := hO.shape; have hL := hO.deps rfl hle; clear hO)
                | (go_at_call 24; refine Calls.mono (Ans.eqb (c_specImpliesDep _ _ _ _ _ _ _ hL) himp) ?_; rintro e w1 ⟨rfl, hbn⟩; clear hL)
                | (go_at_call 29; rename_i hS _ _; refine Calls.mono (c_specReduceLeft _ _ _ _ _ _ _ (hD.keep hS.2.2)) ?_; rintro e w1 ⟨rfl, hbn⟩)
                | fail)
            rename_i hS
            replace hb := hS.2.2
            clear hS hbn
            go_wp2
            go_roundw
            case rel => exact ⟨k + 1, by go_num, by omega, by rw [HT.out, HA.out]; unfold coverBad; rw [himp, hr]; rfl, hb⟩
            case measure => simp [intOf]; omega
        · refine wp_region_held_drew (S := fun w' => w'.cell? ⟨b, off + k * 2, none⟩ = some (.int .i64 (nl D k)) ∧ w'.cell? ⟨b, off + k * 2 + 1, none⟩ = some (.int .i64 (nr D k)) ∧ Below w.heap.size w w') (by kernel_rfl) ⟨cell_keep hc1 (Below.refl _ _).drew, cell_keep hc2 (Below.refl _ _).drew, hb.drew⟩ (fun hS => ?_)
          (refine wpAnyH_val (i := 0) (some 17) ?_ rfl rfl (by kernel_rfl) (by kernel_rfl) (by kernel_rfl) (fun _ _ _ h => h) (by rfl) (by assumption) ?_ ?_; rotate_left; (intro w hSw; go_simp; (try with_reducible rfl)); (try simp only [Act.put, List.setIfInBounds_toArray, List.set_cons_zero, List.set_cons_succ])); (refine wpAnyH_val (i := 1) (some 18) ?_ rfl rfl (by kernel_rfl) (by kernel_rfl) (by kernel_rfl) (fun _ _ _ h => h) (by rfl) (by assumption) ?_ ?_; rotate_left; (intro w hSw; go_simp; (try with_reducible rfl)); (try simp only [Act.put, List.setIfInBounds_toArray, List.set_cons_zero, List.set_cons_succ])); (refine wpAnyH_val (i := 2) (some 19) ?_ rfl rfl (by kernel_rfl) (by kernel_rfl) (by kernel_rfl) (fun _ _ _ h => h) (by rfl) (by assumption) ?_ ?_; rotate_left; (intro w hSw; go_simp; (try with_reducible rfl)); (try simp only [Act.put, List.setIfInBounds_toArray, List.set_cons_zero, List.set_cons_succ])); (refine wpAnyH_val (i := 4) (some 21) ?_ rfl rfl (by kernel_rfl) (by kernel_rfl) (by kernel_rfl) (fun _ _ _ h => h) (by rfl) (by assumption) ?_ ?_; rotate_left; (intro w hSw; go_simp; (try with_reducible rfl)); (try simp only [Act.put, List.setIfInBounds_toArray, List.set_cons_zero, List.set_cons_succ])); (refine wpAnyH_val (i := 5) (some 22) ?_ rfl rfl (by kernel_rfl) (by kernel_rfl) (by kernel_rfl) (fun _ _ _ h => h) (by rfl) (by assumption) ?_ ?_; rotate_left; (intro w hSw; go_simp; (try with_reducible rfl)); (try simp only [Act.put, List.setIfInBounds_toArray, List.set_cons_zero, List.set_cons_succ])); (refine wpAnyH_val (i := 6) (some 23) ?_ rfl rfl (by kernel_rfl) (by kernel_rfl) (by kernel_rfl) (fun _ _ _ h => h) (by rfl) (by assumption) ?_ ?_; rotate_left; (intro w hSw; go_simp; (try with_reducible rfl)); (try simp only [Act.put, List.setIfInBounds_toArray, List.set_cons_zero, List.set_cons_succ])); (refine wpAnyH_val (i := 7) (some 24) ?_ rfl rfl (by kernel_rfl) (by kernel_rfl) (by kernel_rfl) (fun _ _ _ h => h) (by rfl) (by assumption) ?_ ?_; rotate_left; (intro w hSw; go_simp; (try with_reducible rfl)); (try simp only [Act.put, List.setIfInBounds_toArray, List.set_cons_zero, List.set_cons_succ]))
          (refine wpAnyH_ready (rs := [3]) (by kernel_rfl) (by simp) ?_; refine AllReadyH.cons rfl (fun K hK => ?_) AllReadyH.nil; go_simp)
          refine (c_l11Without _ _ _ _ _ (hD.keep hS.2.2) hcap hlt).mono ?_
          rintro e w1 ⟨v1, rfl, hO, hbn⟩
          obtain ⟨o1, c1, rfl⟩ := hO.shape
          have hL := hO.deps rfl hle
          clear hO
          refine hK.out _ _ ⟨cell_keep hS.1 hbn, cell_keep hS.2.1 hbn, bel_to hS.2.2 hbn⟩ (fun hS2 => ?_)
          clear hK hbn hS hb hc1 hc2
          (try simp only [Act.put, List.setIfInBounds_toArray, List.set_cons_zero, List.set_cons_succ])
          (refine wpAnyH_ready (rs := [8]) (by kernel_rfl) (by simp) ?_; refine AllReadyH.cons rfl (fun K hK => ?_) AllReadyH.nil; go_simp)
          refine Calls.mono (Ans.eqb (c_specImpliesDep _ _ _ _ _ _ _ hL) himp) ?_
          rintro e w2 ⟨rfl, hbn⟩
          clear hL
          refine hK.out _ _ ⟨cell_keep hS2.1 hbn, cell_keep hS2.2.1 hbn, bel_to hS2.2.2 hbn⟩ (fun hS3 => ?_)
          clear hK hbn
          (try simp only [Act.put, List.setIfInBounds_toArray, List.set_cons_zero, List.set_cons_succ])
          (refine wpAnyH_val (i := 9) (some 26) ?_ rfl rfl (by kernel_rfl) (by kernel_rfl) (by kernel_rfl) (fun _ _ _ h => h) (by rfl) (by assumption) ?_ ?_; rotate_left; (intro w hSw; go_simp; (try with_reducible rfl)); (try simp only [Act.put, List.setIfInBounds_toArray, List.set_cons_zero, List.set_cons_succ])); (refine wpAnyH_skip (i := 10) (some 27) rfl rfl (by kernel_rfl) (by kernel_rfl) (by kernel_rfl) (fun _ _ _ h => h) (by rfl) (by assumption) ?_; (try simp only [Act.put, List.setIfInBounds_toArray, List.set_cons_zero, List.set_cons_succ])); (refine wpAnyH_skip (i := 11) (some 28) rfl rfl (by kernel_rfl) (by kernel_rfl) (by kernel_rfl) (fun _ _ _ h => h) (by rfl) (by assumption) ?_; (try simp only [Act.put, List.setIfInBounds_toArray, List.set_cons_zero, List.set_cons_succ])); (refine wpAnyH_skip (i := 12) (some 29) rfl rfl (by kernel_rfl) (by kernel_rfl) (by kernel_rfl) (fun _ _ _ h => h) (by rfl) (by assumption) ?_; (try simp only [Act.put, List.setIfInBounds_toArray, List.set_cons_zero, List.set_cons_succ])); (refine wpAnyH_skip (i := 13) (some 30) rfl rfl (by kernel_rfl) (by kernel_rfl) (by kernel_rfl) (fun _ _ _ h => h) (by rfl) (by assumption) ?_; (try simp only [Act.put, List.setIfInBounds_toArray, List.set_cons_zero, List.set_cons_succ])); (refine wpAnyH_skip (i := 14) (some 31) rfl rfl (by kernel_rfl) (by kernel_rfl) (by kernel_rfl) (fun _ _ _ h => h) (by rfl) (by assumption) ?_; (try simp only [Act.put, List.setIfInBounds_toArray, List.set_cons_zero, List.set_cons_succ])); (refine wpAnyH_skip (i := 15) (some 32) rfl rfl (by kernel_rfl) (by kernel_rfl) (by kernel_rfl) (fun _ _ _ h => h) (by rfl) (by assumption) ?_; (try simp only [Act.put, List.setIfInBounds_toArray, List.set_cons_zero, List.set_cons_succ])); (refine wpAnyH_skip (i := 16) (some 33) rfl rfl (by kernel_rfl) (by kernel_rfl) (by kernel_rfl) (fun _ _ _ h => h) (by rfl) (by assumption) ?_; (try simp only [Act.put, List.setIfInBounds_toArray, List.set_cons_zero, List.set_cons_succ])); (refine wpAnyH_skip (i := 17) (some 34) rfl rfl (by kernel_rfl) (by kernel_rfl) (by kernel_rfl) (fun _ _ _ h => h) (by rfl) (by assumption) ?_; (try simp only [Act.put, List.setIfInBounds_toArray, List.set_cons_zero, List.set_cons_succ])); (refine wpAnyH_skip (i := 18) (some 35) rfl rfl (by kernel_rfl) (by kernel_rfl) (by kernel_rfl) (fun _ _ _ h => h) (by rfl) (by assumption) ?_; (try simp only [Act.put, List.setIfInBounds_toArray, List.set_cons_zero, List.set_cons_succ])); (refine wpAnyH_skip (i := 19) (some 36) rfl rfl (by kernel_rfl) (by kernel_rfl) (by kernel_rfl) (fun _ _ _ h => h) (by rfl) (by assumption) ?_; (try simp only [Act.put, List.setIfInBounds_toArray, List.set_cons_zero, List.set_cons_succ])); (refine wpAnyH_skip (i := 20) (some 37) rfl rfl (by kernel_rfl) (by kernel_rfl) (by kernel_rfl) (fun _ _ _ h => h) (by rfl) (by assumption) ?_; (try simp only [Act.put, List.setIfInBounds_toArray, List.set_cons_zero, List.set_cons_succ])); (refine wpAnyH_skip (i := 21) (some 38) rfl rfl (by kernel_rfl) (by kernel_rfl) (by kernel_rfl) (fun _ _ _ h => h) (by rfl) (by assumption) ?_; (try simp only [Act.put, List.setIfInBounds_toArray, List.set_cons_zero, List.set_cons_succ])); (refine wpAnyH_val (i := 22) (some 39) ?_ rfl rfl (by kernel_rfl) (by kernel_rfl) (by kernel_rfl) (fun _ _ _ h => h) (by rfl) (by assumption) ?_ ?_; rotate_left; (intro w hSw; go_simp; (try with_reducible rfl)); (try simp only [Act.put, List.setIfInBounds_toArray, List.set_cons_zero, List.set_cons_succ]))
          refine wpAnyH_done (by kernel_rfl) ?_ _
          try dsimp only [NoPanic, Exit.then]
          go_wp2
          go_ret
          exact ⟨ret_bool (by rw [HM.out, HF.out (by unfold coverBad; rw [himp]; rfl)]), hS3.2.2⟩
      · have hkk : k = D.length := by omega
        have HS : Hid (((List.range D.length).all fun i => !coverBad n D i) = true) := by rw [← hkk]; exact HA.out
        clear hkk
        go_wp2_with (first | (go_at_call 20; refine Calls.mono (c_specAreDeps _ _ _ _ _ (hD.keep hb)) ?_; rintro e w1 ⟨rfl, hbn⟩; replace hb := bel_to (w := w) (by first | exact hb | exact hb.alloc hb.size _ | exact (hb.alloc hb.size _).alloc (Nat.le_trans hb.size (by simp)) _ | exact hb.setCell (by simp [hb.size]) _) hbn; clear hbn))
        go_ret
        exact ⟨ret_bool (by rw [HM.out, HS.out]), hb⟩
theorem mem_eraD {D : List (Int × Int)} {i : Nat} {d : Int × Int} (h : d ∈ eraD D i) : d ∈ D := by
  unfold eraD at h
  rcases List.mem_append.1 h with h | h
  · exact List.mem_of_mem_take h
  · exact List.mem_of_mem_drop h
theorem nth_mem {D : List (Int × Int)} {k : Nat} (h : k < D.length) : (nl D k, nr D k) ∈ D := List.mem_iff_getElem?.2 ⟨k, dnth_eq h⟩
theorem areDepsF_mem {n : Int} {D : List (Int × Int)} (h : areDepsF n D = true) {d : Int × Int} (hd : d ∈ D) : isDepF n d.1 d.2 = true := by
  simp only [areDepsF, Bool.and_eq_true, decide_eq_true_eq, List.all_eq_true] at h
  exact h.1 d hd
theorem areDepsF_sub {n : Int} {D E : List (Int × Int)} (h : areDepsF n D = true) (hs : ∀ d ∈ E, d ∈ D) (hl : E.length ≤ D.length) : areDepsF n E = true := by
  simp only [areDepsF, Bool.and_eq_true, decide_eq_true_eq, List.all_eq_true] at h ⊢
  exact ⟨fun d hd => h.1 d (hs d hd), h.2.1, by omega⟩
theorem areDepsF_era {n : Int} {D : List (Int × Int)} (h : areDepsF n D = true) {i : Nat} (hi : i < D.length) : areDepsF n (eraD D i) = true :=
  areDepsF_sub h (fun _ hd => mem_eraD hd) (by rw [eraD_len hi]; omega)

set_option maxHeartbeats 1600000 in
theorem c_IsCover (n : Int) (oa) (cap : Nat) (D : List (Int × Int)) (w : World) (hD : DepsAt w oa D) (hcap : D.length ≤ cap) :
    Ans Try.prog 45 #[.int .i64 n, .slice oa D.length cap] w (.bool (isCoverF n D)) := by
  unfold Ans
  have hb := Below.refl w.heap.size w
  have hn : D.length ≤ 1073741824 := hD.len
  cases ha : areDepsF n D
  · have HM : Hid (isCoverF n D = false) := by unfold isCoverF; rw [ha]; rfl
    go_enter Try.func45, Try.ntmps45
    go_wp2_with (first | (go_at_call 22; refine Calls.mono (c_AreDeps _ _ _ _ _ (hD.keep hb)) ?_; rintro e w1 ⟨rfl, hbn⟩; replace hb := bel_to (w := w) (by first | exact hb | exact hb.alloc hb.size _ | exact (hb.alloc hb.size _).alloc (Nat.le_trans hb.size (by simp)) _ | exact hb.setCell (by simp [hb.size]) _) hbn; clear hbn))
    go_ret
    exact ⟨ret_bool (by rw [HM.out]), hb⟩
  · have HM : Hid (isCoverF n D = (List.range D.length).all fun i => !coverBad n D i) := by unfold isCoverF; rw [ha]; rfl
    go_enter Try.func45, Try.ntmps45
    go_wp2_with (first | (go_at_call 22; refine Calls.mono (c_AreDeps _ _ _ _ _ (hD.keep hb)) ?_; rintro e w1 ⟨rfl, hbn⟩; replace hb := bel_to (w := w) (by first | exact hb | exact hb.alloc hb.size _ | exact (hb.alloc hb.size _).alloc (Nat.le_trans hb.size (by simp)) _ | exact hb.setCell (by simp [hb.size]) _) hbn; clear hbn))
    go_loopw [13] (fun i wr => ∃ k : Nat, i = .int .i64 k ∧ k ≤ D.length ∧ ((List.range k).all fun i => !coverBad n D i) = true ∧ Below w.heap.size w wr) (fun i _ => D.length - (intOf i).toNat)
    case atStart => exact ⟨0, rfl, Nat.zero_le _, rfl, hb⟩
    case round =>
      clear hb
      obtain ⟨k, rfl, hk, hall, hb⟩ := hrel
      have HA : Hid (((List.range k).all fun i => !coverBad n D i) = true) := hall
      clear hall
      by_cases hlt : k < D.length
      · obtain ⟨b, off, rfl, hbs, hc⟩ := hD.at_ (by omega)
        have hc1 := cell_keep (hc k hlt).1 hb
        have hc2 := cell_keep (hc k hlt).2 hb
        have HT : Hid (((List.range (k + 1)).all fun i => !coverBad n D i) = (((List.range k).all fun i => !coverBad n D i) && !coverBad n D k)) := range_all_succ _ k
        have HF : Hid (coverBad n D k = true → ((List.range D.length).all fun i => !coverBad n D i) = false) := fun h => range_all_false _ k _ hlt (by rw [h]; rfl)
        have hle : (eraD D k).length ≤ Room := by rw [eraD_len hlt]; unfold Room; omega
        have hdk := areDepsF_mem ha (nth_mem hlt)
        obtain ⟨⟨hl, hr⟩, _⟩ := isDepF_val hdk
        have hera := areDepsF_era ha hlt
        have hv := (areDepsF_val hera).1
        have HI : Hid (impliesDepF n (eraD D k) (nl D k) (nr D k) = impF (eraD D k) (nl D k) (nr D k)) := by unfold impliesDepF; rw [hera, hdk]; rfl
        clear hc hdk hera
        generalize hdl : nl D k = l at *
        generalize hdr : nr D k = r at *
        go_wp2_with fail
        cases himp : impF (eraD D k) l r
        · cases hrd : (reduceF n D l r == l)
          · have hr2 : (reduceF n D l r != l) = true := by simp [bne, hrd]
            refine wp_region_held_drew (S := fun w' => w'.cell? ⟨wr.heap.size, 0, none⟩ = some (.int .i64 l) ∧ w'.cell? ⟨wr.heap.size, 1, none⟩ = some (.int .i64 r) ∧ Below w.heap.size w w') (by kernel_rfl) ⟨cell_keep (box_at wr #[.int .i64 l, .int .i64 r] 36 0 _ rfl) (Below.refl _ _).drew, cell_keep (box_at wr #[.int .i64 l, .int .i64 r] 36 1 _ rfl) (Below.refl _ _).drew, (hb.alloc hb.size _).drew⟩ (fun hS => ?_)
            (refine wpAnyH_val (i := 0) (some 18) ?_ rfl rfl (by kernel_rfl) (by kernel_rfl) (by kernel_rfl) (fun _ _ _ h => h) (by rfl) (by assumption) ?_ ?_; rotate_left; (intro w hSw; go_simp; (try with_reducible rfl)); (try simp only [Act.put, List.setIfInBounds_toArray, List.set_cons_zero, List.set_cons_succ])); (refine wpAnyH_val (i := 1) (some 19) ?_ rfl rfl (by kernel_rfl) (by kernel_rfl) (by kernel_rfl) (fun _ _ _ h => h) (by rfl) (by assumption) ?_ ?_; rotate_left; (intro w hSw; go_simp; (try with_reducible rfl)); (try simp only [Act.put, List.setIfInBounds_toArray, List.set_cons_zero, List.set_cons_succ])); (refine wpAnyH_val (i := 3) (some 21) ?_ rfl rfl (by kernel_rfl) (by kernel_rfl) (by kernel_rfl) (fun _ _ _ h => h) (by rfl) (by assumption) ?_ ?_; rotate_left; (intro w hSw; go_simp; (try with_reducible rfl)); (try simp only [Act.put, List.setIfInBounds_toArray, List.set_cons_zero, List.set_cons_succ]))
            (refine wpAnyH_ready (rs := [2]) (by kernel_rfl) (by simp) ?_; refine AllReadyH.cons rfl (fun K hK => ?_) AllReadyH.nil; go_simp)
            refine (c_without _ _ _ _ _ (hD.keep hS.2.2) hcap hlt).mono ?_
            rintro e w1 ⟨v1, rfl, hO, hbn⟩
            obtain ⟨o1, c1, rfl⟩ := hO.shape
            have hL := hO.deps rfl hle
            clear hO
            refine hK.out _ _ ⟨cell_keep hS.1 hbn, cell_keep hS.2.1 hbn, bel_to hS.2.2 hbn⟩ (fun hS2 => ?_)
            clear hK hbn hS hb hc1 hc2
            (try simp only [Act.put, List.setIfInBounds_toArray, List.set_cons_zero, List.set_cons_succ])
            (refine wpAnyH_ready (rs := [4]) (by kernel_rfl) (by simp) ?_; refine AllReadyH.cons rfl (fun K hK => ?_) AllReadyH.nil; go_simp)
            refine Calls.mono (Ans.eqb (c_implies _ _ _ _ _ _ hL hv hl hr) himp) ?_
            rintro e w2 ⟨rfl, hbn⟩
            clear hL
            refine hK.out _ _ ⟨cell_keep hS2.1 hbn, cell_keep hS2.2.1 hbn, bel_to hS2.2.2 hbn⟩ (fun hS3 => ?_)
            clear hK hbn hS2
            (try simp only [Act.put, List.setIfInBounds_toArray, List.set_cons_zero, List.set_cons_succ])
            (refine wpAnyH_val (i := 5) (some 23) ?_ rfl rfl (by kernel_rfl) (by kernel_rfl) (by kernel_rfl) (fun _ _ _ h => h) (by rfl) (by assumption) ?_ ?_; rotate_left; (intro w hSw; go_simp; (try with_reducible rfl)); (try simp only [Act.put, List.setIfInBounds_toArray, List.set_cons_zero, List.set_cons_succ])); (refine wpAnyH_val (i := 6) (some 24) ?_ rfl rfl (by kernel_rfl) (by kernel_rfl) (by kernel_rfl) (fun _ _ _ h => h) (by rfl) (by assumption) ?_ ?_; rotate_left; (intro w hSw; go_simp; (try with_reducible rfl)); (try simp only [Act.put, List.setIfInBounds_toArray, List.set_cons_zero, List.set_cons_succ])); (refine wpAnyH_val (i := 7) (some 25) ?_ rfl rfl (by kernel_rfl) (by kernel_rfl) (by kernel_rfl) (fun _ _ _ h => h) (by rfl) (by assumption) ?_ ?_; rotate_left; (intro w hSw; go_simp; (try with_reducible rfl)); (try simp only [Act.put, List.setIfInBounds_toArray, List.set_cons_zero, List.set_cons_succ])); (refine wpAnyH_val (i := 8) (some 26) ?_ rfl rfl (by kernel_rfl) (by kernel_rfl) (by kernel_rfl) (fun _ _ _ h => h) (by rfl) (by assumption) ?_ ?_; rotate_left; (intro w hSw; go_simp; (try with_reducible rfl)); (try simp only [Act.put, List.setIfInBounds_toArray, List.set_cons_zero, List.set_cons_succ])); (refine wpAnyH_val (i := 10) (some 28) ?_ rfl rfl (by kernel_rfl) (by kernel_rfl) (by kernel_rfl) (fun _ _ _ h => h) (by rfl) (by assumption) ?_ ?_; rotate_left; (intro w hSw; go_simp; (try with_reducible rfl)); (try simp only [Act.put, List.setIfInBounds_toArray, List.set_cons_zero, List.set_cons_succ]))
            (refine wpAnyH_ready (rs := [9]) (by kernel_rfl) (by simp) ?_; refine AllReadyH.cons rfl (fun K hK => ?_) AllReadyH.nil; go_simp)
            refine Calls.mono (c_ReduceLeft _ _ _ _ _ _ _ (hD.keep hS3.2.2)) ?_
            rintro e w3 ⟨rfl, hbn⟩
            refine hK.out _ _ ⟨cell_keep hS3.1 hbn, cell_keep hS3.2.1 hbn, bel_to hS3.2.2 hbn⟩ (fun hS4 => ?_)
            clear hK hbn hS3
            (try simp only [Act.put, List.setIfInBounds_toArray, List.set_cons_zero, List.set_cons_succ])
            (refine wpAnyH_val (i := 11) (some 29) ?_ rfl rfl (by kernel_rfl) (by kernel_rfl) (by kernel_rfl) (fun _ _ _ h => h) (by rfl) (by assumption) ?_ ?_; rotate_left; (intro w hSw; go_simp; (try with_reducible rfl)); (try simp only [Act.put, List.setIfInBounds_toArray, List.set_cons_zero, List.set_cons_succ])); (refine wpAnyH_val (i := 12) (some 30) ?_ rfl rfl (by kernel_rfl) (by kernel_rfl) (by kernel_rfl) (fun _ _ _ h => h) (by rfl) (by assumption) ?_ ?_; rotate_left; (intro w hSw; go_simp; (try with_reducible rfl)); (try simp only [Act.put, List.setIfInBounds_toArray, List.set_cons_zero, List.set_cons_succ]))
            refine wpAnyH_done (by kernel_rfl) ?_ _
            try dsimp only [NoPanic, Exit.then]
            go_wp2
            go_ret
            exact ⟨ret_bool (by rw [HM.out, HF.out (by unfold coverBad; rw [hdl, hdr, hrd]; simp)]), hS4.2.2⟩
          · have hr2 : (reduceF n D l r != l) = false := by simp [bne, hrd]
            refine wp_region_held_drew (S := fun w' => w'.cell? ⟨wr.heap.size, 0, none⟩ = some (.int .i64 l) ∧ w'.cell? ⟨wr.heap.size, 1, none⟩ = some (.int .i64 r) ∧ Below w.heap.size w w') (by kernel_rfl) ⟨cell_keep (box_at wr #[.int .i64 l, .int .i64 r] 36 0 _ rfl) (Below.refl _ _).drew, cell_keep (box_at wr #[.int .i64 l, .int .i64 r] 36 1 _ rfl) (Below.refl _ _).drew, (hb.alloc hb.size _).drew⟩ (fun hS => ?_)
            (refine wpAnyH_val (i := 0) (some 18) ?_ rfl rfl (by kernel_rfl) (by kernel_rfl) (by kernel_rfl) (fun _ _ _ h => h) (by rfl) (by assumption) ?_ ?_; rotate_left; (intro w hSw; go_simp; (try with_reducible rfl)); (try simp only [Act.put, List.setIfInBounds_toArray, List.set_cons_zero, List.set_cons_succ])); (refine wpAnyH_val (i := 1) (some 19) ?_ rfl rfl (by kernel_rfl) (by kernel_rfl) (by kernel_rfl) (fun _ _ _ h => h) (by rfl) (by assumption) ?_ ?_; rotate_left; (intro w hSw; go_simp; (try with_reducible rfl)); (try simp only [Act.put, List.setIfInBounds_toArray, List.set_cons_zero, List.set_cons_succ])); (refine wpAnyH_val (i := 3) (some 21) ?_ rfl rfl (by kernel_rfl) (by kernel_rfl) (by kernel_rfl) (fun _ _ _ h => h) (by rfl) (by assumption) ?_ ?_; rotate_left; (intro w hSw; go_simp; (try with_reducible rfl)); (try simp only [Act.put, List.setIfInBounds_toArray, List.set_cons_zero, List.set_cons_succ]))
            (refine wpAnyH_ready (rs := [2]) (by kernel_rfl) (by simp) ?_; refine AllReadyH.cons rfl (fun K hK => ?_) AllReadyH.nil; go_simp)
            refine (c_without _ _ _ _ _ (hD.keep hS.2.2) hcap hlt).mono ?_
            rintro e w1 ⟨v1, rfl, hO, hbn⟩
            obtain ⟨o1, c1, rfl⟩ := hO.shape
            have hL := hO.deps rfl hle
            clear hO
            refine hK.out _ _ ⟨cell_keep hS.1 hbn, cell_keep hS.2.1 hbn, bel_to hS.2.2 hbn⟩ (fun hS2 => ?_)
            clear hK hbn hS hb hc1 hc2
            (try simp only [Act.put, List.setIfInBounds_toArray, List.set_cons_zero, List.set_cons_succ])
            (refine wpAnyH_ready (rs := [4]) (by kernel_rfl) (by simp) ?_; refine AllReadyH.cons rfl (fun K hK => ?_) AllReadyH.nil; go_simp)
            refine Calls.mono (Ans.eqb (c_implies _ _ _ _ _ _ hL hv hl hr) himp) ?_
            rintro e w2 ⟨rfl, hbn⟩
            clear hL
            refine hK.out _ _ ⟨cell_keep hS2.1 hbn, cell_keep hS2.2.1 hbn, bel_to hS2.2.2 hbn⟩ (fun hS3 => ?_)
            clear hK hbn hS2
            (try simp only [Act.put, List.setIfInBounds_toArray, List.set_cons_zero, List.set_cons_succ])
            (refine wpAnyH_val (i := 5) (some 23) ?_ rfl rfl (by kernel_rfl) (by kernel_rfl) (by kernel_rfl) (fun _ _ _ h => h) (by rfl) (by assumption) ?_ ?_; rotate_left; (intro w hSw; go_simp; (try with_reducible rfl)); (try simp only [Act.put, List.setIfInBounds_toArray, List.set_cons_zero, List.set_cons_succ])); (refine wpAnyH_val (i := 6) (some 24) ?_ rfl rfl (by kernel_rfl) (by kernel_rfl) (by kernel_rfl) (fun _ _ _ h => h) (by rfl) (by assumption) ?_ ?_; rotate_left; (intro w hSw; go_simp; (try with_reducible rfl)); (try simp only [Act.put, List.setIfInBounds_toArray, List.set_cons_zero, List.set_cons_succ])); (refine wpAnyH_val (i := 7) (some 25) ?_ rfl rfl (by kernel_rfl) (by kernel_rfl) (by kernel_rfl) (fun _ _ _ h => h) (by rfl) (by assumption) ?_ ?_; rotate_left; (intro w hSw; go_simp; (try with_reducible rfl)); (try simp only [Act.put, List.setIfInBounds_toArray, List.set_cons_zero, List.set_cons_succ])); (refine wpAnyH_val (i := 8) (some 26) ?_ rfl rfl (by kernel_rfl) (by kernel_rfl) (by kernel_rfl) (fun _ _ _ h => h) (by rfl) (by assumption) ?_ ?_; rotate_left; (intro w hSw; go_simp; (try with_reducible rfl)); (try simp only [Act.put, List.setIfInBounds_toArray, List.set_cons_zero, List.set_cons_succ])); (refine wpAnyH_val (i := 10) (some 28) ?_ rfl rfl (by kernel_rfl) (by kernel_rfl) (by kernel_rfl) (fun _ _ _ h => h) (by rfl) (by assumption) ?_ ?_; rotate_left; (intro w hSw; go_simp; (try with_reducible rfl)); (try simp only [Act.put, List.setIfInBounds_toArray, List.set_cons_zero, List.set_cons_succ]))
            (refine wpAnyH_ready (rs := [9]) (by kernel_rfl) (by simp) ?_; refine AllReadyH.cons rfl (fun K hK => ?_) AllReadyH.nil; go_simp)
            refine Calls.mono (c_ReduceLeft _ _ _ _ _ _ _ (hD.keep hS3.2.2)) ?_
            rintro e w3 ⟨rfl, hbn⟩
            refine hK.out _ _ ⟨cell_keep hS3.1 hbn, cell_keep hS3.2.1 hbn, bel_to hS3.2.2 hbn⟩ (fun hS4 => ?_)
            clear hK hbn hS3
            (try simp only [Act.put, List.setIfInBounds_toArray, List.set_cons_zero, List.set_cons_succ])
            (refine wpAnyH_val (i := 11) (some 29) ?_ rfl rfl (by kernel_rfl) (by kernel_rfl) (by kernel_rfl) (fun _ _ _ h => h) (by rfl) (by assumption) ?_ ?_; rotate_left; (intro w hSw; go_simp; (try with_reducible rfl)); (try simp only [Act.put, List.setIfInBounds_toArray, List.set_cons_zero, List.set_cons_succ])); (refine wpAnyH_val (i := 12) (some 30) ?_ rfl rfl (by kernel_rfl) (by kernel_rfl) (by kernel_rfl) (fun _ _ _ h => h) (by rfl) (by assumption) ?_ ?_; rotate_left; (intro w hSw; go_simp; (try with_reducible rfl)); (try simp only [Act.put, List.setIfInBounds_toArray, List.set_cons_zero, List.set_cons_succ]))
            refine wpAnyH_done (by kernel_rfl) ?_ _
            try dsimp only [NoPanic, Exit.then]
            go_wp2
            go_roundw
            case rel => exact ⟨k + 1, by go_num, by omega, by rw [HT.out, HA.out]; unfold coverBad; rw [hdl, hdr, HI.out, himp, hrd]; rfl, hS4.2.2⟩
            case measure => simp [intOf]; omega
        · refine wp_region_held_drew (S := fun w' => w'.cell? ⟨wr.heap.size, 0, none⟩ = some (.int .i64 l) ∧ w'.cell? ⟨wr.heap.size, 1, none⟩ = some (.int .i64 r) ∧ Below w.heap.size w w') (by kernel_rfl) ⟨cell_keep (box_at wr #[.int .i64 l, .int .i64 r] 36 0 _ rfl) (Below.refl _ _).drew, cell_keep (box_at wr #[.int .i64 l, .int .i64 r] 36 1 _ rfl) (Below.refl _ _).drew, (hb.alloc hb.size _).drew⟩ (fun hS => ?_)
          (refine wpAnyH_val (i := 0) (some 18) ?_ rfl rfl (by kernel_rfl) (by kernel_rfl) (by kernel_rfl) (fun _ _ _ h => h) (by rfl) (by assumption) ?_ ?_; rotate_left; (intro w hSw; go_simp; (try with_reducible rfl)); (try simp only [Act.put, List.setIfInBounds_toArray, List.set_cons_zero, List.set_cons_succ])); (refine wpAnyH_val (i := 1) (some 19) ?_ rfl rfl (by kernel_rfl) (by kernel_rfl) (by kernel_rfl) (fun _ _ _ h => h) (by rfl) (by assumption) ?_ ?_; rotate_left; (intro w hSw; go_simp; (try with_reducible rfl)); (try simp only [Act.put, List.setIfInBounds_toArray, List.set_cons_zero, List.set_cons_succ])); (refine wpAnyH_val (i := 3) (some 21) ?_ rfl rfl (by kernel_rfl) (by kernel_rfl) (by kernel_rfl) (fun _ _ _ h => h) (by rfl) (by assumption) ?_ ?_; rotate_left; (intro w hSw; go_simp; (try with_reducible rfl)); (try simp only [Act.put, List.setIfInBounds_toArray, List.set_cons_zero, List.set_cons_succ]))
          (refine wpAnyH_ready (rs := [2]) (by kernel_rfl) (by simp) ?_; refine AllReadyH.cons rfl (fun K hK => ?_) AllReadyH.nil; go_simp)
          refine (c_without _ _ _ _ _ (hD.keep hS.2.2) hcap hlt).mono ?_
          rintro e w1 ⟨v1, rfl, hO, hbn⟩
          obtain ⟨o1, c1, rfl⟩ := hO.shape
          have hL := hO.deps rfl hle
          clear hO
          refine hK.out _ _ ⟨cell_keep hS.1 hbn, cell_keep hS.2.1 hbn, bel_to hS.2.2 hbn⟩ (fun hS2 => ?_)
          clear hK hbn hS hb hc1 hc2
          (try simp only [Act.put, List.setIfInBounds_toArray, List.set_cons_zero, List.set_cons_succ])
          (refine wpAnyH_ready (rs := [4]) (by kernel_rfl) (by simp) ?_; refine AllReadyH.cons rfl (fun K hK => ?_) AllReadyH.nil; go_simp)
          refine Calls.mono (Ans.eqb (c_implies _ _ _ _ _ _ hL hv hl hr) himp) ?_
          rintro e w2 ⟨rfl, hbn⟩
          clear hL
          refine hK.out _ _ ⟨cell_keep hS2.1 hbn, cell_keep hS2.2.1 hbn, bel_to hS2.2.2 hbn⟩ (fun hS3 => ?_)
          clear hK hbn hS2
          (try simp only [Act.put, List.setIfInBounds_toArray, List.set_cons_zero, List.set_cons_succ])
          (refine wpAnyH_val (i := 5) (some 23) ?_ rfl rfl (by kernel_rfl) (by kernel_rfl) (by kernel_rfl) (fun _ _ _ h => h) (by rfl) (by assumption) ?_ ?_; rotate_left; (intro w hSw; go_simp; (try with_reducible rfl)); (try simp only [Act.put, List.setIfInBounds_toArray, List.set_cons_zero, List.set_cons_succ])); (refine wpAnyH_skip (i := 6) (some 24) rfl rfl (by kernel_rfl) (by kernel_rfl) (by kernel_rfl) (fun _ _ _ h => h) (by rfl) (by assumption) ?_; (try simp only [Act.put, List.setIfInBounds_toArray, List.set_cons_zero, List.set_cons_succ])); (refine wpAnyH_skip (i := 7) (some 25) rfl rfl (by kernel_rfl) (by kernel_rfl) (by kernel_rfl) (fun _ _ _ h => h) (by rfl) (by assumption) ?_; (try simp only [Act.put, List.setIfInBounds_toArray, List.set_cons_zero, List.set_cons_succ])); (refine wpAnyH_skip (i := 8) (some 26) rfl rfl (by kernel_rfl) (by kernel_rfl) (by kernel_rfl) (fun _ _ _ h => h) (by rfl) (by assumption) ?_; (try simp only [Act.put, List.setIfInBounds_toArray, List.set_cons_zero, List.set_cons_succ])); (refine wpAnyH_skip (i := 9) (some 27) rfl rfl (by kernel_rfl) (by kernel_rfl) (by kernel_rfl) (fun _ _ _ h => h) (by rfl) (by assumption) ?_; (try simp only [Act.put, List.setIfInBounds_toArray, List.set_cons_zero, List.set_cons_succ])); (refine wpAnyH_skip (i := 10) (some 28) rfl rfl (by kernel_rfl) (by kernel_rfl) (by kernel_rfl) (fun _ _ _ h => h) (by rfl) (by assumption) ?_; (try simp only [Act.put, List.setIfInBounds_toArray, List.set_cons_zero, List.set_cons_succ])); (refine wpAnyH_skip (i := 11) (some 29) rfl rfl (by kernel_rfl) (by kernel_rfl) (by kernel_rfl) (fun _ _ _ h => h) (by rfl) (by assumption) ?_; (try simp only [Act.put, List.setIfInBounds_toArray, List.set_cons_zero, List.set_cons_succ])); (refine wpAnyH_val (i := 12) (some 30) ?_ rfl rfl (by kernel_rfl) (by kernel_rfl) (by kernel_rfl) (fun _ _ _ h => h) (by rfl) (by assumption) ?_ ?_; rotate_left; (intro w hSw; go_simp; (try with_reducible rfl)); (try simp only [Act.put, List.setIfInBounds_toArray, List.set_cons_zero, List.set_cons_succ]))
          refine wpAnyH_done (by kernel_rfl) ?_ _
          try dsimp only [NoPanic, Exit.then]
          go_wp2
          go_ret
          exact ⟨ret_bool (by rw [HM.out, HF.out (by unfold coverBad; rw [hdl, hdr, HI.out, himp]; rfl)]), hS3.2.2⟩
      · have hkk : k = D.length := by omega
        have HS : Hid (((List.range D.length).all fun i => !coverBad n D i) = true) := by rw [← hkk]; exact HA.out
        clear hkk
        go_wp2
        go_ret
        exact ⟨ret_bool (by rw [HM.out, HS.out]), hb⟩
end Go.Proofs.Ytmdkbookcgkpaaa
