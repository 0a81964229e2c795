/- MinimalSets of the reference. -/
import Derived.Test.YtkanbnbofoabeaaMin3
namespace Go.Proofs.Ytkanbnbofoabeaa
open Go.RowKit
set_option linter.unusedVariables false
set_option maxRecDepth 100000

theorem min_step {L : List Int} {k : Nat} (hk : k < L.length) (hs : St (nth L k)) :
    flt (fun y => inB' (L.take (k + 1)) y && minB L y) 32 = (if minB L (nth L k) then putF (flt (fun y => inB' (L.take k) y && minB L y) 32) (nth L k) else flt (fun y => inB' (L.take k) y && minB L y) 32) := by
  have e : ∀ y, inB' (L.take (k + 1)) y = (inB' (L.take k) y || y == nth L k) := fun y => by
    unfold inB'
    rw [List.take_add_one, nth_eq hk]
    simp [Bool.decide_or]
    rfl
  split
  · next h =>
    rw [putF_flt _ hs]
    congr 1
    funext y
    rw [e]
    cases hy : (y == nth L k)
    · simp
    · have : y = nth L k := by simpa using hy
      rw [this, h]; simp
  · next h =>
    congr 1
    funext y
    rw [e]
    cases hy : (y == nth L k)
    · simp
    · have : y = nth L k := by simpa using hy
      rw [this]
      simp only [Bool.not_eq_true] at h
      rw [h]; simp
set_option maxHeartbeats 1600000 in
theorem c_specMinimalSets (oa) (cap : Nat) (L : List Int) (w : World) (hL : IntsAt w oa L) :
    Calls Try.prog 103 #[.slice oa L.length cap] w fun e w' => ∃ v, e = .returned v ∧ OwnI w' w.heap.size v (minF L) ∧ Below w.heap.size w w' := by
  obtain ⟨i0, hi, hz0, hz1, hz2⟩ := info_parts info_int
  have hn : L.length ≤ 1073741824 := hL.len
  have hb := (Below.refl w.heap.size w).alloc (Nat.le_refl _) (.cells #[] 3)
  have hI := OwnI.empty w w.heap.size (Nat.le_refl _)
  cases hs : (setsF L && decide (L.length ≤ 100))
  · have HM : Hid (minF L = []) := by show minF L = []; unfold minF; rw [hs]; rfl
    go_enter Try.func103, Try.ntmps103
    go_wp2
    go_loopw [3, 4] (fun v i wr => i = .int .i64 0 ∧ OwnI wr w.heap.size v [] ∧ Below w.heap.size w wr) (fun _ _ _ => 0)
    case atStart => exact ⟨rfl, hI, hb⟩
    case round =>
      clear hI hb
      obtain ⟨rfl, hI, hb⟩ := hrel
      by_cases h0 : 0 < L.length
      · go_wp2_with (first | (go_at_call 138; refine Calls.mono (Ans.eqb (c_l4Sets _ _ _ _ (hL.keep hb)) hs) ?_; rintro e w1 ⟨rfl, hbn⟩; replace hI := hI.keep hbn; replace hb := bel_to (w := w) (by first | exact hb | exact hb.alloc hb.size _ | exact (hb.alloc hb.size _).alloc (Nat.le_trans hb.size (by simp)) _ | exact hb.setCell (by simp [hb.size]) _) hbn; clear hbn))
        go_ret
        exact ⟨_, rfl, by rw [HM.out]; exact hI, hb⟩
      · go_wp2
        go_ret
        exact ⟨_, rfl, by rw [HM.out]; exact hI, hb⟩
  · have hs' : setsF L = true ∧ L.length ≤ 100 := by simpa using hs
    have hsm := setsF_mem hs'.1
    have HM : Hid (minF L = flt (fun x => inB' L x && minB L x) 32) := minF_sets hs'.1 hs'.2
    go_enter Try.func103, Try.ntmps103
    go_wp2
    go_loopw [3, 4] (fun v i wr => ∃ k : Nat, i = .int .i64 k ∧ k ≤ L.length ∧ OwnI wr w.heap.size v (flt (fun y => inB' (L.take k) y && minB L y) 32) ∧ Below w.heap.size w wr) (fun _ i _ => L.length - (intOf i).toNat)
    case atStart =>
      have e : flt (fun y => inB' (L.take 0) y && minB L y) 32 = [] := by unfold flt inB'; simp
      exact ⟨0, rfl, Nat.zero_le _, by rw [e]; exact hI, hb⟩
    case round =>
      clear hI hb
      obtain ⟨k, rfl, hk, hI, hb⟩ := hrel
      by_cases hlt : k < L.length
      · have hst : St (nth L k) := hsm _ (List.mem_iff_getElem?.2 ⟨k, nth_eq hlt⟩)
        have HS := (show Hid _ from min_step hlt hst)
        have hfl : (flt (fun y => inB' (L.take k) y && minB L y) 32).length ≤ 32 := flt_le _ _
        obtain ⟨b1, off1, rfl, hbs1, hc1⟩ := hL.at_ (by omega)
        have hd1 := hc1 k hlt
        have HC : Hid (∀ k, k < L.length → w.cell? ⟨b1, off1 + k, none⟩ = some (.int .i64 (nth L k))) := hc1
        clear hc1
        generalize flt (fun y => inB' (L.take k) y && minB L y) 32 = F at *
        generalize hx : nth L k = x at *
        go_wp2_with (first | (go_at_call 138; refine Calls.mono (Ans.eqb (c_l4Sets _ _ _ _ (hL.keep hb)) hs) ?_; rintro e w1 ⟨rfl, hbn⟩; replace hI := hI.keep hbn; replace hb := bel_to (w := w) (by first | exact hb | exact hb.alloc hb.size _ | exact (hb.alloc hb.size _).alloc (Nat.le_trans hb.size (by simp)) _ | exact hb.setCell (by simp [hb.size]) _) hbn; clear hbn))
        go_loopw [5, 6] (fun b i wr => ∃ j : Nat, i = .int .i64 j ∧ j ≤ L.length ∧ b = .bool ((L.take j).all fun y => (y == x) || !(bits BinOp.and .i64 x y == y)) ∧ OwnI wr w.heap.size u3 F ∧ Below w.heap.size w wr) (fun _ i _ => L.length - (intOf i).toNat)
        case atStart => exact ⟨0, rfl, Nat.zero_le _, by simp, hI, hb⟩
        case round =>
          clear hI hb
          obtain ⟨j, rfl, hj, rfl, hI, hb⟩ := hrel
          have hc2 := cell_keep hd1 hb
          by_cases hlj : j < L.length
          · have hc3 := cell_keep (HC.out j hlj) hb
            have HT : Hid ((L.take (j + 1)).all (fun y => (y == x) || !(bits BinOp.and .i64 x y == y)) = ((L.take j).all (fun y => (y == x) || !(bits BinOp.and .i64 x y == y)) && ((nth L j == x) || !(bits BinOp.and .i64 x (nth L j) == nth L j)))) := all_take_succ (fun y => (y == x) || !(bits BinOp.and .i64 x y == y)) L j hlj
            generalize hy : nth L j = y at *
            generalize (L.take j).all (fun y => (y == x) || !(bits BinOp.and .i64 x y == y)) = A at *
            cases A
            · go_wp2_with fail
              (refine wp_region_after (by kernel_rfl) (by kernel_rfl) ?_; have q_hc2 := fun (x : After _) => cell_keep hc2 x.bel; have q_hc3 := fun (x : After _) => cell_keep hc3 x.bel; (repeat (go_big_quiet_step (fail))); clear q_hc2; clear q_hc3; refine wpQuiet_nil ?_; rintro _ ⟨⟨w1, hbn⟩, rfl⟩; (try simp only [After.w]); replace hc2 := cell_keep hc2 hbn; replace hc3 := cell_keep hc3 hbn; replace hI := hI.keep hbn; replace hb := bel_to (w := w) (by first | exact hb | exact hb.alloc hb.size _ | exact (hb.alloc hb.size _).alloc (Nat.le_trans hb.size (by simp)) _ | exact hb.setCell (by simp [hb.size]) _) hbn; clear hbn)
              go_wp2
              go_roundw
              case rel => exact ⟨j + 1, by go_num, by omega, by rw [HT.out]; rfl, hI, hb⟩
              case measure => simp [intOf]; omega
            · cases hxy : (y == x)
              · cases hin : (bits BinOp.and .i64 x y == y)
                · have hin2 : (bits BinOp.and .i64 x y != y) = true := by rw [bneI, hin]; rfl
                  go_wp2_with fail
                  (refine wp_region_after (by kernel_rfl) (by kernel_rfl) ?_; have q_hc2 := fun (x : After _) => cell_keep hc2 x.bel; have q_hc3 := fun (x : After _) => cell_keep hc3 x.bel; (repeat (go_big_quiet_step (fail))); clear q_hc2; clear q_hc3; refine wpQuiet_nil ?_; rintro _ ⟨⟨w1, hbn⟩, rfl⟩; (try simp only [After.w]); replace hc2 := cell_keep hc2 hbn; replace hc3 := cell_keep hc3 hbn; replace hI := hI.keep hbn; replace hb := bel_to (w := w) (by first | exact hb | exact hb.alloc hb.size _ | exact (hb.alloc hb.size _).alloc (Nat.le_trans hb.size (by simp)) _ | exact hb.setCell (by simp [hb.size]) _) hbn; clear hbn)
                  go_wp2
                  go_roundw
                  case rel => exact ⟨j + 1, by go_num, by omega, by rw [HT.out, hxy, hin]; rfl, hI, hb⟩
                  case measure => simp [intOf]; omega
                · have hin2 : (bits BinOp.and .i64 x y != y) = false := by rw [bneI, hin]; rfl
                  go_wp2_with fail
                  (refine wp_region_after (by kernel_rfl) (by kernel_rfl) ?_; have q_hc2 := fun (x : After _) => cell_keep hc2 x.bel; have q_hc3 := fun (x : After _) => cell_keep hc3 x.bel; (repeat (go_big_quiet_step (fail))); clear q_hc2; clear q_hc3; refine wpQuiet_nil ?_; rintro _ ⟨⟨w1, hbn⟩, rfl⟩; (try simp only [After.w]); replace hc2 := cell_keep hc2 hbn; replace hc3 := cell_keep hc3 hbn; replace hI := hI.keep hbn; replace hb := bel_to (w := w) (by first | exact hb | exact hb.alloc hb.size _ | exact (hb.alloc hb.size _).alloc (Nat.le_trans hb.size (by simp)) _ | exact hb.setCell (by simp [hb.size]) _) hbn; clear hbn)
                  go_wp2
                  go_roundw
                  case rel => exact ⟨j + 1, by go_num, by omega, by rw [HT.out, hxy, hin]; rfl, hI, hb⟩
                  case measure => simp [intOf]; omega
              · go_wp2_with fail
                (refine wp_region_after (by kernel_rfl) (by kernel_rfl) ?_; have q_hc2 := fun (x : After _) => cell_keep hc2 x.bel; have q_hc3 := fun (x : After _) => cell_keep hc3 x.bel; (repeat (go_big_quiet_step (fail))); clear q_hc2; clear q_hc3; refine wpQuiet_nil ?_; rintro _ ⟨⟨w1, hbn⟩, rfl⟩; (try simp only [After.w]); replace hc2 := cell_keep hc2 hbn; replace hc3 := cell_keep hc3 hbn; replace hI := hI.keep hbn; replace hb := bel_to (w := w) (by first | exact hb | exact hb.alloc hb.size _ | exact (hb.alloc hb.size _).alloc (Nat.le_trans hb.size (by simp)) _ | exact hb.setCell (by simp [hb.size]) _) hbn; clear hbn)
                go_wp2
                go_roundw
                case rel => exact ⟨j + 1, by go_num, by omega, by rw [HT.out, hxy]; rfl, hI, hb⟩
                case measure => simp [intOf]; omega
          · have hjj : j = L.length := by omega
            have HA : Hid ((L.take j).all (fun y => (y == x) || !(bits BinOp.and .i64 x y == y)) = minB L x) := by
              show (L.take j).all (fun y => (y == x) || !(bits BinOp.and .i64 x y == y)) = minB L x
              rw [hjj, List.take_length]; exact minB_same L hsm x hst
            clear hjj
            generalize (L.take j).all (fun y => (y == x) || !(bits BinOp.and .i64 x y == y)) = A at *
            cases A
            · go_wp2
              go_roundw
              case rel => exact ⟨k + 1, by go_num, by omega, by rw [HS.out, ← HA.out]; simpa using hI, hb⟩
              case measure => simp [intOf]; omega
            · obtain ⟨oF, cF, rfl⟩ := hI.shape
              go_wp2_with (first | (go_at_call 139; refine (c_l4Put _ _ _ _ _ _ (by omega) hI hb.size).mono ?_; rintro e w1 ⟨v1, rfl, hI1, hbn⟩; replace hb := bel_to hb hbn; replace hI := hI1; clear hI1 hbn) | fail)
              go_roundw
              case rel => exact ⟨k + 1, by go_num, by omega, by rw [HS.out, ← HA.out]; exact hI, hb⟩
              case measure => simp [intOf]; omega
      · have hkk : k = L.length := by omega
        have HF : Hid (flt (fun y => inB' (L.take k) y && minB L y) 32 = flt (fun y => inB' L y && minB L y) 32) := by
          show flt (fun y => inB' (L.take k) y && minB L y) 32 = flt (fun y => inB' L y && minB L y) 32
          rw [hkk, List.take_length]
        clear hkk
        go_wp2
        go_ret
        exact ⟨_, rfl, by rw [HM.out, ← HF.out]; exact hI, hb⟩
end Go.Proofs.Ytkanbnbofoabeaa
