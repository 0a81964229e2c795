/- Contracts and lemmas for FnCovers, part 2 of 6. -/
import Derived.Test.YtcenndlbhgfdfaaGreatQFnCovers1
import Derived.Deep.RegionHeld3
namespace Go.Proofs.YtcenndlbhgfdfaaGreat
open Go.RowKit
set_option linter.unusedVariables false
set_option maxRecDepth 100000

/-- x is maximal in L -/
def maxB (L : List Int) (x : Int) : Bool := L.all fun y => (x == y) || !ins x y
def maxF (L : List Int) : List Int := if setsF L && decide (L.length ≤ 100) then flt (fun x => inB' L x && maxB L x) 32 else []
theorem maxF_sets {L : List Int} (h : setsF L = true) (hl : L.length ≤ 100) : maxF L = flt (fun x => inB' L x && maxB L x) 32 := by
  unfold maxF; rw [h]; simp [hl]
theorem maxF_filter {L : List Int} (h : setsF L = true) (hl : L.length ≤ 100) : maxF L = (distinctF L).filter (maxB L) := by
  rw [maxF_sets h hl, distinctF_flt (setsF_mem h), flt_filter]
theorem maxF_len (L : List Int) : (maxF L).length ≤ 32 := by
  unfold maxF
  split
  · exact flt_le _ _
  · simp
theorem maxF_st {L : List Int} : ∀ x ∈ maxF L, St x := by
  unfold maxF
  split
  · intro x hx; have := (flt_mem.1 hx).1; exact ⟨by omega, by omega⟩
  · intro x hx; cases hx
theorem maxB_same (L : List Int) (h : ∀ x ∈ L, St x) (x : Int) (hx : St x) : (L.all fun y => (y == x) || !(bits BinOp.and .i64 x y == x)) = maxB L x := by
  unfold maxB
  rw [Bool.eq_iff_iff, List.all_eq_true, List.all_eq_true]
  have e : ∀ y ∈ L, ((y == x) || !(bits BinOp.and .i64 x y == x)) = ((x == y) || !ins x y) := fun y hy => by
    obtain ⟨n, hn, rfl⟩ := st_nat hx; obtain ⟨m, hm, rfl⟩ := st_nat (h y hy)
    have h' : ∀ n < 32, ∀ m < 32, ((((m : Nat) : Int) == ((n : Nat) : Int)) || !(bits BinOp.and .i64 ((n : Nat) : Int) ((m : Nat) : Int) == ((n : Nat) : Int))) = ((((n : Nat) : Int) == ((m : Nat) : Int)) || !ins (n : Nat) (m : Nat)) := by decide +kernel
    exact h' n hn m hm
  exact ⟨fun H y hy => by rw [← e y hy]; exact H y hy, fun H y hy => by rw [e y hy]; exact H y hy⟩
set_option maxHeartbeats 1600000 in
theorem c_MaximalSets (oa) (cap : Nat) (L : List Int) (w : World) (hL : IntsAt w oa L) (hnil : oa = none → cap = 0) :
    Calls Tryz.prog 68 #[.slice oa L.length cap] w fun e w' => ∃ v, e = .returned v ∧ OwnI w' w.heap.size v (maxF L) ∧ Below w.heap.size w w' := by
  obtain ⟨i0, hi, hz0, hz1, hz2⟩ := info_parts info_int
  have hn : L.length ≤ 1073741824 := hL.len
  have hb := (Below.refl w.heap.size w).alloc (Nat.le_refl _) (.cells #[] 3)
  have hI := OwnI.empty w w.heap.size (Nat.le_refl _)
  cases hs : (setsF L && decide (L.length ≤ 100))
  · have HM : Hid (maxF L = []) := by show maxF L = []; unfold maxF; rw [hs]; rfl
    go_enter Tryz.func68, Tryz.ntmps68
    go_wp2_with (first | (go_at_call 100; refine Calls.mono (Ans.eqb (c_areSets _ _ _ _ (hL.keep hb)) hs) ?_; rintro e w1 ⟨rfl, hbn⟩; replace hI := hI.keep hbn; replace hb := bel_to (w := w) (by first | exact hb | exact hb.alloc hb.size _ | exact (hb.alloc hb.size _).alloc (Nat.le_trans hb.size (by simp)) _ | exact hb.setCell (by simp [hb.size]) _) hbn; clear hbn))
    go_ret
    exact ⟨_, rfl, by rw [HM.out]; exact hI, hb⟩
  · have hs' : setsF L = true ∧ L.length ≤ 100 := by simpa using hs
    have HM : Hid (maxF L = (distinctF L).filter (maxB L)) := maxF_filter hs'.1 hs'.2
    have hml : (distinctF L).length ≤ 32 := by rw [distinctF_flt (setsF_mem hs'.1)]; exact flt_le _ _
    go_enter Tryz.func68, Tryz.ntmps68
    go_wp2_with (first | (go_at_call 100; refine Calls.mono (Ans.eqb (c_areSets _ _ _ _ (hL.keep hb)) hs) ?_; rintro e w1 ⟨rfl, hbn⟩; replace hI := hI.keep hbn; replace hb := bel_to (w := w) (by first | exact hb | exact hb.alloc hb.size _ | exact (hb.alloc hb.size _).alloc (Nat.le_trans hb.size (by simp)) _ | exact hb.setCell (by simp [hb.size]) _) hbn; clear hbn))
    have old := hI
    refine (c_distinct _ _ _ _ (hL.keep hb) hnil).mono ?_
    rintro e w1 ⟨v1, rfl, hM, hbn⟩
    have ap_hM := (apart_old old hM).symm
    replace hI := hI.keep hbn
    replace hM := hM.based hb.size
    replace hb := bel_to hb hbn
    clear old hbn
    generalize distinctF L = M at *
    obtain ⟨o1, c1, rfl⟩ := hM.shape
    go_wp2
    go_loopw [3, 17] (fun v i wr => ∃ k : Nat, i = .int .i64 k ∧ k ≤ M.length ∧ OwnI wr w.heap.size v ((M.take k).filter (maxB L)) ∧ OwnI wr w.heap.size (.slice o1 M.length c1) M ∧ Apart (.slice o1 M.length c1) v ∧ Below w.heap.size w wr) (fun _ i _ => M.length - (intOf i).toNat)
    case atStart => exact ⟨0, rfl, Nat.zero_le _, by simpa using hI, hM, ap_hM, hb⟩
    case round =>
      clear hI hM ap_hM hb
      obtain ⟨k, rfl, hk, hI, hM, ap_hM, hb⟩ := hrel
      by_cases hlt : k < M.length
      · have HS : Hid ((M.take (k + 1)).filter (maxB L) = (M.take k).filter (maxB L) ++ (if maxB L (nth M k) then [nth M k] else [])) := filter_take_succ _ _ _ hlt
        have hfl : ((M.take k).filter (maxB L)).length ≤ 32 := by
          have := List.length_filter_le (maxB L) (M.take k)
          rw [List.length_take] at this
          omega
        obtain ⟨b1, off1, rfl, hbs1, hca⟩ := (hM.ints rfl (by unfold Room; omega)).at_ (by omega)
        have hc1 := hca k hlt
        clear hca
        generalize nth M k = x at *
        generalize (M.take k).filter (maxB L) = F at *
        go_wp2
        go_loopw [6, 23] (fun b i wr => ∃ j : Nat, i = .int .i64 j ∧ j ≤ L.length ∧ b = .bool ((L.take j).all fun y => (x == y) || !ins x y) ∧ OwnI wr w.heap.size u3 F ∧ OwnI wr w.heap.size (.slice (some ⟨b1, off1, none⟩) M.length c1) M ∧ Below w.heap.size w wr) (fun _ i _ => L.length - (intOf i).toNat)
        case atStart => exact ⟨0, rfl, Nat.zero_le _, by simp, hI, hM, hb⟩
        case round =>
          clear hI hM hb hc1
          obtain ⟨j, rfl, hj, rfl, hI, hM, hb⟩ := hrel
          by_cases hlj : j < L.length
          · obtain ⟨b2, off2, rfl, hbs2, hc⟩ := hL.at_ (by omega)
            have hc2 := cell_keep (hc j hlj) hb
            have HT : Hid ((L.take (j + 1)).all (fun y => (x == y) || !ins x y) = ((L.take j).all (fun y => (x == y) || !ins x y) && ((x == nth L j) || !ins x (nth L j)))) := all_take_succ (fun y => (x == y) || !ins x y) L j hlj
            clear hc
            generalize (L.take j).all (fun y => (x == y) || !ins x y) = A at *
            cases A
            · go_wp2
              go_roundw
              case rel => exact ⟨j + 1, by go_num, by omega, by rw [HT.out]; rfl, hI, hM, hb⟩
              case measure => simp [intOf]; omega
            · cases hxy : (x == nth L j)
              · cases hin : ins x (nth L j)
                · go_wp2_with (first | (go_at_call 89; refine Calls.mono (Ans.eqb (c_inside _ _ _) hin) ?_; rintro e w1 ⟨rfl, hbn⟩; replace hI := hI.keep hbn; replace hM := hM.keep hbn; replace hb := bel_to (w := w) (by first | exact hb | exact hb.alloc hb.size _ | exact (hb.alloc hb.size _).alloc (Nat.le_trans hb.size (by simp)) _ | exact hb.setCell (by simp [hb.size]) _) hbn; clear hbn))
                  go_roundw
                  case rel => exact ⟨j + 1, by go_num, by omega, by rw [HT.out, hxy, hin]; rfl, hI, hM, hb⟩
                  case measure => simp [intOf]; omega
                · go_wp2_with (first | (go_at_call 89; refine Calls.mono (Ans.eqb (c_inside _ _ _) hin) ?_; rintro e w1 ⟨rfl, hbn⟩; replace hI := hI.keep hbn; replace hM := hM.keep hbn; replace hb := bel_to (w := w) (by first | exact hb | exact hb.alloc hb.size _ | exact (hb.alloc hb.size _).alloc (Nat.le_trans hb.size (by simp)) _ | exact hb.setCell (by simp [hb.size]) _) hbn; clear hbn))
                  go_roundw
                  case rel => exact ⟨j + 1, by go_num, by omega, by rw [HT.out, hxy, hin]; rfl, hI, hM, hb⟩
                  case measure => simp [intOf]; omega
              · go_wp2
                go_roundw
                case rel => exact ⟨j + 1, by go_num, by omega, by rw [HT.out, hxy]; rfl, hI, hM, hb⟩
                case measure => simp [intOf]; omega
          · have hjj : j = L.length := by omega
            have HA : Hid ((L.take j).all (fun y => (x == y) || !ins x y) = maxB L x) := by
              show (L.take j).all (fun y => (x == y) || !ins x y) = maxB L x
              rw [hjj, List.take_length]; rfl
            clear hjj
            generalize (L.take j).all (fun y => (x == y) || !ins x y) = A at *
            cases A
            · go_wp2
              go_roundw
              case rel => exact ⟨k + 1, by go_num, by omega, by rw [HS.out, ← HA.out]; simpa using hI, hM, ap_hM, hb⟩
              case measure => simp [intOf]; omega
            · go_wp2_with (first | (at_builtin; refine wpList_append_fresh rfl _ _ 50 rfl w.heap.size 3 i0 (.int .i64 0) 1 8 Tryz.underlying50 hi hz0 hz1 hz2 rfl (by decide) _ _ _ rfl (World.ownsRow.alloc hI _) _ 1 1 [.int .i64 (x)] rfl rfl (by intro j u hj; match j, hj with | 0, hj => simp at hj; subst hj; simp [Addr.add]) (by intro u hu; simp at hu; subst hu; rfl) (by unfold maxLen; omega) (by omega) (by have := hb.size; simp; omega) ?_; intro v' w1 hown hgrow hfr; replace hb := (hb.alloc hb.size _).grown hgrow (by have := hb.size; simp; omega) (fun g hg => (World.ownsRow.lt hI g hg).1); obtain ⟨hM, ap_hM⟩ := OwnI.past hM hgrow ap_hM hfr; replace hI := OwnI.snoc hown; clear hown hgrow hfr) | fail)
              go_roundw
              case rel => exact ⟨k + 1, by go_num, by omega, by rw [HS.out, ← HA.out]; exact hI, hM, ap_hM, hb⟩
              case measure => simp [intOf]; omega
      · have hkk : k = M.length := by omega
        have HF : Hid ((M.take k).filter (maxB L) = M.filter (maxB L)) := by
          show (M.take k).filter (maxB L) = M.filter (maxB L)
          rw [hkk, List.take_length]
        clear hkk
        go_wp2
        go_ret
        exact ⟨_, rfl, by rw [HM.out, ← HF.out]; exact hI, hb⟩

theorem max_step {L : List Int} {k : Nat} (hk : k < L.length) (hs : St (nth L k)) :
    flt (fun y => inB' (L.take (k + 1)) y && maxB L y) 32 = (if maxB L (nth L k) then putF (flt (fun y => inB' (L.take k) y && maxB L y) 32) (nth L k) else flt (fun y => inB' (L.take k) y && maxB L y) 32) := by
  have e : ∀ y, inB' (L.take (k + 1)) y = (inB' (L.take k) y || y == nth L k) := fun y => by
    unfold inB'
    rw [List.take_add_one, nth_eq hk]
    simp [Bool.decide_or]
    rfl
  split
  · next h =>
    rw [putF_flt _ hs]
    congr 1
    funext y
    rw [e]
    cases hy : (y == nth L k)
    · simp
    · have : y = nth L k := by simpa using hy
      rw [this, h]; simp
  · next h =>
    congr 1
    funext y
    rw [e]
    cases hy : (y == nth L k)
    · simp
    · have : y = nth L k := by simpa using hy
      rw [this]
      simp only [Bool.not_eq_true] at h
      rw [h]; simp
set_option maxHeartbeats 1600000 in
theorem c_specMaximalSets (oa) (cap : Nat) (L : List Int) (w : World) (hL : IntsAt w oa L) :
    Calls Tryz.prog 73 #[.slice oa L.length cap] w fun e w' => ∃ v, e = .returned v ∧ OwnI w' w.heap.size v (maxF L) ∧ Below w.heap.size w w' := by
  obtain ⟨i0, hi, hz0, hz1, hz2⟩ := info_parts info_int
  have hn : L.length ≤ 1073741824 := hL.len
  have hb := (Below.refl w.heap.size w).alloc (Nat.le_refl _) (.cells #[] 3)
  have hI := OwnI.empty w w.heap.size (Nat.le_refl _)
  cases hs : (setsF L && decide (L.length ≤ 100))
  · have HM : Hid (maxF L = []) := by show maxF L = []; unfold maxF; rw [hs]; rfl
    go_enter Tryz.func73, Tryz.ntmps73
    go_wp2
    go_loopw [3, 4] (fun v i wr => i = .int .i64 0 ∧ OwnI wr w.heap.size v [] ∧ Below w.heap.size w wr) (fun _ _ _ => 0)
    case atStart => exact ⟨rfl, hI, hb⟩
    case round =>
      clear hI hb
      obtain ⟨rfl, hI, hb⟩ := hrel
      by_cases h0 : 0 < L.length
      · go_wp2_with (first | (go_at_call 104; refine Calls.mono (Ans.eqb (c_l4Sets _ _ _ _ (hL.keep hb)) hs) ?_; rintro e w1 ⟨rfl, hbn⟩; replace hI := hI.keep hbn; replace hb := bel_to (w := w) (by first | exact hb | exact hb.alloc hb.size _ | exact (hb.alloc hb.size _).alloc (Nat.le_trans hb.size (by simp)) _ | exact hb.setCell (by simp [hb.size]) _) hbn; clear hbn))
        go_ret
        exact ⟨_, rfl, by rw [HM.out]; exact hI, hb⟩
      · go_wp2
        go_ret
        exact ⟨_, rfl, by rw [HM.out]; exact hI, hb⟩
  · have hs' : setsF L = true ∧ L.length ≤ 100 := by simpa using hs
    have hsm := setsF_mem hs'.1
    have HM : Hid (maxF L = flt (fun x => inB' L x && maxB L x) 32) := maxF_sets hs'.1 hs'.2
    go_enter Tryz.func73, Tryz.ntmps73
    go_wp2
    go_loopw [3, 4] (fun v i wr => ∃ k : Nat, i = .int .i64 k ∧ k ≤ L.length ∧ OwnI wr w.heap.size v (flt (fun y => inB' (L.take k) y && maxB L y) 32) ∧ Below w.heap.size w wr) (fun _ i _ => L.length - (intOf i).toNat)
    case atStart =>
      have e : flt (fun y => inB' (L.take 0) y && maxB L y) 32 = [] := by unfold flt inB'; simp
      exact ⟨0, rfl, Nat.zero_le _, by rw [e]; exact hI, hb⟩
    case round =>
      clear hI hb
      obtain ⟨k, rfl, hk, hI, hb⟩ := hrel
      by_cases hlt : k < L.length
      · have hst : St (nth L k) := hsm _ (List.mem_iff_getElem?.2 ⟨k, nth_eq hlt⟩)
        have HS := (show Hid _ from max_step hlt hst)
        have hfl : (flt (fun y => inB' (L.take k) y && maxB L y) 32).length ≤ 32 := flt_le _ _
        obtain ⟨b1, off1, rfl, hbs1, hc1⟩ := hL.at_ (by omega)
        have hd1 := hc1 k hlt
        have HC : Hid (∀ k, k < L.length → w.cell? ⟨b1, off1 + k, none⟩ = some (.int .i64 (nth L k))) := hc1
        clear hc1
        generalize flt (fun y => inB' (L.take k) y && maxB L y) 32 = F at *
        generalize hx : nth L k = x at *
        go_wp2_with (first | (go_at_call 104; refine Calls.mono (Ans.eqb (c_l4Sets _ _ _ _ (hL.keep hb)) hs) ?_; rintro e w1 ⟨rfl, hbn⟩; replace hI := hI.keep hbn; replace hb := bel_to (w := w) (by first | exact hb | exact hb.alloc hb.size _ | exact (hb.alloc hb.size _).alloc (Nat.le_trans hb.size (by simp)) _ | exact hb.setCell (by simp [hb.size]) _) hbn; clear hbn))
        go_loopw [5, 6] (fun b i wr => ∃ j : Nat, i = .int .i64 j ∧ j ≤ L.length ∧ b = .bool ((L.take j).all fun y => (y == x) || !(bits BinOp.and .i64 x y == x)) ∧ OwnI wr w.heap.size u3 F ∧ Below w.heap.size w wr) (fun _ i _ => L.length - (intOf i).toNat)
        case atStart => exact ⟨0, rfl, Nat.zero_le _, by simp, hI, hb⟩
        case round =>
          clear hI hb
          obtain ⟨j, rfl, hj, rfl, hI, hb⟩ := hrel
          have hc2 := cell_keep hd1 hb
          by_cases hlj : j < L.length
          · have hc3 := cell_keep (HC.out j hlj) hb
            have HT : Hid ((L.take (j + 1)).all (fun y => (y == x) || !(bits BinOp.and .i64 x y == x)) = ((L.take j).all (fun y => (y == x) || !(bits BinOp.and .i64 x y == x)) && ((nth L j == x) || !(bits BinOp.and .i64 x (nth L j) == x)))) := all_take_succ (fun y => (y == x) || !(bits BinOp.and .i64 x y == x)) L j hlj
            generalize hy : nth L j = y at *
            generalize (L.take j).all (fun y => (y == x) || !(bits BinOp.and .i64 x y == x)) = A at *
            cases A
            · go_wp2_with fail
              (refine wp_region_after (by kernel_rfl) (by kernel_rfl) ?_; have q_hc2 := fun (x : After _) => cell_keep hc2 x.bel; have q_hc3 := fun (x : After _) => cell_keep hc3 x.bel; (repeat (go_big_quiet_step (fail))); clear q_hc2; clear q_hc3; refine wpQuiet_nil ?_; rintro _ ⟨⟨w1, hbn⟩, rfl⟩; (try simp only [After.w]); replace hc2 := cell_keep hc2 hbn; replace hc3 := cell_keep hc3 hbn; replace hI := hI.keep hbn; replace hb := bel_to (w := w) (by first | exact hb | exact hb.alloc hb.size _ | exact (hb.alloc hb.size _).alloc (Nat.le_trans hb.size (by simp)) _ | exact hb.setCell (by simp [hb.size]) _) hbn; clear hbn)
              go_wp2
              go_roundw
              case rel => exact ⟨j + 1, by go_num, by omega, by rw [HT.out]; rfl, hI, hb⟩
              case measure => simp [intOf]; omega
            · cases hxy : (y == x)
              · cases hin : (bits BinOp.and .i64 x y == x)
                · have hin2 : (bits BinOp.and .i64 x y != x) = true := by rw [bneI, hin]; rfl
                  go_wp2_with fail
                  (refine wp_region_after (by kernel_rfl) (by kernel_rfl) ?_; have q_hc2 := fun (x : After _) => cell_keep hc2 x.bel; have q_hc3 := fun (x : After _) => cell_keep hc3 x.bel; (repeat (go_big_quiet_step (fail))); clear q_hc2; clear q_hc3; refine wpQuiet_nil ?_; rintro _ ⟨⟨w1, hbn⟩, rfl⟩; (try simp only [After.w]); replace hc2 := cell_keep hc2 hbn; replace hc3 := cell_keep hc3 hbn; replace hI := hI.keep hbn; replace hb := bel_to (w := w) (by first | exact hb | exact hb.alloc hb.size _ | exact (hb.alloc hb.size _).alloc (Nat.le_trans hb.size (by simp)) _ | exact hb.setCell (by simp [hb.size]) _) hbn; clear hbn)
                  go_wp2
                  go_roundw
                  case rel => exact ⟨j + 1, by go_num, by omega, by rw [HT.out, hxy, hin]; rfl, hI, hb⟩
                  case measure => simp [intOf]; omega
                · have hin2 : (bits BinOp.and .i64 x y != x) = false := by rw [bneI, hin]; rfl
                  go_wp2_with fail
                  (refine wp_region_after (by kernel_rfl) (by kernel_rfl) ?_; have q_hc2 := fun (x : After _) => cell_keep hc2 x.bel; have q_hc3 := fun (x : After _) => cell_keep hc3 x.bel; (repeat (go_big_quiet_step (fail))); clear q_hc2; clear q_hc3; refine wpQuiet_nil ?_; rintro _ ⟨⟨w1, hbn⟩, rfl⟩; (try simp only [After.w]); replace hc2 := cell_keep hc2 hbn; replace hc3 := cell_keep hc3 hbn; replace hI := hI.keep hbn; replace hb := bel_to (w := w) (by first | exact hb | exact hb.alloc hb.size _ | exact (hb.alloc hb.size _).alloc (Nat.le_trans hb.size (by simp)) _ | exact hb.setCell (by simp [hb.size]) _) hbn; clear hbn)
                  go_wp2
                  go_roundw
                  case rel => exact ⟨j + 1, by go_num, by omega, by rw [HT.out, hxy, hin]; rfl, hI, hb⟩
                  case measure => simp [intOf]; omega
              · go_wp2_with fail
                (refine wp_region_after (by kernel_rfl) (by kernel_rfl) ?_; have q_hc2 := fun (x : After _) => cell_keep hc2 x.bel; have q_hc3 := fun (x : After _) => cell_keep hc3 x.bel; (repeat (go_big_quiet_step (fail))); clear q_hc2; clear q_hc3; refine wpQuiet_nil ?_; rintro _ ⟨⟨w1, hbn⟩, rfl⟩; (try simp only [After.w]); replace hc2 := cell_keep hc2 hbn; replace hc3 := cell_keep hc3 hbn; replace hI := hI.keep hbn; replace hb := bel_to (w := w) (by first | exact hb | exact hb.alloc hb.size _ | exact (hb.alloc hb.size _).alloc (Nat.le_trans hb.size (by simp)) _ | exact hb.setCell (by simp [hb.size]) _) hbn; clear hbn)
                go_wp2
                go_roundw
                case rel => exact ⟨j + 1, by go_num, by omega, by rw [HT.out, hxy]; rfl, hI, hb⟩
                case measure => simp [intOf]; omega
          · have hjj : j = L.length := by omega
            have HA : Hid ((L.take j).all (fun y => (y == x) || !(bits BinOp.and .i64 x y == x)) = maxB L x) := by
              show (L.take j).all (fun y => (y == x) || !(bits BinOp.and .i64 x y == x)) = maxB L x
              rw [hjj, List.take_length]; exact maxB_same L hsm x hst
            clear hjj
            generalize (L.take j).all (fun y => (y == x) || !(bits BinOp.and .i64 x y == x)) = A at *
            cases A
            · go_wp2
              go_roundw
              case rel => exact ⟨k + 1, by go_num, by omega, by rw [HS.out, ← HA.out]; simpa using hI, hb⟩
              case measure => simp [intOf]; omega
            · obtain ⟨oF, cF, rfl⟩ := hI.shape
              go_wp2_with (first | (go_at_call 105; refine (c_l4Put _ _ _ _ _ _ (by omega) hI hb.size).mono ?_; rintro e w1 ⟨v1, rfl, hI1, hbn⟩; replace hb := bel_to hb hbn; replace hI := hI1; clear hI1 hbn) | fail)
              go_roundw
              case rel => exact ⟨k + 1, by go_num, by omega, by rw [HS.out, ← HA.out]; exact hI, hb⟩
              case measure => simp [intOf]; omega
      · have hkk : k = L.length := by omega
        have HF : Hid (flt (fun y => inB' (L.take k) y && maxB L y) 32 = flt (fun y => inB' L y && maxB L y) 32) := by
          show flt (fun y => inB' (L.take k) y && maxB L y) 32 = flt (fun y => inB' L y && maxB L y) 32
          rw [hkk, List.take_length]
        clear hkk
        go_wp2
        go_ret
        exact ⟨_, rfl, by rw [HM.out, ← HF.out]; exact hI, hb⟩
end Go.Proofs.YtcenndlbhgfdfaaGreat
namespace Go.Proofs.YtcenndlbhgfdfaaGreat
open Go.RowKit
set_option linter.unusedVariables false
set_option maxRecDepth 100000

end Go.Proofs.YtcenndlbhgfdfaaGreat
namespace Go.Proofs.YtcenndlbhgfdfaaGreat
open Go.RowKit
set_option linter.unusedVariables false
set_option maxRecDepth 100000

def row (R : List (List Int)) (k : Nat) : List Int := R.getD k []
theorem row_eq {R : List (List Int)} {k : Nat} (h : k < R.length) : R[k]? = some (row R k) := by simp [row, List.getD, h]
theorem row_mem {R : List (List Int)} {k : Nat} (h : k < R.length) : row R k ∈ R := List.mem_iff_getElem?.2 ⟨k, row_eq h⟩
structure RowsAt (w : World) (oa : Option Addr) (R : List (List Int)) : Prop where
  len : R.length ≤ Room
  at_ : 0 < R.length → ∃ b off, oa = some ⟨b, off, none⟩ ∧ b < w.heap.size ∧ ∀ k, k < R.length → ∃ o c, w.cell? ⟨b, off + k, none⟩ = some (.slice o (row R k).length c) ∧ IntsAt w o (row R k)
theorem RowsAt.keep {w w' : World} {oa : Option Addr} {R : List (List Int)} (h : RowsAt w oa R) (hb : Below w.heap.size w w') : RowsAt w' oa R :=
  ⟨h.len, fun h0 => by
    obtain ⟨b, off, e, hlt, hc⟩ := h.at_ h0
    exact ⟨b, off, e, Nat.lt_of_lt_of_le hlt hb.size, fun k hk => by
      obtain ⟨o, c, h1, h2⟩ := hc k hk
      exact ⟨o, c, cell_keep h1 hb, h2.keep hb⟩⟩⟩
/-- An argument that came in: its length, the lengths of its lists. -/
structure RowsIn (w : World) (oa : Option Addr) (n : Nat) (Ln : Nat → Nat) : Prop where
  len : n ≤ maxLen
  rows : 0 < n → ∃ b off, oa = some ⟨b, off, none⟩ ∧ b < w.heap.size ∧ ∀ r, r < n → Ln r ≤ maxLen ∧ ∃ o c, w.cell? ⟨b, off + r, none⟩ = some (.slice o (Ln r) c) ∧ (Ln r ≤ Room → ∃ L : List Int, L.length = Ln r ∧ IntsAt w o L)
theorem RowsIn.read {w : World} {oa : Option Addr} {n : Nat} {Ln : Nat → Nat} (h : RowsIn w oa n Ln) (hn : n ≤ Room) (hL : ∀ r, r < n → Ln r ≤ Room) : ∃ R : List (List Int), R.length = n ∧ RowsAt w oa R := by
  rcases Nat.eq_zero_or_pos n with h0 | h0
  · exact ⟨[], by simp [h0], by simp, fun h => absurd h (by simp)⟩
  · obtain ⟨b, off, e, hb, hr⟩ := h.rows h0
    have each : ∀ r, r < n → ∃ L : List Int, L.length = Ln r ∧ ∃ o c, w.cell? ⟨b, off + r, none⟩ = some (.slice o (Ln r) c) ∧ IntsAt w o L := fun r hrn => by
      obtain ⟨_, o, c, h1, h2⟩ := hr r hrn
      obtain ⟨L, h3, h4⟩ := h2 (hL r hrn)
      exact ⟨L, h3, o, c, h1, h4⟩
    have hch : ∃ f : Nat → List Int, ∀ r, r < n → (f r).length = Ln r ∧ ∃ o c, w.cell? ⟨b, off + r, none⟩ = some (.slice o (Ln r) c) ∧ IntsAt w o (f r) :=
      ⟨fun r => if hr : r < n then Classical.choose (each r hr) else [], fun r hr => by simp only [hr, dif_pos]; exact Classical.choose_spec (each r hr)⟩
    obtain ⟨f, hf⟩ := hch
    refine ⟨(List.range n).map f, by simp, by simpa using hn, fun _ => ⟨b, off, e, hb, fun k hk => ?_⟩⟩
    have hk : k < n := by simpa using hk
    have er : row ((List.range n).map f) k = f k := by simp [row, List.getD, hk]
    obtain ⟨h1, o, c, h2, h3⟩ := hf k hk
    exact ⟨o, c, by rw [er, h1]; exact h2, by rw [er]; exact h3⟩

def OwnV (w : World) (base : Nat) (v : Value) (xs : List Value) : Prop := w.ownsRow base 50 1 v xs.length xs
theorem OwnV.keep {w w' : World} {base : Nat} {v : Value} {xs : List Value} (h : OwnV w base v xs) (hb : Below w.heap.size w w') : OwnV w' base v xs := owns_keep h hb
theorem ownV_made {w : World} {base : Nat} {v : Value} {n : Nat} (h : w.ownsRow base 50 1 v n (madeCells (Value.cells (.slice none 0 0)) (n * 1)).toList) : OwnV w base v (List.replicate n (.slice none 0 0)) := by
  have e : (madeCells (Value.cells (.slice none 0 0)) (n * 1)).toList = List.replicate n (.slice none 0 0) := by
    rw [Nat.mul_one]
    have : (Value.cells (.slice none 0 0)) = #[Value.slice none 0 0] := rfl
    rw [this, toList_madeCells_one]
  rw [e] at h
  unfold OwnV
  rw [List.length_replicate]
  exact h
theorem OwnV.cell {w : World} {base g n cap : Nat} {xs : List Value} (h : OwnV w base (.slice (some ⟨g, 0, none⟩) n cap) xs) (hn : n = xs.length) (j : Nat) (hj : j < n) :
    w.cell? ⟨g, j, none⟩ = xs[j]? ∧ w.frozen? ⟨g, j, none⟩ = false := by
  subst hn
  exact ⟨h.cellAt j (by omega), h.frozenAt j⟩
theorem OwnV.store {w : World} {base g n cap : Nat} {xs : List Value} (h : OwnV w base (.slice (some ⟨g, 0, none⟩) n cap) xs) (hn : n = xs.length) (j : Nat) (u : Value) (hu : u.oneCell' = true) :
    OwnV (w.setCell ⟨g, j, none⟩ u) base (.slice (some ⟨g, 0, none⟩) n cap) (xs.set j u) := by
  subst hn
  unfold OwnV
  rw [List.length_set]
  exact (h.stored j u).1
theorem info_ints : (Tryz.prog.info? 50).map (fun i => (i.zero, i.size, i.bytes)) = some (some (.slice none 0 0), 1, 24) := by kernel_rfl
def Off (o : Option Addr) (g : Nat) : Prop := ∀ b off s, o = some ⟨b, off, s⟩ → g < b
theorem cell_far {w : World} {a a' : Addr} {u v : Value} (h : w.cell? a = some v) (hne : a.block ≠ a'.block) : (w.setCell a' u).cell? a = some v :=
  (World.cell?_of_block (Below.heap_setCell w a' u a.block hne)).trans h
theorem IntsAt.far {w : World} {o : Option Addr} {L : List Int} {g j : Nat} {u : Value} (h : IntsAt w o L) (ho : Off o g) : IntsAt (w.setCell ⟨g, j, none⟩ u) o L :=
  ⟨h.len, fun h0 => by
    obtain ⟨b, off, e, hlt, hc⟩ := h.at_ h0
    exact ⟨b, off, e, Nat.lt_of_lt_of_le hlt (grown_set w g j u).size, fun k hk => cell_far (hc k hk) (by have := ho b off none e; simp; omega)⟩⟩
theorem off_new {w : World} {base g n c : Nat} {o : Option Addr} {e : TypeId} {xs : List Value} (h : w.ownsRow base e 1 (.slice o n c) n xs) (hg : g < base) : Off o g := by
  intro b off s e
  subst e
  have := (World.ownsRow.lt h b rfl).1
  omega

/-- A list of lists whose blocks all lie from block B on. -/
structure RowsNew (w : World) (B : Nat) (oa : Option Addr) (R : List (List Int)) : Prop where
  len : R.length ≤ Room
  at_ : 0 < R.length → ∃ b off, oa = some ⟨b, off, none⟩ ∧ B ≤ b ∧ b < w.heap.size ∧ ∀ k, k < R.length → ∃ o c, w.cell? ⟨b, off + k, none⟩ = some (.slice o (row R k).length c) ∧ IntsAt w o (row R k) ∧ Off o B
theorem RowsNew.rows {w : World} {B : Nat} {oa : Option Addr} {R : List (List Int)} (h : RowsNew w B oa R) : RowsAt w oa R :=
  ⟨h.len, fun h0 => by
    obtain ⟨b, off, e, _, hlt, hc⟩ := h.at_ h0
    exact ⟨b, off, e, hlt, fun k hk => by
      obtain ⟨o, c, h1, h2, _⟩ := hc k hk
      exact ⟨o, c, h1, h2⟩⟩⟩
theorem RowsNew.far {w : World} {B : Nat} {oa : Option Addr} {R : List (List Int)} (h : RowsNew w B oa R) {g : Nat} (j : Nat) (u : Value) (hg : g < B) : RowsNew (w.setCell ⟨g, j, none⟩ u) B oa R :=
  ⟨h.len, fun h0 => by
    obtain ⟨b, off, e, hB, hlt, hc⟩ := h.at_ h0
    exact ⟨b, off, e, hB, Nat.lt_of_lt_of_le hlt (grown_set w g j u).size, fun k hk => by
      obtain ⟨o, c, h1, h2, h3⟩ := hc k hk
      exact ⟨o, c, cell_far h1 (by simp; omega), h2.far (fun b off s e => by have := h3 b off s e; omega), h3⟩⟩⟩
end Go.Proofs.YtcenndlbhgfdfaaGreat
namespace Go.Proofs.YtcenndlbhgfdfaaGreat
open Go.RowKit
set_option linter.unusedVariables false
set_option maxRecDepth 100000

def rowOk (n : Int) (L : List Int) : Bool := L.all (fun v => inB v (-1) 40) && ((L.length : Int) == n)
def isTabF (n : Int) (R : List (List Int)) : Bool := R.all (rowOk n) && (decide (1 ≤ n) && decide (n ≤ 5) && decide (R.length ≤ 40))
def modeF (m : Int) : Bool := (m == 0) || (m == 1)
def eqCellF (m a b : Int) : Bool := modeF m && ((a == b) && ((m == 0) || (a != -1)))
def agreeStep (m : Int) (A B : List Int) (x : Int) (c : Nat) : Int := if eqCellF m (nth A c) (nth B c) then uni x (one c) else x
def agreeF (m : Int) (A B : List Int) : Int := (List.range A.length).foldl (agreeStep m A B) 0
theorem rall_take_succ (p : List Int → Bool) (R : List (List Int)) (k : Nat) (hk : k < R.length) : (R.take (k + 1)).all p = ((R.take k).all p && p (row R k)) := by
  rw [List.take_add_one, row_eq hk]; simp
theorem rall_false (p : List Int → Bool) (R : List (List Int)) (k : Nat) (hk : k < R.length) (h : p (row R k) = false) : R.all p = false := by
  rw [List.all_eq_false]
  exact ⟨row R k, row_mem hk, by simp [h]⟩
theorem range_succ_fold {α : Type} (f : α → Nat → α) (z : α) (k : Nat) : (List.range (k + 1)).foldl f z = f ((List.range k).foldl f z) k := by
  rw [List.range_succ, List.foldl_append]; rfl

theorem c_isRow (oa) (cap : Nat) (L : List Int) (n : Int) (w : World) (hL : IntsAt w oa L) :
    Ans Tryz.prog 95 #[.slice oa L.length cap, .int .i64 n] w (.bool (rowOk n L)) := by
  unfold Ans
  have hn : L.length ≤ 1073741824 := hL.len
  go_enter Tryz.func95, Tryz.ntmps95
  go_wp2
  go_loop [9] (fun i => ∃ k : Nat, i = .int .i64 k ∧ k ≤ L.length ∧ (L.take k).all (fun v => inB v (-1) 40) = true) (fun i => L.length - (intOf i).toNat)
  case atStart => exact ⟨0, rfl, Nat.zero_le _, by simp⟩
  case round =>
    obtain ⟨k, rfl, hk, hall⟩ := hrel
    have HA : Hid ((L.take k).all (fun v => inB v (-1) 40) = true) := hall
    clear hall
    by_cases hlt : k < L.length
    · obtain ⟨b, off, rfl, hbs, hc⟩ := hL.at_ (by omega)
      have hc1 := hc k hlt
      have HT : Hid ((L.take (k + 1)).all (fun v => inB v (-1) 40) = ((L.take k).all (fun v => inB v (-1) 40) && inB (nth L k) (-1) 40)) := all_take_succ _ L k hlt
      have HF : Hid (inB (nth L k) (-1) 40 = false → L.all (fun v => inB v (-1) 40) = false) := all_false (fun v => inB v (-1) 40) L k hlt
      clear hc
      generalize nth L k = v at *
      by_cases h1 : v < -1
      · have HX : Hid (inB v (-1) 40 = false) := by show inB v (-1) 40 = false; simp [inB]; omega
        go_wp2
        go_ret
        exact ⟨ret_bool (by unfold rowOk; rw [HF.out HX.out]; rfl), Below.refl _ _⟩
      by_cases h2 : 40 < v
      · have HX : Hid (inB v (-1) 40 = false) := by show inB v (-1) 40 = false; simp [inB]; omega
        go_wp2
        go_ret
        exact ⟨ret_bool (by unfold rowOk; rw [HF.out HX.out]; rfl), Below.refl _ _⟩
      · have HX : Hid (inB v (-1) 40 = true) := by show inB v (-1) 40 = true; simp [inB]; omega
        go_wp2
        go_round
        case rel => exact ⟨k + 1, by go_num, by omega, by rw [HT.out, HA.out, HX.out]; rfl⟩
        case measure => simp [intOf]; omega
    · have hkk : k = L.length := by omega
      have HS : Hid (L.all (fun v => inB v (-1) 40) = true) := by have := HA.out; rw [hkk, List.take_length] at this; exact this
      clear hkk
      go_wp2
      go_ret
      exact ⟨ret_bool (by unfold rowOk; rw [HS.out]; rfl), Below.refl _ _⟩
theorem c_l3Row (oa) (cap : Nat) (L : List Int) (n : Int) (w : World) (hL : IntsAt w oa L) :
    Ans Tryz.prog 75 #[.slice oa L.length cap, .int .i64 n] w (.bool (rowOk n L)) := by
  unfold Ans
  have hn : L.length ≤ 1073741824 := hL.len
  go_enter Tryz.func75, Tryz.ntmps75
  go_wp2
  go_loopw [5] (fun i wr => ∃ k : Nat, i = .int .i64 k ∧ k ≤ L.length ∧ (L.take k).all (fun v => inB v (-1) 40) = true ∧ Below w.heap.size w wr) (fun i _ => L.length - (intOf i).toNat)
  case atStart => exact ⟨0, rfl, Nat.zero_le _, by simp, Below.refl _ _⟩
  case round =>
    obtain ⟨k, rfl, hk, hall, hb⟩ := hrel
    have HA : Hid ((L.take k).all (fun v => inB v (-1) 40) = true) := hall
    clear hall
    by_cases hlt : k < L.length
    · obtain ⟨b, off, rfl, hbs, hc⟩ := hL.at_ (by omega)
      have hc1 := cell_keep (hc k hlt) hb
      have HT : Hid ((L.take (k + 1)).all (fun v => inB v (-1) 40) = ((L.take k).all (fun v => inB v (-1) 40) && inB (nth L k) (-1) 40)) := all_take_succ _ L k hlt
      have HF : Hid (inB (nth L k) (-1) 40 = false → L.all (fun v => inB v (-1) 40) = false) := all_false (fun v => inB v (-1) 40) L k hlt
      clear hc
      generalize nth L k = v at *
      cases hin : inB v (-1) 40
      · go_wp2_with (first | (go_at_call 52; refine Calls.mono (Ans.eqb (c_l1In _ _ _ _) hin) ?_; rintro e w1 ⟨rfl, hbn⟩; replace hb := bel_to (w := w) (by first | exact hb | exact hb.alloc hb.size _ | exact (hb.alloc hb.size _).alloc (Nat.le_trans hb.size (by simp)) _ | exact hb.setCell (by simp [hb.size]) _) hbn; clear hbn))
        go_ret
        exact ⟨ret_bool (by unfold rowOk; rw [HF.out hin]; rfl), hb⟩
      · go_wp2_with (first | (go_at_call 52; refine Calls.mono (Ans.eqb (c_l1In _ _ _ _) hin) ?_; rintro e w1 ⟨rfl, hbn⟩; replace hb := bel_to (w := w) (by first | exact hb | exact hb.alloc hb.size _ | exact (hb.alloc hb.size _).alloc (Nat.le_trans hb.size (by simp)) _ | exact hb.setCell (by simp [hb.size]) _) hbn; clear hbn))
        go_roundw
        case rel => exact ⟨k + 1, by go_num, by omega, by rw [HT.out, HA.out, hin]; rfl, hb⟩
        case measure => simp [intOf]; omega
    · have hkk : k = L.length := by omega
      have HS : Hid (L.all (fun v => inB v (-1) 40) = true) := by have := HA.out; rw [hkk, List.take_length] at this; exact this
      clear hkk
      go_wp2
      go_ret
      exact ⟨ret_bool (by unfold rowOk; rw [HS.out]; rfl), hb⟩
theorem c_isMode (m : Int) (w : World) : Ans Tryz.prog 61 #[.int .i64 m] w (.bool (modeF m)) := by
  unfold Ans modeF
  go_enter Tryz.func61, Tryz.ntmps61
  cases h0 : (m == 0)
  · go_wp2
    go_ret
    exact ⟨rfl, Below.refl _ _⟩
  · go_wp2
    go_ret
    exact ⟨rfl, Below.refl _ _⟩
theorem c_l4Mode (m : Int) (w : World) : Ans Tryz.prog 92 #[.int .i64 m] w (.bool (modeF m)) := by
  unfold Ans modeF
  go_enter Tryz.func92, Tryz.ntmps92
  cases h0 : (m == 0)
  · go_wp2
    go_ret
    exact ⟨rfl, Below.refl _ _⟩
  · go_wp2
    go_ret
    exact ⟨rfl, Below.refl _ _⟩
theorem c_EqualCells (m a b : Int) (w : World) : Ans Tryz.prog 111 #[.int .i64 m, .int .i64 a, .int .i64 b] w (.bool (eqCellF m a b)) := by
  unfold Ans eqCellF
  have hb := Below.refl w.heap.size w
  go_enter Tryz.func111, Tryz.ntmps111
  cases hm : modeF m
  · go_wp2_with (first | (go_at_call 61; refine Calls.mono (Ans.eqb (c_isMode _ _) hm) ?_; rintro e w1 ⟨rfl, hbn⟩; replace hb := bel_to (w := w) (by first | exact hb | exact hb.alloc hb.size _ | exact (hb.alloc hb.size _).alloc (Nat.le_trans hb.size (by simp)) _ | exact hb.setCell (by simp [hb.size]) _) hbn; clear hbn))
    go_ret
    exact ⟨rfl, hb⟩
  · cases hab : (a == b)
    · go_wp2_with (first | (go_at_call 61; refine Calls.mono (Ans.eqb (c_isMode _ _) hm) ?_; rintro e w1 ⟨rfl, hbn⟩; replace hb := bel_to (w := w) (by first | exact hb | exact hb.alloc hb.size _ | exact (hb.alloc hb.size _).alloc (Nat.le_trans hb.size (by simp)) _ | exact hb.setCell (by simp [hb.size]) _) hbn; clear hbn))
      go_ret
      exact ⟨rfl, hb⟩
    · cases h0 : (m == 0)
      · go_wp2_with (first | (go_at_call 61; refine Calls.mono (Ans.eqb (c_isMode _ _) hm) ?_; rintro e w1 ⟨rfl, hbn⟩; replace hb := bel_to (w := w) (by first | exact hb | exact hb.alloc hb.size _ | exact (hb.alloc hb.size _).alloc (Nat.le_trans hb.size (by simp)) _ | exact hb.setCell (by simp [hb.size]) _) hbn; clear hbn))
        go_ret
        exact ⟨rfl, hb⟩
      · go_wp2_with (first | (go_at_call 61; refine Calls.mono (Ans.eqb (c_isMode _ _) hm) ?_; rintro e w1 ⟨rfl, hbn⟩; replace hb := bel_to (w := w) (by first | exact hb | exact hb.alloc hb.size _ | exact (hb.alloc hb.size _).alloc (Nat.le_trans hb.size (by simp)) _ | exact hb.setCell (by simp [hb.size]) _) hbn; clear hbn))
        go_ret
        exact ⟨rfl, hb⟩
theorem c_specEqualCells (m a b : Int) (w : World) : Ans Tryz.prog 113 #[.int .i64 m, .int .i64 a, .int .i64 b] w (.bool (eqCellF m a b)) := by
  unfold Ans eqCellF
  have hb := Below.refl w.heap.size w
  go_enter Tryz.func113, Tryz.ntmps113
  cases hm : modeF m
  · go_wp2_with (first | (go_at_call 92; refine Calls.mono (Ans.eqb (c_l4Mode _ _) hm) ?_; rintro e w1 ⟨rfl, hbn⟩; replace hb := bel_to (w := w) (by first | exact hb | exact hb.alloc hb.size _ | exact (hb.alloc hb.size _).alloc (Nat.le_trans hb.size (by simp)) _ | exact hb.setCell (by simp [hb.size]) _) hbn; clear hbn))
    go_ret
    exact ⟨rfl, hb⟩
  · cases hab : (a == b)
    · go_wp2_with (first | (go_at_call 92; refine Calls.mono (Ans.eqb (c_l4Mode _ _) hm) ?_; rintro e w1 ⟨rfl, hbn⟩; replace hb := bel_to (w := w) (by first | exact hb | exact hb.alloc hb.size _ | exact (hb.alloc hb.size _).alloc (Nat.le_trans hb.size (by simp)) _ | exact hb.setCell (by simp [hb.size]) _) hbn; clear hbn))
      go_ret
      exact ⟨rfl, hb⟩
    · cases h0 : (m == 0)
      · go_wp2_with (first | (go_at_call 92; refine Calls.mono (Ans.eqb (c_l4Mode _ _) hm) ?_; rintro e w1 ⟨rfl, hbn⟩; replace hb := bel_to (w := w) (by first | exact hb | exact hb.alloc hb.size _ | exact (hb.alloc hb.size _).alloc (Nat.le_trans hb.size (by simp)) _ | exact hb.setCell (by simp [hb.size]) _) hbn; clear hbn))
        go_ret
        exact ⟨rfl, hb⟩
      · go_wp2_with (first | (go_at_call 92; refine Calls.mono (Ans.eqb (c_l4Mode _ _) hm) ?_; rintro e w1 ⟨rfl, hbn⟩; replace hb := bel_to (w := w) (by first | exact hb | exact hb.alloc hb.size _ | exact (hb.alloc hb.size _).alloc (Nat.le_trans hb.size (by simp)) _ | exact hb.setCell (by simp [hb.size]) _) hbn; clear hbn))
        go_ret
        exact ⟨rfl, hb⟩
end Go.Proofs.YtcenndlbhgfdfaaGreat
namespace Go.Proofs.YtcenndlbhgfdfaaGreat
open Go.RowKit
set_option linter.unusedVariables false
set_option maxRecDepth 100000

theorem isTab_of {n : Int} {R : List (List Int)} (h : isTabF n R = true) : 1 ≤ n ∧ n ≤ 5 ∧ R.length ≤ 40 ∧ ∀ k, k < R.length → ((row R k).length : Int) = n := by
  unfold isTabF at h
  simp only [Bool.and_eq_true, decide_eq_true_eq] at h
  refine ⟨h.2.1.1, h.2.1.2, h.2.2, fun k hk => ?_⟩
  have := List.all_eq_true.1 h.1 _ (row_mem hk)
  unfold rowOk at this
  simp only [Bool.and_eq_true, beq_iff_eq] at this
  exact this.2
theorem c_IsTable (n : Int) (oa) (cap : Nat) (R : List (List Int)) (w : World) (hR : RowsAt w oa R) :
    Ans Tryz.prog 60 #[.agg #[.int .i64 n, .slice oa R.length cap]] w (.bool (isTabF n R)) := by
  unfold Ans
  have hn : R.length ≤ 1073741824 := hR.len
  have hb := (Below.refl w.heap.size w).alloc (Nat.le_refl _) (.cells #[.int .i64 n, .slice oa R.length cap] 26)
  have b0 := box_at w #[.int .i64 n, .slice oa R.length cap] 26 0 _ rfl
  have b1 := box_at w #[.int .i64 n, .slice oa R.length cap] 26 1 _ rfl
  by_cases h1 : n < 1
  · go_enter Tryz.func60, Tryz.ntmps60
    go_wp2
    go_ret
    exact ⟨ret_bool (by unfold isTabF; rw [decide_eq_false (show ¬ (1 ≤ n) by omega)]; simp), hb⟩
  by_cases h5 : 5 < n
  · go_enter Tryz.func60, Tryz.ntmps60
    go_wp2
    go_ret
    exact ⟨ret_bool (by unfold isTabF; rw [decide_eq_false (show ¬ (n ≤ 5) by omega)]; simp), hb⟩
  by_cases h40 : 40 < R.length
  · go_enter Tryz.func60, Tryz.ntmps60
    go_wp2
    go_ret
    exact ⟨ret_bool (by unfold isTabF; rw [decide_eq_false (show ¬ (R.length ≤ 40) by omega)]; simp), hb⟩
  have HB : Hid (∀ b, R.all (rowOk n) = b → isTabF n R = b) := fun b h => by
    unfold isTabF; rw [h, decide_eq_true (show 1 ≤ n by omega), decide_eq_true (show n ≤ 5 by omega), decide_eq_true (show R.length ≤ 40 by omega)]; simp
  go_enter Tryz.func60, Tryz.ntmps60
  go_wp2
  go_loopw [22] (fun i wr => ∃ k : Nat, i = .int .i64 k ∧ k ≤ R.length ∧ (R.take k).all (rowOk n) = true ∧ wr.cell? ⟨w.heap.size, 0, none⟩ = some (.int .i64 n) ∧ Below w.heap.size w wr) (fun i _ => R.length - (intOf i).toNat)
  case atStart => exact ⟨0, rfl, Nat.zero_le _, by simp, b0, hb⟩
  case round =>
    clear b0 b1 hb
    obtain ⟨k, rfl, hk, hall, b0, hb⟩ := hrel
    have HA : Hid ((R.take k).all (rowOk n) = true) := hall
    clear hall
    by_cases hlt : k < R.length
    · obtain ⟨b, off, rfl, hbs, hc⟩ := hR.at_ (by omega)
      obtain ⟨o, c, h1', hr⟩ := hc k hlt
      have hc1 := cell_keep h1' hb
      have HT : Hid ((R.take (k + 1)).all (rowOk n) = ((R.take k).all (rowOk n) && rowOk n (row R k))) := rall_take_succ _ R k hlt
      have HF : Hid (rowOk n (row R k) = false → R.all (rowOk n) = false) := rall_false _ R k hlt
      clear hc h1'
      generalize row R k = L at *
      cases hok : rowOk n L
      · go_wp2_with (first | (go_at_call 95; refine Calls.mono (Ans.eqb (c_isRow _ _ _ _ _ (hr.keep hb)) hok) ?_; rintro e w1 ⟨rfl, hbn⟩; replace b0 := cell_keep b0 hbn; replace hb := bel_to (w := w) (by first | exact hb | exact hb.alloc hb.size _ | exact (hb.alloc hb.size _).alloc (Nat.le_trans hb.size (by simp)) _ | exact hb.setCell (by simp [hb.size]) _) hbn; clear hbn))
        go_ret
        exact ⟨ret_bool (HB.out _ (HF.out hok)).symm, hb⟩
      · go_wp2_with (first | (go_at_call 95; refine Calls.mono (Ans.eqb (c_isRow _ _ _ _ _ (hr.keep hb)) hok) ?_; rintro e w1 ⟨rfl, hbn⟩; replace b0 := cell_keep b0 hbn; replace hb := bel_to (w := w) (by first | exact hb | exact hb.alloc hb.size _ | exact (hb.alloc hb.size _).alloc (Nat.le_trans hb.size (by simp)) _ | exact hb.setCell (by simp [hb.size]) _) hbn; clear hbn))
        go_roundw
        case rel => exact ⟨k + 1, by go_num, by omega, by rw [HT.out, HA.out, hok]; rfl, b0, hb⟩
        case measure => simp [intOf]; omega
    · have hkk : k = R.length := by omega
      have HS : Hid (R.all (rowOk n) = true) := by have := HA.out; rw [hkk, List.take_length] at this; exact this
      clear hkk
      go_wp2
      go_ret
      exact ⟨ret_bool (HB.out _ HS.out).symm, hb⟩
theorem c_specIsTable (n : Int) (oa) (cap : Nat) (R : List (List Int)) (w : World) (hR : RowsAt w oa R) :
    Ans Tryz.prog 32 #[.agg #[.int .i64 n, .slice oa R.length cap]] w (.bool (isTabF n R)) := by
  unfold Ans
  have hn : R.length ≤ 1073741824 := hR.len
  have hb := (Below.refl w.heap.size w).alloc (Nat.le_refl _) (.cells #[.int .i64 n, .slice oa R.length cap] 26)
  have b0 := box_at w #[.int .i64 n, .slice oa R.length cap] 26 0 _ rfl
  have b1 := box_at w #[.int .i64 n, .slice oa R.length cap] 26 1 _ rfl
  go_enter Tryz.func32, Tryz.ntmps32
  go_wp2
  go_loopw [3] (fun i wr => ∃ k : Nat, i = .int .i64 k ∧ k ≤ R.length ∧ (R.take k).all (rowOk n) = true ∧ wr.cell? ⟨w.heap.size, 0, none⟩ = some (.int .i64 n) ∧ wr.cell? ⟨w.heap.size, 1, none⟩ = some (.slice oa R.length cap) ∧ Below w.heap.size w wr) (fun i _ => R.length - (intOf i).toNat)
  case atStart => exact ⟨0, rfl, Nat.zero_le _, by simp, b0, b1, hb⟩
  case round =>
    clear b0 b1 hb
    obtain ⟨k, rfl, hk, hall, b0, b1, hb⟩ := hrel
    have HA : Hid ((R.take k).all (rowOk n) = true) := hall
    clear hall
    by_cases hlt : k < R.length
    · obtain ⟨b, off, rfl, hbs, hc⟩ := hR.at_ (by omega)
      obtain ⟨o, c, h1', hr⟩ := hc k hlt
      have hc1 := cell_keep h1' hb
      have hx := fun (x : After wr) => (hr.keep hb).keep x.bel
      have HT : Hid ((R.take (k + 1)).all (rowOk n) = ((R.take k).all (rowOk n) && rowOk n (row R k))) := rall_take_succ _ R k hlt
      have HF : Hid (rowOk n (row R k) = false → R.all (rowOk n) = false) := rall_false _ R k hlt
      clear hc h1'
      generalize row R k = L at *
      cases hok : rowOk n L
      · go_wp2_with fail
        (refine wp_region_after (by kernel_rfl) (by kernel_rfl) ?_; have q_b0 := fun (x : After _) => cell_keep b0 x.bel; have q_b1 := fun (x : After _) => cell_keep b1 x.bel; have q_hc1 := fun (x : After _) => cell_keep hc1 x.bel; (repeat (go_big_quiet_step ((first | (go_at_call 75; exact Ans.after (Ans.eqb (c_l3Row _ _ _ _ _ (hx _)) hok)))))); clear q_b0; clear q_b1; clear q_hc1; refine wpQuiet_nil ?_; rintro _ ⟨⟨w1, hbn⟩, rfl⟩; (try simp only [After.w]); replace b0 := cell_keep b0 hbn; replace b1 := cell_keep b1 hbn; replace hc1 := cell_keep hc1 hbn; replace hb := bel_to (w := w) (by first | exact hb | exact hb.alloc hb.size _ | exact (hb.alloc hb.size _).alloc (Nat.le_trans hb.size (by simp)) _ | exact hb.setCell (by simp [hb.size]) _) hbn; clear hbn)
        go_wp2
        go_ret
        exact ⟨ret_bool (by unfold isTabF; rw [HF.out hok]; rfl), hb⟩
      · go_wp2_with fail
        (refine wp_region_after (by kernel_rfl) (by kernel_rfl) ?_; have q_b0 := fun (x : After _) => cell_keep b0 x.bel; have q_b1 := fun (x : After _) => cell_keep b1 x.bel; have q_hc1 := fun (x : After _) => cell_keep hc1 x.bel; (repeat (go_big_quiet_step ((first | (go_at_call 75; exact Ans.after (Ans.eqb (c_l3Row _ _ _ _ _ (hx _)) hok)))))); clear q_b0; clear q_b1; clear q_hc1; refine wpQuiet_nil ?_; rintro _ ⟨⟨w1, hbn⟩, rfl⟩; (try simp only [After.w]); replace b0 := cell_keep b0 hbn; replace b1 := cell_keep b1 hbn; replace hc1 := cell_keep hc1 hbn; replace hb := bel_to (w := w) (by first | exact hb | exact hb.alloc hb.size _ | exact (hb.alloc hb.size _).alloc (Nat.le_trans hb.size (by simp)) _ | exact hb.setCell (by simp [hb.size]) _) hbn; clear hbn)
        go_wp2
        go_roundw
        case rel => exact ⟨k + 1, by go_num, by omega, by rw [HT.out, HA.out, hok]; rfl, b0, b1, hb⟩
        case measure => simp [intOf]; omega
    · have hkk : k = R.length := by omega
      have HS : Hid (R.all (rowOk n) = true) := by have := HA.out; rw [hkk, List.take_length] at this; exact this
      clear hkk
      cases hin : inB n 1 5
      · go_wp2_with (first | (go_at_call 52; refine Calls.mono (Ans.eqb (c_l1In _ _ _ _) hin) ?_; rintro e w1 ⟨rfl, hbn⟩; replace b1 := cell_keep b1 hbn; replace hb := bel_to (w := w) (by first | exact hb | exact hb.alloc hb.size _ | exact (hb.alloc hb.size _).alloc (Nat.le_trans hb.size (by simp)) _ | exact hb.setCell (by simp [hb.size]) _) hbn; clear hbn))
        go_ret
        exact ⟨ret_bool (by unfold inB at hin; unfold isTabF; rw [HS.out, hin]; rfl), hb⟩
      · go_wp2_with (first | (go_at_call 52; refine Calls.mono (Ans.eqb (c_l1In _ _ _ _) hin) ?_; rintro e w1 ⟨rfl, hbn⟩; replace b1 := cell_keep b1 hbn; replace hb := bel_to (w := w) (by first | exact hb | exact hb.alloc hb.size _ | exact (hb.alloc hb.size _).alloc (Nat.le_trans hb.size (by simp)) _ | exact hb.setCell (by simp [hb.size]) _) hbn; clear hbn))
        go_ret
        exact ⟨ret_bool (by unfold inB at hin; unfold isTabF; rw [HS.out, hin, Bool.true_and, Bool.true_and, decide_eq_decide]; omega), hb⟩
theorem c_l4Fine (n : Int) (oa) (cap : Nat) (R : List (List Int)) (m : Int) (w : World) (hR : RowsAt w oa R) :
    Ans Tryz.prog 51 #[.agg #[.int .i64 n, .slice oa R.length cap], .int .i64 m] w (.bool (isTabF n R && modeF m)) := by
  unfold Ans
  have hb := (Below.refl w.heap.size w).alloc (Nat.le_refl _) (.cells #[.int .i64 n, .slice oa R.length cap] 26)
  go_enter Tryz.func51, Tryz.ntmps51
  cases ht : isTabF n R
  · go_wp2_with (first | (go_at_call 32; refine Calls.mono (Ans.eqb (c_specIsTable _ _ _ _ _ (hR.keep hb)) ht) ?_; rintro e w1 ⟨rfl, hbn⟩; replace hb := bel_to (w := w) (by first | exact hb | exact hb.alloc hb.size _ | exact (hb.alloc hb.size _).alloc (Nat.le_trans hb.size (by simp)) _ | exact hb.setCell (by simp [hb.size]) _) hbn; clear hbn))
    go_ret
    exact ⟨rfl, hb⟩
  · go_wp2_with (first | (go_at_call 32; refine Calls.mono (Ans.eqb (c_specIsTable _ _ _ _ _ (hR.keep hb)) ht) ?_; rintro e w1 ⟨rfl, hbn⟩; replace hb := bel_to (w := w) (by first | exact hb | exact hb.alloc hb.size _ | exact (hb.alloc hb.size _).alloc (Nat.le_trans hb.size (by simp)) _ | exact hb.setCell (by simp [hb.size]) _) hbn; clear hbn) | (go_at_call 92; refine Calls.mono (c_l4Mode _ _) ?_; rintro e w1 ⟨rfl, hbn⟩; replace hb := bel_to (w := w) (by first | exact hb | exact hb.alloc hb.size _ | exact (hb.alloc hb.size _).alloc (Nat.le_trans hb.size (by simp)) _ | exact hb.setCell (by simp [hb.size]) _) hbn; clear hbn))
    go_ret
    exact ⟨rfl, hb⟩
set_option maxHeartbeats 400000 in
theorem c_agree (m : Int) (oa ob) (ca cb : Nat) (A B : List Int) (w : World) (hA : IntsAt w oa A) (hB : IntsAt w ob B) (hl : A.length ≤ 5) (hAB : B.length = A.length) :
    Ans Tryz.prog 107 #[.int .i64 m, .slice oa A.length ca, .slice ob B.length cb] w (.int .i64 (agreeF m A B)) := by
  unfold Ans
  have HL : Hid (B.length = A.length) := hAB
  have hlb : A.length ≤ B.length := by omega
  clear hAB
  go_enter Tryz.func107, Tryz.ntmps107
  go_wp2
  go_loopw [7, 11] (fun x i wr => ∃ k : Nat, i = .int .i64 k ∧ k ≤ A.length ∧ x = .int .i64 ((List.range k).foldl (agreeStep m A B) 0) ∧ Below w.heap.size w wr) (fun _ i _ => A.length - (intOf i).toNat)
  case atStart => exact ⟨0, rfl, Nat.zero_le _, rfl, Below.refl _ _⟩
  case round =>
    obtain ⟨k, rfl, hk, rfl, hb⟩ := hrel
    by_cases hlt : k < A.length
    · obtain ⟨b1, off1, rfl, hbs1, hca⟩ := hA.at_ (by omega)
      obtain ⟨b2, off2, rfl, hbs2, hcb⟩ := hB.at_ (by omega)
      have hc1 := cell_keep (hca k hlt) hb
      have hc2 := cell_keep (hcb k (by omega)) hb
      have HS : Hid ((List.range (k + 1)).foldl (agreeStep m A B) 0 = agreeStep m A B ((List.range k).foldl (agreeStep m A B) 0) k) := range_succ_fold _ _ _
      have HG : Hid (∀ x, agreeStep m A B x k = if eqCellF m (nth A k) (nth B k) then uni x (one k) else x) := fun x => rfl
      clear hca hcb
      generalize (List.range k).foldl (agreeStep m A B) 0 = x at *
      generalize nth A k = a at *
      generalize nth B k = b at *
      cases he : eqCellF m a b
      · go_wp2_with fail
        (refine wp_region_after (by kernel_rfl) (by kernel_rfl) ?_; have q_hc1 := fun (x : After _) => cell_keep hc1 x.bel; have q_hc2 := fun (x : After _) => cell_keep hc2 x.bel; (repeat (go_big_quiet_step ((first | (go_at_call 111; exact Ans.after (Ans.eqb (c_EqualCells _ _ _ _) he)))))); clear q_hc1; clear q_hc2; refine wpQuiet_nil ?_; rintro _ ⟨⟨w1, hbn⟩, rfl⟩; (try simp only [After.w]); replace hc1 := cell_keep hc1 hbn; replace hc2 := cell_keep hc2 hbn; replace hb := bel_to (w := w) (by first | exact hb | exact hb.alloc hb.size _ | exact (hb.alloc hb.size _).alloc (Nat.le_trans hb.size (by simp)) _ | exact hb.setCell (by simp [hb.size]) _) hbn; clear hbn)
        go_wp2
        go_roundw
        case rel => exact ⟨k + 1, by go_num, by omega, by rw [HS.out, HG.out, he]; rfl, hb⟩
        case measure => simp [intOf]; omega
      · go_wp2_with fail
        (refine wp_region_after (by kernel_rfl) (by kernel_rfl) ?_; have q_hc1 := fun (x : After _) => cell_keep hc1 x.bel; have q_hc2 := fun (x : After _) => cell_keep hc2 x.bel; (repeat (go_big_quiet_step ((first | (go_at_call 111; exact Ans.after (Ans.eqb (c_EqualCells _ _ _ _) he)))))); clear q_hc1; clear q_hc2; refine wpQuiet_nil ?_; rintro _ ⟨⟨w1, hbn⟩, rfl⟩; (try simp only [After.w]); replace hc1 := cell_keep hc1 hbn; replace hc2 := cell_keep hc2 hbn; replace hb := bel_to (w := w) (by first | exact hb | exact hb.alloc hb.size _ | exact (hb.alloc hb.size _).alloc (Nat.le_trans hb.size (by simp)) _ | exact hb.setCell (by simp [hb.size]) _) hbn; clear hbn)
        go_wp2
        go_roundw
        case rel => exact ⟨k + 1, by go_num, by omega, by rw [HS.out, HG.out, he]; rfl, hb⟩
        case measure => simp [intOf]; omega
    · have hkk : k = A.length := by omega
      have HK : Hid (k = A.length) := hkk
      clear hkk
      go_wp2
      go_ret
      exact ⟨ret_int (by rw [HK.out]; rfl), hb⟩
set_option maxHeartbeats 800000 in
theorem c_l4Agree (n : Int) (oa) (ca : Nat) (R : List (List Int)) (m : Int) (i j : Nat) (w : World) (hR : RowsAt w oa R) (ht : isTabF n R = true) (hi : i < R.length) (hj : j < R.length) :
    Ans Tryz.prog 83 #[.agg #[.int .i64 n, .slice oa R.length ca], .int .i64 m, .int .i64 i, .int .i64 j] w (.int .i64 (agreeF m (row R i) (row R j))) := by
  unfold Ans
  obtain ⟨hn1, hn5, hr40, hlen⟩ := isTab_of ht
  have li := hlen i hi
  have lj := hlen j hj
  clear hlen ht
  obtain ⟨b, off, rfl, hbs, hca⟩ := hR.at_ (by omega)
  obtain ⟨o1, c1, h1, r1⟩ := hca i hi
  obtain ⟨o2, c2, h2, r2⟩ := hca j hj
  clear hca hR
  have HN : Hid (n = (row R i).length) := li.symm
  have HF : Hid (agreeF m (row R i) (row R j) = (List.range (row R i).length).foldl (agreeStep m (row R i) (row R j)) 0) := rfl
  have hAB : (row R j).length = (row R i).length := by omega
  generalize row R i = A at *
  generalize row R j = B at *
  have hA5 : A.length ≤ 5 := by omega
  have HL : Hid (B.length = A.length) := hAB
  have hlb : A.length ≤ B.length := by omega
  obtain rfl : n = (A.length : Int) := by omega
  clear hAB li lj HN
  have hb := (Below.refl w.heap.size w).alloc (Nat.le_refl _) (.cells #[.int .i64 A.length, .slice (some ⟨b, off, none⟩) R.length ca] 26)
  have b0 := box_at w #[.int .i64 A.length, .slice (some ⟨b, off, none⟩) R.length ca] 26 0 _ rfl
  have b1 := box_at w #[.int .i64 A.length, .slice (some ⟨b, off, none⟩) R.length ca] 26 1 _ rfl
  go_enter Tryz.func83, Tryz.ntmps83
  go_wp2
  go_loopw [9, 10] (fun x i wr => ∃ k : Nat, i = .int .i64 k ∧ k ≤ A.length ∧ x = .int .i64 ((List.range k).foldl (agreeStep m A B) 0) ∧ wr.cell? ⟨w.heap.size, 0, none⟩ = some (.int .i64 A.length) ∧ wr.cell? ⟨w.heap.size, 1, none⟩ = some (.slice (some ⟨b, off, none⟩) R.length ca) ∧ Below w.heap.size w wr) (fun _ i _ => A.length - (intOf i).toNat)
  case atStart => exact ⟨0, rfl, Nat.zero_le _, rfl, b0, b1, hb⟩
  case round =>
    clear b0 b1 hb
    obtain ⟨k, rfl, hk, rfl, b0, b1, hb⟩ := hrel
    have d1 := cell_keep h1 hb
    have d2 := cell_keep h2 hb
    by_cases hlt : k < A.length
    · obtain ⟨b3, off3, rfl, hbs3, hca⟩ := r1.at_ (by omega)
      obtain ⟨b4, off4, rfl, hbs4, hcb⟩ := r2.at_ (by omega)
      have hc1 := cell_keep (hca k hlt) hb
      have hc2 := cell_keep (hcb k (by omega)) hb
      have HS : Hid ((List.range (k + 1)).foldl (agreeStep m A B) 0 = agreeStep m A B ((List.range k).foldl (agreeStep m A B) 0) k) := range_succ_fold _ _ _
      have HG : Hid (∀ x, agreeStep m A B x k = if eqCellF m (nth A k) (nth B k) then uni x (one k) else x) := fun x => rfl
      clear hca hcb
      generalize (List.range k).foldl (agreeStep m A B) 0 = x at *
      generalize nth A k = a at *
      generalize nth B k = b' at *
      cases he : eqCellF m a b'
      · go_wp2_with fail
        (refine wp_region_after (by kernel_rfl) (by kernel_rfl) ?_; have q_b0 := fun (x : After _) => cell_keep b0 x.bel; have q_b1 := fun (x : After _) => cell_keep b1 x.bel; have q_d1 := fun (x : After _) => cell_keep d1 x.bel; have q_d2 := fun (x : After _) => cell_keep d2 x.bel; have q_hc1 := fun (x : After _) => cell_keep hc1 x.bel; have q_hc2 := fun (x : After _) => cell_keep hc2 x.bel; (repeat (go_big_quiet_step ((first | (go_at_call 113; exact Ans.after (Ans.eqb (c_specEqualCells _ _ _ _) he)))))); clear q_b0; clear q_b1; clear q_d1; clear q_d2; clear q_hc1; clear q_hc2; refine wpQuiet_nil ?_; rintro _ ⟨⟨w1, hbn⟩, rfl⟩; (try simp only [After.w]); replace b0 := cell_keep b0 hbn; replace b1 := cell_keep b1 hbn; replace d1 := cell_keep d1 hbn; replace d2 := cell_keep d2 hbn; replace hc1 := cell_keep hc1 hbn; replace hc2 := cell_keep hc2 hbn; replace hb := bel_to (w := w) (by first | exact hb | exact hb.alloc hb.size _ | exact (hb.alloc hb.size _).alloc (Nat.le_trans hb.size (by simp)) _ | exact hb.setCell (by simp [hb.size]) _) hbn; clear hbn)
        go_wp2
        go_roundw
        case rel => exact ⟨k + 1, by go_num, by omega, by rw [HS.out, HG.out, he]; rfl, b0, b1, hb⟩
        case measure => simp [intOf]; omega
      · go_wp2_with fail
        (refine wp_region_after (by kernel_rfl) (by kernel_rfl) ?_; have q_b0 := fun (x : After _) => cell_keep b0 x.bel; have q_b1 := fun (x : After _) => cell_keep b1 x.bel; have q_d1 := fun (x : After _) => cell_keep d1 x.bel; have q_d2 := fun (x : After _) => cell_keep d2 x.bel; have q_hc1 := fun (x : After _) => cell_keep hc1 x.bel; have q_hc2 := fun (x : After _) => cell_keep hc2 x.bel; (repeat (go_big_quiet_step ((first | (go_at_call 113; exact Ans.after (Ans.eqb (c_specEqualCells _ _ _ _) he)))))); clear q_b0; clear q_b1; clear q_d1; clear q_d2; clear q_hc1; clear q_hc2; refine wpQuiet_nil ?_; rintro _ ⟨⟨w1, hbn⟩, rfl⟩; (try simp only [After.w]); replace b0 := cell_keep b0 hbn; replace b1 := cell_keep b1 hbn; replace d1 := cell_keep d1 hbn; replace d2 := cell_keep d2 hbn; replace hc1 := cell_keep hc1 hbn; replace hc2 := cell_keep hc2 hbn; replace hb := bel_to (w := w) (by first | exact hb | exact hb.alloc hb.size _ | exact (hb.alloc hb.size _).alloc (Nat.le_trans hb.size (by simp)) _ | exact hb.setCell (by simp [hb.size]) _) hbn; clear hbn)
        go_wp2
        go_roundw
        case rel => exact ⟨k + 1, by go_num, by omega, by rw [HS.out, HG.out, he]; rfl, b0, b1, hb⟩
        case measure => simp [intOf]; omega
    · have hkk : k = A.length := by omega
      have HK : Hid (k = A.length) := hkk
      clear hkk
      go_wp2
      go_ret
      exact ⟨ret_int (by rw [HF.out, HK.out]), hb⟩
end Go.Proofs.YtcenndlbhgfdfaaGreat
namespace Go.Proofs.YtcenndlbhgfdfaaGreat
open Go.RowKit
set_option linter.unusedVariables false
set_option maxRecDepth 100000

theorem two_a (w : World) (c1 : Array Value) (T1 : TypeId) (c2 : Array Value) (T2 : TypeId) (j : Nat) (v : Value) (h : c1[j]? = some v) : ((w.alloc (.cells c1 T1)).alloc (.cells c2 T2)).cell? ⟨w.heap.size, j, none⟩ = some v :=
  cell_keep (box_at w c1 T1 j v h) ((Below.refl _ _).alloc (Nat.le_refl _) _)
theorem two_b (w : World) (c1 : Array Value) (T1 : TypeId) (c2 : Array Value) (T2 : TypeId) (j : Nat) (v : Value) (h : c2[j]? = some v) : ((w.alloc (.cells c1 T1)).alloc (.cells c2 T2)).cell? ⟨w.heap.size + 1, j, none⟩ = some v := by
  have := box_at (w.alloc (.cells c1 T1)) c2 T2 j v h
  simpa using this
theorem bel2 (w : World) (o1 o2 : Obj) : Below w.heap.size w ((w.alloc o1).alloc o2) := ((Below.refl w.heap.size w).alloc (Nat.le_refl _) o1).alloc (by simp) o2

def askF (n : Int) (R : List (List Int)) (m l r : Int) : Bool := (isTabF n R && modeF m) && isDepF n l r
def violF (R : List (List Int)) (m l r : Int) (i k : Nat) : Bool := ins l (agreeF m (row R i) (row R k)) && !hasc (agreeF m (row R i) (row R k)) r
def holdsF (R : List (List Int)) (m l r : Int) : Bool := decide (∀ i, i < R.length → ∀ k, k < R.length → i < k → violF R m l r i k = false)
theorem holdsF_no {R : List (List Int)} {m l r : Int} {i k : Nat} (hik : i < k) (hk : k < R.length) (h : violF R m l r i k = true) : holdsF R m l r = false := by
  unfold holdsF
  rw [decide_eq_false_iff_not]
  intro H
  have := H i (by omega) k hk hik
  rw [h] at this
  cases this
theorem dep_of {n l r : Int} (h : isDepF n l r = true) (h5 : n ≤ 5) : St l ∧ Co r := by
  unfold isDepF at h
  simp only [Bool.and_eq_true, decide_eq_true_eq] at h
  obtain ⟨⟨⟨h1, h2⟩, h3⟩, h4⟩ := h
  unfold isAttr at h2
  simp only [Bool.and_eq_true, decide_eq_true_eq] at h2
  have hp := (pow_wrap (n := n) (by omega) h5).2.1
  exact ⟨⟨h2.1.2, by omega⟩, ⟨h3, by omega⟩⟩
theorem agreeStep_st {m : Int} {A B : List Int} {x : Int} {c : Nat} (hx : St x) (hc : c < 5) : St (agreeStep m A B x c) := by
  unfold agreeStep
  split
  · exact uni_st hx (one_st ⟨by omega, by omega⟩)
  · exact hx
theorem agreeF_st {m : Int} {A B : List Int} (h : A.length ≤ 5) : St (agreeF m A B) := by
  have : ∀ k, k ≤ 5 → St ((List.range k).foldl (agreeStep m A B) 0) := by
    intro k
    induction k with
    | zero => intro _; exact ⟨by simp, by simp⟩
    | succ k ih => intro hk; rw [range_succ_fold]; exact agreeStep_st (ih (by omega)) (by omega)
  exact this _ h

theorem c_asked (n : Int) (oa) (cap : Nat) (R : List (List Int)) (m l r : Int) (w : World) (hR : RowsAt w oa R) :
    Ans Tryz.prog 77 #[.agg #[.int .i64 n, .slice oa R.length cap], .int .i64 m, .agg #[.int .i64 l, .int .i64 r]] w (.bool (askF n R m l r)) := by
  unfold Ans askF
  have hb := bel2 w (.cells #[.int .i64 n, .slice oa R.length cap] 26) (.cells #[.int .i64 l, .int .i64 r] 38)
  have a0 := two_a w #[.int .i64 n, .slice oa R.length cap] 26 #[.int .i64 l, .int .i64 r] 38 0 _ rfl
  have d0 := two_b w #[.int .i64 n, .slice oa R.length cap] 26 #[.int .i64 l, .int .i64 r] 38 0 _ rfl
  have d1 := two_b w #[.int .i64 n, .slice oa R.length cap] 26 #[.int .i64 l, .int .i64 r] 38 1 _ rfl
  go_enter Tryz.func77, Tryz.ntmps77
  cases ht : isTabF n R
  · go_wp2_with (first | (go_at_call 60; refine Calls.mono (Ans.eqb (c_IsTable _ _ _ _ _ (hR.keep hb)) ht) ?_; rintro e w1 ⟨rfl, hbn⟩; replace a0 := cell_keep a0 hbn; replace d0 := cell_keep d0 hbn; replace d1 := cell_keep d1 hbn; replace hb := bel_to (w := w) (by first | exact hb | exact hb.alloc hb.size _ | exact (hb.alloc hb.size _).alloc (Nat.le_trans hb.size (by simp)) _ | exact hb.setCell (by simp [hb.size]) _) hbn; clear hbn))
    go_ret
    exact ⟨rfl, hb⟩
  · cases hm : modeF m
    · go_wp2_with (first | (go_at_call 60; refine Calls.mono (Ans.eqb (c_IsTable _ _ _ _ _ (hR.keep hb)) ht) ?_; rintro e w1 ⟨rfl, hbn⟩; replace a0 := cell_keep a0 hbn; replace d0 := cell_keep d0 hbn; replace d1 := cell_keep d1 hbn; replace hb := bel_to (w := w) (by first | exact hb | exact hb.alloc hb.size _ | exact (hb.alloc hb.size _).alloc (Nat.le_trans hb.size (by simp)) _ | exact hb.setCell (by simp [hb.size]) _) hbn; clear hbn) | (go_at_call 61; refine Calls.mono (Ans.eqb (c_isMode _ _) hm) ?_; rintro e w1 ⟨rfl, hbn⟩; replace a0 := cell_keep a0 hbn; replace d0 := cell_keep d0 hbn; replace d1 := cell_keep d1 hbn; replace hb := bel_to (w := w) (by first | exact hb | exact hb.alloc hb.size _ | exact (hb.alloc hb.size _).alloc (Nat.le_trans hb.size (by simp)) _ | exact hb.setCell (by simp [hb.size]) _) hbn; clear hbn))
      go_ret
      exact ⟨rfl, hb⟩
    · go_wp2_with (first | (go_at_call 60; refine Calls.mono (Ans.eqb (c_IsTable _ _ _ _ _ (hR.keep hb)) ht) ?_; rintro e w1 ⟨rfl, hbn⟩; replace a0 := cell_keep a0 hbn; replace d0 := cell_keep d0 hbn; replace d1 := cell_keep d1 hbn; replace hb := bel_to (w := w) (by first | exact hb | exact hb.alloc hb.size _ | exact (hb.alloc hb.size _).alloc (Nat.le_trans hb.size (by simp)) _ | exact hb.setCell (by simp [hb.size]) _) hbn; clear hbn) | (go_at_call 61; refine Calls.mono (Ans.eqb (c_isMode _ _) hm) ?_; rintro e w1 ⟨rfl, hbn⟩; replace a0 := cell_keep a0 hbn; replace d0 := cell_keep d0 hbn; replace d1 := cell_keep d1 hbn; replace hb := bel_to (w := w) (by first | exact hb | exact hb.alloc hb.size _ | exact (hb.alloc hb.size _).alloc (Nat.le_trans hb.size (by simp)) _ | exact hb.setCell (by simp [hb.size]) _) hbn; clear hbn) | (go_at_call 108; refine Calls.mono (c_isDep _ _ _ _) ?_; rintro e w1 ⟨rfl, hbn⟩; replace a0 := cell_keep a0 hbn; replace d0 := cell_keep d0 hbn; replace d1 := cell_keep d1 hbn; replace hb := bel_to (w := w) (by first | exact hb | exact hb.alloc hb.size _ | exact (hb.alloc hb.size _).alloc (Nat.le_trans hb.size (by simp)) _ | exact hb.setCell (by simp [hb.size]) _) hbn; clear hbn))
      go_ret
      exact ⟨rfl, hb⟩

set_option maxHeartbeats 1600000 in
theorem c_WitnessOf (n : Int) (oa) (cap : Nat) (R : List (List Int)) (m l r : Int) (w : World) (hR : RowsAt w oa R) :
    Calls Tryz.prog 76 #[.agg #[.int .i64 n, .slice oa R.length cap], .int .i64 m, .agg #[.int .i64 l, .int .i64 r]] w fun e w' => (∃ x y : Int, e = .returned (.tuple #[.int .i64 x, .int .i64 y, .bool (askF n R m l r && !holdsF R m l r)])) ∧ Below w.heap.size w w' := by
  have hb := bel2 w (.cells #[.int .i64 n, .slice oa R.length cap] 26) (.cells #[.int .i64 l, .int .i64 r] 38)
  have a0 := two_a w #[.int .i64 n, .slice oa R.length cap] 26 #[.int .i64 l, .int .i64 r] 38 0 _ rfl
  have a1 := two_a w #[.int .i64 n, .slice oa R.length cap] 26 #[.int .i64 l, .int .i64 r] 38 1 _ rfl
  have d0 := two_b w #[.int .i64 n, .slice oa R.length cap] 26 #[.int .i64 l, .int .i64 r] 38 0 _ rfl
  have d1 := two_b w #[.int .i64 n, .slice oa R.length cap] 26 #[.int .i64 l, .int .i64 r] 38 1 _ rfl
  cases hask : askF n R m l r
  · go_enter Tryz.func76, Tryz.ntmps76
    go_wp2_with (first | (go_at_call 77; refine Calls.mono (Ans.eqb (c_asked _ _ _ _ _ _ _ _ (hR.keep hb)) hask) ?_; rintro e w1 ⟨rfl, hbn⟩; replace a0 := cell_keep a0 hbn; replace a1 := cell_keep a1 hbn; replace d0 := cell_keep d0 hbn; replace d1 := cell_keep d1 hbn; replace hb := bel_to (w := w) (by first | exact hb | exact hb.alloc hb.size _ | exact (hb.alloc hb.size _).alloc (Nat.le_trans hb.size (by simp)) _ | exact hb.setCell (by simp [hb.size]) _) hbn; clear hbn))
    go_ret3
    exact ⟨⟨_, _, rfl⟩, hb⟩
  · have hk := hask
    unfold askF at hk
    simp only [Bool.and_eq_true] at hk
    obtain ⟨⟨ht, hm⟩, hd⟩ := hk
    obtain ⟨hn1, hn5, hr40, hlen⟩ := isTab_of ht
    obtain ⟨hsl, hcr⟩ := dep_of hd hn5
    have hcr64 : 0 ≤ r ∧ r < 64 := ⟨hcr.1, by have := hcr.2; omega⟩
    have HL : Hid (∀ k, k < R.length → ((row R k).length : Int) = n) := hlen
    have HH : Hid ((∀ i, i < R.length → ∀ k, k < R.length → i < k → violF R m l r i k = false) → holdsF R m l r = true) := fun h => decide_eq_true h
    have HN : Hid (∀ i k, i < k → k < R.length → violF R m l r i k = true → holdsF R m l r = false) := fun i k h1 h2 h3 => holdsF_no h1 h2 h3
    clear hm ht hlen hcr hd
    go_enter Tryz.func76, Tryz.ntmps76
    go_wp2_with (first | (go_at_call 77; refine Calls.mono (Ans.eqb (c_asked _ _ _ _ _ _ _ _ (hR.keep hb)) hask) ?_; rintro e w1 ⟨rfl, hbn⟩; replace a0 := cell_keep a0 hbn; replace a1 := cell_keep a1 hbn; replace d0 := cell_keep d0 hbn; replace d1 := cell_keep d1 hbn; replace hb := bel_to (w := w) (by first | exact hb | exact hb.alloc hb.size _ | exact (hb.alloc hb.size _).alloc (Nat.le_trans hb.size (by simp)) _ | exact hb.setCell (by simp [hb.size]) _) hbn; clear hbn))
    go_loopw [21] (fun i wr => ∃ k : Nat, i = .int .i64 k ∧ k ≤ R.length ∧ (∀ i, i < k → ∀ k, k < R.length → i < k → violF R m l r i k = false) ∧ wr.cell? ⟨w.heap.size, 1, none⟩ = some (.slice oa R.length cap) ∧ wr.cell? ⟨w.heap.size + 1, 0, none⟩ = some (.int .i64 l) ∧ wr.cell? ⟨w.heap.size + 1, 1, none⟩ = some (.int .i64 r) ∧ Below w.heap.size w wr) (fun i _ => R.length - (intOf i).toNat)
    case atStart => exact ⟨0, rfl, Nat.zero_le _, fun i hi => absurd hi (by omega), a1, d0, d1, hb⟩
    case round =>
      clear a0 a1 d0 d1 hb
      obtain ⟨i, rfl, hi, hall, a1, d0, d1, hb⟩ := hrel
      have HA : Hid (∀ i', i' < i → ∀ k, k < R.length → i' < k → violF R m l r i' k = false) := hall
      clear hall
      by_cases hlt : i < R.length
      · obtain ⟨b, off, rfl, hbs, hca⟩ := hR.at_ (by omega)
        obtain ⟨o1, c1, e1, r1⟩ := hca i hlt
        have hc1 := cell_keep e1 hb
        have HC : Hid (∀ k, k < R.length → ∃ o c, w.cell? ⟨b, off + k, none⟩ = some (.slice o (row R k).length c) ∧ IntsAt w o (row R k)) := hca
        clear hca e1
        go_wp2
        go_loopw [11] (fun i' wr => ∃ k : Nat, i' = .int .i64 k ∧ i < k ∧ k ≤ R.length ∧ (∀ k', k' < k → i < k' → violF R m l r i k' = false) ∧ wr.cell? ⟨w.heap.size, 1, none⟩ = some (.slice (some ⟨b, off, none⟩) R.length cap) ∧ wr.cell? ⟨w.heap.size + 1, 0, none⟩ = some (.int .i64 l) ∧ wr.cell? ⟨w.heap.size + 1, 1, none⟩ = some (.int .i64 r) ∧ Below w.heap.size w wr) (fun i _ => R.length - (intOf i).toNat)
        case atStart => exact ⟨i + 1, by go_num, by omega, by omega, fun k' h1 h2 => absurd h1 (by omega), a1, d0, d1, hb⟩
        case round =>
          clear a1 d0 d1 hb hc1
          obtain ⟨k, rfl, hik, hk, hall, a1, d0, d1, hb⟩ := hrel
          have HI : Hid (∀ k', k' < k → i < k' → violF R m l r i k' = false) := hall
          clear hall
          by_cases hlk : k < R.length
          · obtain ⟨o2, c2, e2, r2⟩ := HC.out k hlk
            have hc2 := cell_keep e2 hb
            have hA5 : (row R i).length ≤ 5 := by have := HL.out i hlt; omega
            have hAB : Hid ((row R k).length = (row R i).length) := by have h1 := HL.out i hlt; have h2 := HL.out k hlk; show (row R k).length = (row R i).length; omega
            have HV : Hid (violF R m l r i k = (ins l (agreeF m (row R i) (row R k)) && !hasc (agreeF m (row R i) (row R k)) r)) := rfl
            clear e2
            go_wp2_with fail
            refine Calls.mono (c_agree m _ _ _ _ _ _ _ (r1.keep hb) (r2.keep hb) hA5 hAB.out) ?_
            rintro e w1 ⟨rfl, hbn⟩
            replace a1 := cell_keep a1 hbn
            replace d0 := cell_keep d0 hbn
            replace d1 := cell_keep d1 hbn
            replace hb := bel_to hb hbn
            clear hbn hc2 hAB hA5
            generalize agreeF m (row R i) (row R k) = x at *
            cases h1 : ins l x
            · go_wp2_with (first | (go_at_call 89; refine Calls.mono (Ans.eqb (c_inside _ _ _) h1) ?_; rintro e w1 ⟨rfl, hbn⟩; replace a1 := cell_keep a1 hbn; replace d0 := cell_keep d0 hbn; replace d1 := cell_keep d1 hbn; replace hb := bel_to (w := w) (by first | exact hb | exact hb.alloc hb.size _ | exact (hb.alloc hb.size _).alloc (Nat.le_trans hb.size (by simp)) _ | exact hb.setCell (by simp [hb.size]) _) hbn; clear hbn))
              go_roundw
              case rel => exact ⟨k + 1, by go_num, by omega, by omega, lt_step (p := fun k' => i < k' → violF R m l r i k' = false) HI.out (fun _ => by rw [HV.out, h1]; rfl), a1, d0, d1, hb⟩
              case measure => simp [intOf]; omega
            · cases h2 : hasc x r
              · go_wp2_with (first | (go_at_call 89; refine Calls.mono (Ans.eqb (c_inside _ _ _) h1) ?_; rintro e w1 ⟨rfl, hbn⟩; replace a1 := cell_keep a1 hbn; replace d0 := cell_keep d0 hbn; replace d1 := cell_keep d1 hbn; replace hb := bel_to (w := w) (by first | exact hb | exact hb.alloc hb.size _ | exact (hb.alloc hb.size _).alloc (Nat.le_trans hb.size (by simp)) _ | exact hb.setCell (by simp [hb.size]) _) hbn; clear hbn) | (go_at_call 67; refine Calls.mono (Ans.eqb (c_has _ _ hcr64 _) h2) ?_; rintro e w1 ⟨rfl, hbn⟩; replace a1 := cell_keep a1 hbn; replace d0 := cell_keep d0 hbn; replace d1 := cell_keep d1 hbn; replace hb := bel_to (w := w) (by first | exact hb | exact hb.alloc hb.size _ | exact (hb.alloc hb.size _).alloc (Nat.le_trans hb.size (by simp)) _ | exact hb.setCell (by simp [hb.size]) _) hbn; clear hbn))
                go_ret3
                exact ⟨⟨_, _, by rw [HN.out i k hik hlk (by rw [HV.out, h1, h2]; rfl)]; rfl⟩, hb⟩
              · go_wp2_with (first | (go_at_call 89; refine Calls.mono (Ans.eqb (c_inside _ _ _) h1) ?_; rintro e w1 ⟨rfl, hbn⟩; replace a1 := cell_keep a1 hbn; replace d0 := cell_keep d0 hbn; replace d1 := cell_keep d1 hbn; replace hb := bel_to (w := w) (by first | exact hb | exact hb.alloc hb.size _ | exact (hb.alloc hb.size _).alloc (Nat.le_trans hb.size (by simp)) _ | exact hb.setCell (by simp [hb.size]) _) hbn; clear hbn) | (go_at_call 67; refine Calls.mono (Ans.eqb (c_has _ _ hcr64 _) h2) ?_; rintro e w1 ⟨rfl, hbn⟩; replace a1 := cell_keep a1 hbn; replace d0 := cell_keep d0 hbn; replace d1 := cell_keep d1 hbn; replace hb := bel_to (w := w) (by first | exact hb | exact hb.alloc hb.size _ | exact (hb.alloc hb.size _).alloc (Nat.le_trans hb.size (by simp)) _ | exact hb.setCell (by simp [hb.size]) _) hbn; clear hbn))
                go_roundw
                case rel => exact ⟨k + 1, by go_num, by omega, by omega, lt_step (p := fun k' => i < k' → violF R m l r i k' = false) HI.out (fun _ => by rw [HV.out, h1, h2]; rfl), a1, d0, d1, hb⟩
                case measure => simp [intOf]; omega
          · have HI2 : Hid (∀ k', k' < R.length → i < k' → violF R m l r i k' = false) := fun k' h1 h2 => HI.out k' (by omega) h2
            go_wp2
            go_roundw
            case rel => exact ⟨i + 1, by go_num, by omega, lt_step (p := fun i => ∀ k, k < R.length → i < k → violF R m l r i k = false) HA.out HI2.out, a1, d0, d1, hb⟩
            case measure => simp [intOf]; omega
      · have HE : Hid (holdsF R m l r = true) := HH.out fun i' h1 => HA.out i' (by omega)
        go_wp2
        go_ret3
        exact ⟨⟨_, _, by rw [HE.out]; rfl⟩, hb⟩
theorem c_HoldsDep (n : Int) (oa) (cap : Nat) (R : List (List Int)) (m l r : Int) (w : World) (hR : RowsAt w oa R) :
    Ans Tryz.prog 33 #[.agg #[.int .i64 n, .slice oa R.length cap], .int .i64 m, .agg #[.int .i64 l, .int .i64 r]] w (.bool (askF n R m l r && holdsF R m l r)) := by
  unfold Ans
  have hb := bel2 w (.cells #[.int .i64 n, .slice oa R.length cap] 26) (.cells #[.int .i64 l, .int .i64 r] 38)
  have a0 := two_a w #[.int .i64 n, .slice oa R.length cap] 26 #[.int .i64 l, .int .i64 r] 38 0 _ rfl
  have a1 := two_a w #[.int .i64 n, .slice oa R.length cap] 26 #[.int .i64 l, .int .i64 r] 38 1 _ rfl
  have d0 := two_b w #[.int .i64 n, .slice oa R.length cap] 26 #[.int .i64 l, .int .i64 r] 38 0 _ rfl
  have d1 := two_b w #[.int .i64 n, .slice oa R.length cap] 26 #[.int .i64 l, .int .i64 r] 38 1 _ rfl
  have hW := c_WitnessOf n oa cap R m l r _ (hR.keep hb)
  have HK := fun (w' : World) (h : RowsAt w' oa R) => c_asked n oa cap R m l r w' h
  cases hask : askF n R m l r <;> cases hh : holdsF R m l r <;> rw [hask, hh] at hW <;> (
    go_enter Tryz.func33, Tryz.ntmps33
    go_wp2_with fail
    refine hW.mono ?_
    rintro e w1 ⟨⟨x, y, rfl⟩, hbn⟩
    replace a0 := cell_keep a0 hbn
    replace a1 := cell_keep a1 hbn
    replace d0 := cell_keep d0 hbn
    replace d1 := cell_keep d1 hbn
    replace hb := bel_to hb hbn
    clear hbn
    go_wp2_with (first | (go_at_call 77; refine Calls.mono (Ans.eqb (HK _ (hR.keep hb)) hask) ?_; rintro e w1 ⟨rfl, hbn⟩; replace a0 := cell_keep a0 hbn; replace a1 := cell_keep a1 hbn; replace d0 := cell_keep d0 hbn; replace d1 := cell_keep d1 hbn; replace hb := bel_to (w := w) (by first | exact hb | exact hb.alloc hb.size _ | exact (hb.alloc hb.size _).alloc (Nat.le_trans hb.size (by simp)) _ | exact hb.setCell (by simp [hb.size]) _) hbn; clear hbn))
    go_ret
    exact ⟨rfl, hb⟩)
end Go.Proofs.YtcenndlbhgfdfaaGreat
namespace Go.Proofs.YtcenndlbhgfdfaaGreat
open Go.RowKit
set_option linter.unusedVariables false
set_option maxRecDepth 100000

/-- x is the set in which two rows agree, the second of them before place i; or the second is i and the first before place j. -/
def agP (R : List (List Int)) (m : Int) (i j : Nat) (x : Int) : Prop := (∃ b, b < i ∧ ∃ a, a < b ∧ agreeF m (row R a) (row R b) = x) ∨ ∃ a, a < j ∧ agreeF m (row R a) (row R i) = x
/-- the same, first rows before place i; or the first is i and the second behind it and before place j -/
def agQ (R : List (List Int)) (m : Int) (i j : Nat) (x : Int) : Prop := (∃ a, a < i ∧ ∃ b, b < R.length ∧ a < b ∧ agreeF m (row R a) (row R b) = x) ∨ ∃ b, b < j ∧ i < b ∧ agreeF m (row R i) (row R b) = x
def agPB (R : List (List Int)) (m : Int) (i j : Nat) (x : Int) : Bool := ((List.range i).any fun b => (List.range b).any fun a => agreeF m (row R a) (row R b) == x) || (List.range j).any fun a => agreeF m (row R a) (row R i) == x
def agQB (R : List (List Int)) (m : Int) (i j : Nat) (x : Int) : Bool := ((List.range i).any fun a => (List.range R.length).any fun b => decide (a < b) && (agreeF m (row R a) (row R b) == x)) || (List.range j).any fun b => decide (i < b) && (agreeF m (row R i) (row R b) == x)
theorem agPB_iff {R : List (List Int)} {m : Int} {i j : Nat} {x : Int} : agPB R m i j x = true ↔ agP R m i j x := by
  unfold agPB agP
  simp [List.any_eq_true]
theorem agQB_iff {R : List (List Int)} {m : Int} {i j : Nat} {x : Int} : agQB R m i j x = true ↔ agQ R m i j x := by
  unfold agQB agQ
  simp [List.any_eq_true]
def agreeSetsF (n : Int) (R : List (List Int)) (m : Int) : List Int := if isTabF n R && modeF m then flt (agPB R m R.length 0) 32 else []
theorem eqCell_comm (m a b : Int) : eqCellF m a b = eqCellF m b a := by
  unfold eqCellF
  by_cases h : a = b
  · subst h; rfl
  · have h1 : (a == b) = false := by simpa using h
    have h2 : (b == a) = false := by simpa using (fun e : b = a => h e.symm)
    rw [h1, h2]; simp
theorem agree_comm {m : Int} {A B : List Int} (h : A.length = B.length) : agreeF m A B = agreeF m B A := by
  unfold agreeF
  rw [h]
  congr 1
  funext x c
  unfold agreeStep
  rw [eqCell_comm]
theorem agPB_step (R : List (List Int)) (m : Int) (i j : Nat) (hij : j < i) : (fun x => agPB R m i j x || x == agreeF m (row R j) (row R i)) = agPB R m i (j + 1) := by
  funext x
  rw [Bool.eq_iff_iff, Bool.or_eq_true, agPB_iff, agPB_iff]
  unfold agP
  constructor
  · rintro ((h | ⟨a, ha, e⟩) | e)
    · exact .inl h
    · exact .inr ⟨a, by omega, e⟩
    · exact .inr ⟨j, by omega, by simpa using (beq_iff_eq.1 e).symm⟩
  · rintro (h | ⟨a, ha, e⟩)
    · exact .inl (.inl h)
    · by_cases hj : a = j
      · subst hj; exact .inr (by simp [e])
      · exact .inl (.inr ⟨a, by omega, e⟩)
theorem agPB_next (R : List (List Int)) (m : Int) (i : Nat) : agPB R m i i = agPB R m (i + 1) 0 := by
  funext x
  rw [Bool.eq_iff_iff, agPB_iff, agPB_iff]
  unfold agP
  constructor
  · rintro (⟨b, hb, h⟩ | ⟨a, ha, e⟩)
    · exact .inl ⟨b, by omega, h⟩
    · exact .inl ⟨i, by omega, a, ha, e⟩
  · rintro (⟨b, hb, a, ha, e⟩ | ⟨a, ha, _⟩)
    · by_cases h : b = i
      · subst h; exact .inr ⟨a, ha, e⟩
      · exact .inl ⟨b, by omega, a, ha, e⟩
    · omega
theorem agQB_step (R : List (List Int)) (m : Int) (i j : Nat) (hij : i < j) : (fun x => agQB R m i j x || x == agreeF m (row R i) (row R j)) = agQB R m i (j + 1) := by
  funext x
  rw [Bool.eq_iff_iff, Bool.or_eq_true, agQB_iff, agQB_iff]
  unfold agQ
  constructor
  · rintro ((h | ⟨b, hb, hib, e⟩) | e)
    · exact .inl h
    · exact .inr ⟨b, by omega, hib, e⟩
    · exact .inr ⟨j, by omega, hij, by simpa using (beq_iff_eq.1 e).symm⟩
  · rintro (h | ⟨b, hb, hib, e⟩)
    · exact .inl (.inl h)
    · by_cases hj : b = j
      · subst hj; exact .inr (by simp [e])
      · exact .inl (.inr ⟨b, by omega, hib, e⟩)
theorem agQB_next (R : List (List Int)) (m : Int) (i : Nat) (hi : i < R.length) : agQB R m i R.length = agQB R m (i + 1) (i + 2) := by
  funext x
  rw [Bool.eq_iff_iff, agQB_iff, agQB_iff]
  unfold agQ
  constructor
  · rintro (⟨a, ha, h⟩ | ⟨b, hb, hib, e⟩)
    · exact .inl ⟨a, by omega, h⟩
    · exact .inl ⟨i, by omega, b, hb, hib, e⟩
  · rintro (⟨a, ha, b, hb, hab, e⟩ | ⟨b, hb, hib, _⟩)
    · by_cases h : a = i
      · subst h; exact .inr ⟨b, hb, hab, e⟩
      · exact .inl ⟨a, by omega, b, hb, hab, e⟩
    · omega
theorem agQB_first (R : List (List Int)) (m : Int) (i : Nat) : agQB R m i (i + 1) = agQB R m i 0 := by
  funext x
  rw [Bool.eq_iff_iff, agQB_iff, agQB_iff]
  unfold agQ
  constructor
  · rintro (h | ⟨b, hb, hib, _⟩)
    · exact .inl h
    · omega
  · rintro (h | ⟨b, hb, _⟩)
    · exact .inl h
    · omega
theorem agQB_all (R : List (List Int)) (m : Int) : agQB R m R.length 0 = agPB R m R.length 0 := by
  funext x
  rw [Bool.eq_iff_iff, agQB_iff, agPB_iff]
  unfold agQ agP
  constructor
  · rintro (⟨a, ha, b, hb, hab, e⟩ | ⟨b, hb, _⟩)
    · exact .inl ⟨b, hb, a, hab, e⟩
    · omega
  · rintro (⟨b, hb, a, ha, e⟩ | ⟨b, hb, _⟩)
    · exact .inl ⟨a, by omega, b, hb, ha, e⟩
    · omega
theorem agQB_none (R : List (List Int)) (m : Int) : flt (agQB R m 0 0) 32 = [] := by
  have : agQB R m 0 0 = fun _ => false := by
    funext x
    rw [Bool.eq_iff_iff, agQB_iff]
    unfold agQ
    constructor
    · rintro (⟨a, ha, _⟩ | ⟨b, hb, _⟩) <;> omega
    · intro h; cases h
  rw [this]; unfold flt; simp
/-- What the list holds, as it grows. -/
def AgL (R : List (List Int)) (m : Int) (i j : Nat) (L : List Int) : Prop := (∀ x, x ∈ L ↔ agP R m i j x) ∧ (∀ x ∈ L, St x) ∧ L.length ≤ 40 * i + j
theorem AgL.none (R : List (List Int)) (m : Int) : AgL R m 0 0 [] := by
  refine ⟨fun x => ⟨fun h => (by cases h), fun h => ?_⟩, fun x hx => (by cases hx), Nat.zero_le _⟩
  unfold agP at h
  rcases h with ⟨b, hb, _⟩ | ⟨a, ha, _⟩
  · omega
  · omega
theorem AgL.distinct {R : List (List Int)} {m : Int} {L : List Int} (h : AgL R m R.length 0 L) : distinctF L = flt (agPB R m R.length 0) 32 := by
  rw [distinctF_flt h.2.1]
  congr 1
  funext x
  rw [Bool.eq_iff_iff, agPB_iff, ← h.1]
  unfold inB'
  simp
theorem AgL.snoc {R : List (List Int)} {m : Int} {i j : Nat} {L : List Int} (h : AgL R m i j L) (hij : j < i) {x : Int} (hx : x = agreeF m (row R j) (row R i)) (hs : St x) : AgL R m i (j + 1) (L ++ [x]) := by
  refine ⟨fun y => ?_, fun y hy => ?_, by simp; have := h.2.2; omega⟩
  · have e := congrFun (agPB_step R m i j hij) y
    rw [List.mem_append, List.mem_singleton, h.1, ← agPB_iff (j := j + 1), ← e, Bool.or_eq_true, agPB_iff, hx]
    simp
  · rcases List.mem_append.1 hy with hy | hy
    · exact h.2.1 y hy
    · simp at hy; subst hy; exact hs
theorem AgL.next {R : List (List Int)} {m : Int} {i : Nat} {L : List Int} (h : AgL R m i i L) (hi : i ≤ 40) : AgL R m (i + 1) 0 L := by
  refine ⟨fun y => ?_, h.2.1, by have := h.2.2; omega⟩
  have e := congrFun (agPB_next R m i) y
  rw [h.1, ← agPB_iff, e, agPB_iff]
theorem agreeSets_st {n : Int} {R : List (List Int)} {m : Int} : ∀ x ∈ agreeSetsF n R m, St x := by
  unfold agreeSetsF
  split
  · intro x hx; have := (flt_mem.1 hx).1; exact ⟨by omega, by omega⟩
  · intro x hx; cases hx
theorem agreeSets_len (n : Int) (R : List (List Int)) (m : Int) : (agreeSetsF n R m).length ≤ 32 := by
  unfold agreeSetsF
  split
  · exact flt_le _ _
  · simp
end Go.Proofs.YtcenndlbhgfdfaaGreat
namespace Go.Proofs.YtcenndlbhgfdfaaGreat
open Go.RowKit
set_option linter.unusedVariables false
set_option maxRecDepth 100000

end Go.Proofs.YtcenndlbhgfdfaaGreat
namespace Go.Proofs.YtcenndlbhgfdfaaGreat
open Go.RowKit
set_option linter.unusedVariables false
set_option maxRecDepth 100000

def growOne (e x : Int) : List Int := if apart x e then (membersF e).map (fun c => uni x (one c)) else [x]
def grownF (L : List Int) (e : Int) : List Int := L.flatMap (growOne e)
def growOk (L : List Int) (e : Int) : Bool := (setsF L && decide (L.length ≤ 100)) && stB e
def growF (L : List Int) (e : Int) : List Int := if growOk L e then minF (distinctF (grownF L e)) else []
theorem growOne_len (e x : Int) : (growOne e x).length ≤ 5 := by
  unfold growOne
  split
  · rw [List.length_map]; exact members_len e
  · simp
theorem grown_succ {L : List Int} (e : Int) {k : Nat} (hk : k < L.length) : grownF (L.take (k + 1)) e = grownF (L.take k) e ++ growOne e (nth L k) := by
  unfold grownF
  rw [List.take_add_one, nth_eq hk, List.flatMap_append]
  simp
theorem grown_len (e : Int) : ∀ L : List Int, (grownF L e).length ≤ 5 * L.length
  | [] => by simp [grownF]
  | x :: L => by
    have h1 := growOne_len e x
    have h2 := grown_len e L
    have : grownF (x :: L) e = growOne e x ++ grownF L e := rfl
    rw [this, List.length_append, List.length_cons]
    omega
theorem growOne_st {e x : Int} (hx : St x) : ∀ y ∈ growOne e x, St y := by
  intro y hy
  unfold growOne at hy
  split at hy
  · obtain ⟨c, hc, rfl⟩ := List.mem_map.1 hy
    exact uni_st hx (one_st (members_co c hc).1)
  · simp at hy; subst hy; exact hx
theorem grown_st {L : List Int} {e : Int} (h : ∀ x ∈ L, St x) : ∀ y ∈ grownF L e, St y := by
  intro y hy
  obtain ⟨x, hx, hy⟩ := List.mem_flatMap.1 hy
  exact growOne_st (h x hx) y hy
theorem growF_len (L : List Int) (e : Int) : (growF L e).length ≤ Room := by
  unfold growF
  split
  · have := minF_len (distinctF (grownF L e)); unfold Room; omega
  · simp
theorem map_take_succ {f : Int → Int} {M : List Int} {j : Nat} (h : j < M.length) : (M.take (j + 1)).map f = (M.take j).map f ++ [f (nth M j)] := by
  rw [List.take_add_one, nth_eq h, List.map_append]; rfl

end Go.Proofs.YtcenndlbhgfdfaaGreat
namespace Go.Proofs.YtcenndlbhgfdfaaGreat
open Go.RowKit
set_option linter.unusedVariables false
set_option maxRecDepth 100000

def minP (p : Int → Bool) (x : Int) : Bool := (List.range 32).all fun (y : Nat) => !(p y && ins y x) || ((y : Int) == x)
def minL (p : Int → Bool) : List Int := flt (fun x => p x && minP p x) 32
theorem minP_iff {p : Int → Bool} {x : Int} : minP p x = true ↔ ∀ y, St y → p y = true → ins y x = true → y = x := by
  unfold minP
  rw [List.all_eq_true]
  constructor
  · intro h y hy hp hi
    obtain ⟨n, hn, rfl⟩ := st_nat hy
    have := h n (List.mem_range.2 hn)
    rw [hp, hi] at this
    simpa using this
  · intro h n hn
    have hs : St (n : Int) := by have := List.mem_range.1 hn; unfold St; omega
    cases hp : p n
    · simp
    · cases hi : ins n x
      · simp
      · have := h n hs hp hi
        simp [this]
theorem minL_mem {p : Int → Bool} {x : Int} : x ∈ minL p ↔ St x ∧ p x = true ∧ ∀ y, St y → p y = true → ins y x = true → y = x := by
  unfold minL
  rw [flt_mem, Bool.and_eq_true, minP_iff]
  constructor
  · rintro ⟨h, h1, h2⟩; exact ⟨by unfold St; omega, h1, h2⟩
  · rintro ⟨h, h1, h2⟩; exact ⟨by unfold St at h; omega, h1, h2⟩
theorem exists_min {p : Int → Bool} : ∀ (k : Nat) (z : Int), card z ≤ k → St z → p z = true → ∃ x, x ∈ minL p ∧ ins x z = true
  | k, z, hk, hz, hp => by
    by_cases hm : minP p z = true
    · exact ⟨z, minL_mem.2 ⟨hz, hp, minP_iff.1 hm⟩, ins_refl hz⟩
    · have : ∃ y, St y ∧ p y = true ∧ ins y z = true ∧ y ≠ z := by
        refine Classical.byContradiction fun hn => hm (minP_iff.2 fun y hy h1 h2 => ?_)
        exact Classical.byContradiction fun hne => hn ⟨y, hy, h1, h2, hne⟩
      obtain ⟨y, hy, h1, h2, hne⟩ := this
      have hc := card_lt hy hz h2 hne
      match k, hk with
      | 0, hk => omega
      | k + 1, hk =>
        obtain ⟨x, hx, hxy⟩ := exists_min k y (by omega) hy h1
        exact ⟨x, hx, ins_trans (minL_mem.1 hx).1 hy hz hxy h2⟩
theorem minB_iff {G : List Int} {x : Int} : minB G x = true ↔ ∀ y ∈ G, ins y x = true → y = x := by
  unfold minB
  rw [List.all_eq_true]
  constructor
  · intro h y hy hi
    have := h y hy
    rw [hi] at this
    simp at this
    exact this.symm
  · intro h y hy
    cases hi : ins y x
    · simp
    · simp [h y hy hi]
/-- What lies in the family, and below all of it, has its minimal sets. -/
theorem minF_family {G : List Int} {p : Int → Bool} (hl : G.length ≤ 100) (h1 : ∀ x ∈ G, St x ∧ p x = true) (h2 : ∀ z, St z → p z = true → ∃ g ∈ G, ins g z = true) : minF G = minL p := by
  have hs : setsF G = true := List.all_eq_true.2 fun x hx => by simpa [stB] using (h1 x hx).1
  rw [minF_sets hs hl]
  refine up_ext (flt_up _ _) (flt_up _ _) fun x => ?_
  rw [flt_mem, minL_mem, Bool.and_eq_true, minB_iff]
  constructor
  · rintro ⟨_, hx, hm⟩
    have hx : x ∈ G := by simpa [inB'] using hx
    obtain ⟨sx, px⟩ := h1 x hx
    refine ⟨sx, px, fun y sy py hy => ?_⟩
    obtain ⟨g, hg, hgy⟩ := h2 y sy py
    have sg := (h1 g hg).1
    have e := hm g hg (ins_trans sg sy sx hgy hy)
    subst e
    exact ins_antisymm sy sx hy hgy
  · rintro ⟨sx, px, hm⟩
    obtain ⟨g, hg, hgx⟩ := h2 x sx px
    obtain ⟨sg, pg⟩ := h1 g hg
    have e := hm g sg pg hgx
    subst e
    exact ⟨by unfold St at sx; omega, by simpa [inB'] using hg, fun y hy hi => hm y (h1 y hy).1 (h1 y hy).2 hi⟩
theorem apart_iff {e x : Int} (he : St e) (hx : St x) : apart e x = false ↔ ∃ c, Co c ∧ hasc e c = true ∧ hasc x c = true := by
  obtain ⟨n, hn, rfl⟩ := st_nat he; obtain ⟨m, hm, rfl⟩ := st_nat hx
  have h : ∀ n < 32, ∀ m < 32, (apart ((n : Nat) : Int) ((m : Nat) : Int) = false ↔ ∃ c < 5, hasc (n : Nat) (c : Nat) = true ∧ hasc (m : Nat) (c : Nat) = true) := by decide +kernel
  rw [h n hn m hm]
  constructor
  · rintro ⟨c, hc, h⟩; exact ⟨c, by unfold Co; omega, h⟩
  · rintro ⟨c, hc, h⟩; obtain ⟨k, hk, rfl⟩ := co_nat hc; exact ⟨k, hk, h⟩
theorem apart_up {e x y : Int} (he : St e) (hx : St x) (hy : St y) (hi : ins x y = true) (h : apart e x = false) : apart e y = false := by
  obtain ⟨c, hc, h1, h2⟩ := (apart_iff he hx).1 h
  exact (apart_iff he hy).2 ⟨c, hc, h1, (ins_iff hx hy).1 hi c hc h2⟩
theorem apart_comm {e x : Int} (he : St e) (hx : St x) : apart e x = apart x e := by
  cases h : apart x e
  · obtain ⟨c, hc, h1, h2⟩ := (apart_iff hx he).1 h
    exact (apart_iff he hx).2 ⟨c, hc, h2, h1⟩
  · cases h' : apart e x
    · obtain ⟨c, hc, h1, h2⟩ := (apart_iff he hx).1 h'
      rw [(apart_iff hx he).2 ⟨c, hc, h2, h1⟩] at h; cases h
    · rfl
theorem membersT_mem {e c : Int} (he : St e) (hc : Co c) (h : hasc e c = true) : c ∈ membersF e := by
  unfold membersF
  rw [if_pos (by simpa [stB] using he)]
  obtain ⟨k, hk, rfl⟩ := co_nat hc
  unfold membersUpTo
  exact List.mem_filter.2 ⟨List.mem_map.2 ⟨k, List.mem_range.2 hk, rfl⟩, h⟩
def UpC (p : Int → Bool) : Prop := ∀ x y, St x → St y → ins x y = true → p x = true → p y = true
theorem growF_minL {p : Int → Bool} {e : Int} (he : St e) (hup : UpC p) : growF (minL p) e = minL (fun x => p x && !apart e x) := by
  have hmem : ∀ x ∈ minL p, St x := fun x hx => (minL_mem.1 hx).1
  have hlen : (minL p).length ≤ 32 := flt_le _ _
  have hok : growOk (minL p) e = true := by
    unfold growOk
    have h1 : setsF (minL p) = true := List.all_eq_true.2 fun x hx => by simpa [stB] using hmem x hx
    have h2 : stB e = true := by simpa [stB] using he
    rw [h1, h2]; simp; omega
  unfold growF
  rw [if_pos hok]
  have hg := grown_st (e := e) hmem
  have hdm : ∀ y, y ∈ distinctF (grownF (minL p) e) ↔ y ∈ grownF (minL p) e := (distinctF_up _).2
  refine minF_family ?_ ?_ ?_
  · rw [distinctF_flt hg]; exact Nat.le_trans (flt_le _ _) (by omega)
  · intro y hy
    rw [hdm] at hy
    refine ⟨hg y hy, ?_⟩
    obtain ⟨x, hx, hy'⟩ := List.mem_flatMap.1 hy
    obtain ⟨sx, px, _⟩ := minL_mem.1 hx
    unfold growOne at hy'
    split at hy'
    · obtain ⟨c, hc, rfl⟩ := List.mem_map.1 hy'
      obtain ⟨cc, ch⟩ := members_co c hc
      have su := uni_st sx (one_st cc)
      have h1 := hup x _ sx su (ins_uni_left sx (one_st cc)) px
      have h2 : apart e (uni x (one c)) = false := (apart_iff he su).2 ⟨c, cc, ch, by rw [hasc_uni sx (one_st cc) cc, hasc_one cc cc]; simp⟩
      rw [h1, h2]; rfl
    · next hna =>
      simp at hy'
      subst hy'
      have h2 : apart e y = false := by rw [apart_comm he sx]; simpa using hna
      rw [px, h2]; rfl
  · intro z sz pz
    have hpz : p z = true ∧ apart e z = false := by simpa using pz
    obtain ⟨x, hx, hxz⟩ := exists_min (p := p) (card z) z (Nat.le_refl _) sz hpz.1
    have sx := hmem x hx
    cases ha : apart x e
    · exact ⟨x, (hdm x).2 (List.mem_flatMap.2 ⟨x, hx, by unfold growOne; rw [ha]; simp⟩), hxz⟩
    · obtain ⟨c, cc, h1, h2⟩ := (apart_iff he sz).1 hpz.2
      refine ⟨uni x (one c), (hdm _).2 (List.mem_flatMap.2 ⟨x, hx, ?_⟩), uni_ins sx (one_st cc) sz hxz (one_ins cc sz h2)⟩
      unfold growOne
      rw [ha]
      exact List.mem_map.2 ⟨c, membersT_mem he cc h1, rfl⟩
theorem hitsF_up {L : List Int} (h : ∀ e ∈ L, St e) : UpC (hitsF L) := by
  intro x y sx sy hi hx
  unfold hitsF at hx ⊢
  rw [List.all_eq_true] at hx ⊢
  intro e he
  have := hx e he
  have h2 := apart_up (h e he) sx sy hi (by simpa using this)
  rw [h2]; rfl
theorem hits_snoc (L : List Int) (e : Int) : hitsF (L ++ [e]) = fun x => hitsF L x && !apart e x := by
  funext x
  unfold hitsF
  rw [List.all_append]
  simp
theorem minL_all : minL (hitsF []) = [0] := by decide +kernel
theorem grow_fold {L : List Int} (h : ∀ e ∈ L, St e) (k : Nat) (hk : k ≤ L.length) : (L.take k).foldl growF [0] = minL (hitsF (L.take k)) := by
  induction k with
  | zero => rw [List.take_zero, minL_all]; rfl
  | succ k ih =>
    have hlt : k < L.length := by omega
    have e1 : L.take (k + 1) = L.take k ++ [nth L k] := by rw [List.take_add_one, nth_eq hlt]; rfl
    rw [e1, List.foldl_append, ih (by omega), hits_snoc]
    exact growF_minL (h _ (List.mem_iff_getElem?.2 ⟨k, nth_eq hlt⟩)) (hitsF_up fun e he => h e (List.mem_of_mem_take he))
theorem low_nat : ∀ m < 6, ∀ q < 32, ∀ d < 32, (decide (((d : Nat) : Int) < 2 ^ ((m : Nat) : Int).toNat) && !apart ((d : Nat) : Int) ((q : Nat) : Int) && apart ((d : Nat) : Int) (cap ((q : Nat) : Int) (2 ^ ((m : Nat) : Int).toNat - 1))) = false := by decide +kernel
theorem low_part {n : Int} (h0 : 0 ≤ n) (h5 : n ≤ 5) {e z : Int} (sz : St z) (he1 : 0 ≤ e) (he2 : e < 2 ^ n.toNat) (ha : apart e z = false) : apart e (cap z (2 ^ n.toNat - 1)) = false := by
  obtain ⟨m, rfl⟩ := Int.eq_ofNat_of_zero_le h0
  obtain ⟨q, hq, rfl⟩ := st_nat sz
  obtain ⟨d, rfl⟩ := Int.eq_ofNat_of_zero_le he1
  have hm : m < 6 := by omega
  have h32 : ∀ m < 6, (2 : Int) ^ ((m : Nat) : Int).toNat ≤ 32 := by decide
  have hd : d < 32 := by have := h32 m hm; omega
  have h := low_nat m hm q hq d hd
  rw [ha, decide_eq_true he2] at h
  simpa using h
theorem low_ins {n : Int} (h0 : 0 ≤ n) (h5 : n ≤ 5) {z : Int} (sz : St z) : 0 ≤ cap z (2 ^ n.toNat - 1) ∧ cap z (2 ^ n.toNat - 1) < 2 ^ n.toNat ∧ ins (cap z (2 ^ n.toNat - 1)) z = true := by
  obtain ⟨m, rfl⟩ := Int.eq_ofNat_of_zero_le h0
  obtain ⟨q, hq, rfl⟩ := st_nat sz
  have h : ∀ m < 6, ∀ q < 32, (0 ≤ cap ((q : Nat) : Int) (2 ^ ((m : Nat) : Int).toNat - 1) ∧ cap ((q : Nat) : Int) (2 ^ ((m : Nat) : Int).toNat - 1) < 2 ^ ((m : Nat) : Int).toNat ∧ ins (cap ((q : Nat) : Int) (2 ^ ((m : Nat) : Int).toNat - 1)) ((q : Nat) : Int) = true) := by decide +kernel
  exact h m (by omega) q hq
def transOk (L : List Int) (n : Int) : Bool := decide (0 ≤ n) && decide (n ≤ 5) && decide (L.length ≤ 100) && L.all (isAttr n)
def transF (L : List Int) (n : Int) : List Int := if transOk L n then minF (flt (hitsF L) (2 ^ n.toNat)) else []
theorem trans_edges {L : List Int} {n : Int} (h : transOk L n = true) : 0 ≤ n ∧ n ≤ 5 ∧ L.length ≤ 100 ∧ ∀ e ∈ L, 0 ≤ e ∧ e < 2 ^ n.toNat := by
  unfold transOk at h
  simp only [Bool.and_eq_true, decide_eq_true_eq] at h
  refine ⟨h.1.1.1, h.1.1.2, h.1.2, fun e he => ?_⟩
  have := List.all_eq_true.1 h.2 e he
  unfold isAttr at this
  simp only [Bool.and_eq_true, decide_eq_true_eq] at this
  exact ⟨this.1.2, this.2⟩
theorem trans_st {L : List Int} {n : Int} (h : transOk L n = true) : ∀ e ∈ L, St e := by
  obtain ⟨h0, h5, _, he⟩ := trans_edges h
  intro e hm
  have := he e hm
  have h2 := (pow_wrap h0 h5).2.1
  exact ⟨this.1, by omega⟩
theorem transF_fold {L : List Int} {n : Int} (h : transOk L n = true) : transF L n = L.foldl growF [0] := by
  obtain ⟨h0, h5, hl, he⟩ := trans_edges h
  have hst := trans_st h
  have hp := pow_nat h0 h5
  have hf := grow_fold hst L.length (Nat.le_refl _)
  rw [List.take_length] at hf
  rw [hf]
  unfold transF
  rw [if_pos h]
  have hlen := flt_le (hitsF L) (2 ^ n.toNat)
  refine minF_family (by omega) (fun x hx => ?_) (fun z sz hz => ?_)
  · obtain ⟨⟨a, b⟩, c⟩ := flt_mem.1 hx
    exact ⟨⟨a, by have := hp.2.1; omega⟩, c⟩
  · obtain ⟨a, b, c⟩ := low_ins h0 h5 sz
    refine ⟨cap z (2 ^ n.toNat - 1), flt_mem.2 ⟨⟨a, by rw [hp.1]; exact b⟩, ?_⟩, c⟩
    unfold hitsF at hz ⊢
    rw [List.all_eq_true] at hz ⊢
    intro e hm
    have h1 := hz e hm
    rw [low_part h0 h5 sz (he e hm).1 (he e hm).2 (by simpa using h1)]; rfl
theorem transF_len (L : List Int) (n : Int) : (transF L n).length ≤ Room := by
  unfold transF
  split
  · have := minF_len (flt (hitsF L) (2 ^ n.toNat)); unfold Room; omega
  · simp
end Go.Proofs.YtcenndlbhgfdfaaGreat
namespace Go.Proofs.YtcenndlbhgfdfaaGreat
open Go.RowKit
set_option linter.unusedVariables false
set_option maxRecDepth 100000

theorem one_wrap : ∀ j < 5, one ((j : Nat) : Int) = IntKind.i64.wrap (2 ^ j) := by decide +kernel
theorem putF_take {L : List Int} (h : ∀ x ∈ L, St x) {k : Nat} (hk : k < L.length) : flt (inB' (L.take (k + 1))) 32 = putF (flt (inB' (L.take k)) 32) (nth L k) := by
  rw [putF_flt _ (h _ (List.mem_iff_getElem?.2 ⟨k, nth_eq hk⟩))]
  congr 1
  funext y
  unfold inB'
  rw [List.take_add_one, nth_eq hk]
  simp [Bool.decide_or]
  rfl
end Go.Proofs.YtcenndlbhgfdfaaGreat
namespace Go.Proofs.YtcenndlbhgfdfaaGreat
open Go.RowKit
set_option linter.unusedVariables false
set_option maxRecDepth 100000

theorem transF_no {L : List Int} {n : Int} (h : transOk L n = false) : transF L n = [] := by unfold transF; rw [h]; rfl
end Go.Proofs.YtcenndlbhgfdfaaGreat
namespace Go.Proofs.YtcenndlbhgfdfaaGreat
open Go.RowKit
set_option linter.unusedVariables false
set_option maxRecDepth 100000

def edgesF (n : Int) (L : List Int) : List Int := L.map (dif (allM n))
def keysTF (n : Int) (R : List (List Int)) (m : Int) : List Int := if isTabF n R && modeF m then transF (edgesF n (agreeSetsF n R m)) n else []
theorem keysT_len (n : Int) (R : List (List Int)) (m : Int) : (keysTF n R m).length ≤ Room := by
  unfold keysTF
  split
  · exact transF_len _ _
  · simp
theorem edges_succ {n : Int} {L : List Int} {k : Nat} (h : k < L.length) : edgesF n (L.take (k + 1)) = edgesF n (L.take k) ++ [dif (allM n) (nth L k)] := map_take_succ (f := dif (allM n)) h
theorem empty_behind {w' : World} {B j : Nat} {v : Value} (h : w'.cell? ⟨B, j, none⟩ = some v) : OwnI (w'.alloc (.cells #[] 3)) (B + 1) (.slice (some ⟨w'.heap.size, 0, none⟩) 0 0) [] := OwnI.empty _ _ (World.block_lt_of_cell? _ _ h)
end Go.Proofs.YtcenndlbhgfdfaaGreat
namespace Go.Proofs.YtcenndlbhgfdfaaGreat
open Go.RowKit
set_option linter.unusedVariables false
set_option maxRecDepth 100000

theorem and_swap {x l : Int} (hx : St x) (hl : St l) : (bits BinOp.and .i64 x l == l) = ins l x := by
  obtain ⟨n, hn, rfl⟩ := st_nat hx; obtain ⟨m, hm, rfl⟩ := st_nat hl
  have h : ∀ n < 32, ∀ m < 32, (bits BinOp.and .i64 ((n : Nat) : Int) ((m : Nat) : Int) == ((m : Nat) : Int)) = ins (m : Nat) (n : Nat) := by decide +kernel
  exact h n hn m hm
set_option maxHeartbeats 1600000 in
theorem c_l6Pair (n : Int) (oa) (cap : Nat) (R : List (List Int)) (m l r : Int) (w : World) (hR : RowsAt w oa R) (ht : isTabF n R = true) (hsl : St l) (hcr : Co r) :
    Calls Tryz.prog 103 #[.agg #[.int .i64 n, .slice oa R.length cap], .int .i64 m, .agg #[.int .i64 l, .int .i64 r]] w fun e w' => (∃ x y : Int, e = .returned (.tuple #[.int .i64 x, .int .i64 y]) ∧ decide (x < 0) = holdsF R m l r) ∧ Below w.heap.size w w' := by
  have hb := bel2 w (.cells #[.int .i64 n, .slice oa R.length cap] 26) (.cells #[.int .i64 l, .int .i64 r] 38)
  have a0 := two_a w #[.int .i64 n, .slice oa R.length cap] 26 #[.int .i64 l, .int .i64 r] 38 0 _ rfl
  have a1 := two_a w #[.int .i64 n, .slice oa R.length cap] 26 #[.int .i64 l, .int .i64 r] 38 1 _ rfl
  have d0 := two_b w #[.int .i64 n, .slice oa R.length cap] 26 #[.int .i64 l, .int .i64 r] 38 0 _ rfl
  have d1 := two_b w #[.int .i64 n, .slice oa R.length cap] 26 #[.int .i64 l, .int .i64 r] 38 1 _ rfl
  obtain ⟨hn1, hn5, hr40, hlen⟩ := isTab_of ht
  have hr1 := hcr.1
  have hr2 := hcr.2
  have HT : Hid (isTabF n R = true) := ht
  have HL : Hid (∀ k, k < R.length → ((row R k).length : Int) = n) := hlen
  have HH : Hid ((∀ i, i < R.length → ∀ k, k < R.length → i < k → violF R m l r i k = false) → holdsF R m l r = true) := fun h => decide_eq_true h
  have HN : Hid (∀ i k, i < k → k < R.length → violF R m l r i k = true → holdsF R m l r = false) := fun i k h1 h2 h3 => holdsF_no h1 h2 h3
  have HSL : Hid (St l ∧ Co r) := ⟨hsl, hcr⟩
  clear ht hlen hcr hsl
  go_enter Tryz.func103, Tryz.ntmps103
  go_wp2
  go_loopw [8] (fun i wr => ∃ k : Nat, i = .int .i64 k ∧ k ≤ R.length ∧ (∀ i, i < k → ∀ k, k < R.length → i < k → violF R m l r i k = false) ∧ wr.cell? ⟨w.heap.size, 0, none⟩ = some (.int .i64 n) ∧ wr.cell? ⟨w.heap.size, 1, none⟩ = some (.slice oa R.length cap) ∧ wr.cell? ⟨w.heap.size + 1, 0, none⟩ = some (.int .i64 l) ∧ wr.cell? ⟨w.heap.size + 1, 1, none⟩ = some (.int .i64 r) ∧ Below w.heap.size w wr) (fun i _ => R.length - (intOf i).toNat)
  case atStart => exact ⟨0, rfl, Nat.zero_le _, fun i hi => absurd hi (by omega), a0, a1, d0, d1, hb⟩
  case round =>
    clear a0 a1 d0 d1 hb
    obtain ⟨i, rfl, hi, hall, a0, a1, d0, d1, hb⟩ := hrel
    have HA : Hid (∀ i', i' < i → ∀ k, k < R.length → i' < k → violF R m l r i' k = false) := hall
    clear hall
    by_cases hlt : i < R.length
    · go_wp2
      go_loopw [9] (fun i' wr => ∃ k : Nat, i' = .int .i64 k ∧ i < k ∧ k ≤ R.length ∧ (∀ k', k' < k → i < k' → violF R m l r i k' = false) ∧ wr.cell? ⟨w.heap.size, 0, none⟩ = some (.int .i64 n) ∧ wr.cell? ⟨w.heap.size, 1, none⟩ = some (.slice oa R.length cap) ∧ wr.cell? ⟨w.heap.size + 1, 0, none⟩ = some (.int .i64 l) ∧ wr.cell? ⟨w.heap.size + 1, 1, none⟩ = some (.int .i64 r) ∧ Below w.heap.size w wr) (fun i _ => R.length - (intOf i).toNat)
      case atStart => exact ⟨i + 1, by go_num, by omega, by omega, fun k' h1 h2 => absurd h1 (by omega), a0, a1, d0, d1, hb⟩
      case round =>
        clear a0 a1 d0 d1 hb
        obtain ⟨k, rfl, hik, hk, hall, a0, a1, d0, d1, hb⟩ := hrel
        have HI : Hid (∀ k', k' < k → i < k' → violF R m l r i k' = false) := hall
        clear hall
        by_cases hlk : k < R.length
        · have HV : Hid (violF R m l r i k = (ins l (agreeF m (row R i) (row R k)) && !hasc (agreeF m (row R i) (row R k)) r)) := rfl
          have HS : Hid (St (agreeF m (row R i) (row R k))) := agreeF_st (by have := HL.out i hlt; omega)
          go_wp2_with fail
          refine Calls.mono (c_l4Agree n _ _ _ m i k _ (hR.keep hb) HT.out hlt hlk) ?_
          rintro e w1 ⟨rfl, hbn⟩
          replace a0 := cell_keep a0 hbn
          replace a1 := cell_keep a1 hbn
          replace d0 := cell_keep d0 hbn
          replace d1 := cell_keep d1 hbn
          replace hb := bel_to hb hbn
          clear hbn
          generalize agreeF m (row R i) (row R k) = x at *
          cases h1 : ins l x
          · have h1' : (bits BinOp.and .i64 x l == l) = false := (and_swap HS.out HSL.out.1).trans h1
            go_wp2
            go_roundw
            case rel => exact ⟨k + 1, by go_num, by omega, by omega, lt_step (p := fun k' => i < k' → violF R m l r i k' = false) HI.out (fun _ => by rw [HV.out, h1]; rfl), a0, a1, d0, d1, hb⟩
            case measure => simp [intOf]; omega
          · have h1' : (bits BinOp.and .i64 x l == l) = true := (and_swap HS.out HSL.out.1).trans h1
            cases h2 : hasc x r
            · have h2' : (bits BinOp.and .i64 (x / 2 ^ r.toNat) 1 == 0) = true := (hasn_eq HS.out HSL.out.2).trans (by rw [h2]; rfl)
              go_wp2
              go_ret2
              exact ⟨⟨_, _, rfl, by rw [HN.out i k hik hlk (by rw [HV.out, h1, h2]; rfl)]; simp⟩, hb⟩
            · have h2' : (bits BinOp.and .i64 (x / 2 ^ r.toNat) 1 == 0) = false := (hasn_eq HS.out HSL.out.2).trans (by rw [h2]; rfl)
              go_wp2
              go_roundw
              case rel => exact ⟨k + 1, by go_num, by omega, by omega, lt_step (p := fun k' => i < k' → violF R m l r i k' = false) HI.out (fun _ => by rw [HV.out, h1, h2]; rfl), a0, a1, d0, d1, hb⟩
              case measure => simp [intOf]; omega
        · have HI2 : Hid (∀ k', k' < R.length → i < k' → violF R m l r i k' = false) := fun k' h1 h2 => HI.out k' (by omega) h2
          go_wp2
          go_roundw
          case rel => exact ⟨i + 1, by go_num, by omega, lt_step (p := fun i => ∀ k, k < R.length → i < k → violF R m l r i k = false) HA.out HI2.out, a0, a1, d0, d1, hb⟩
          case measure => simp [intOf]; omega
    · have HE : Hid (holdsF R m l r = true) := HH.out fun i' h1 => HA.out i' (by omega)
      go_wp2
      go_ret2
      exact ⟨⟨_, _, rfl, by rw [HE.out]; rfl⟩, hb⟩
theorem c_l7Holds (n : Int) (oa) (cap : Nat) (R : List (List Int)) (m l r : Int) (w : World) (hR : RowsAt w oa R) (ht : isTabF n R = true) (hsl : St l) (hcr : Co r) :
    Ans Tryz.prog 72 #[.agg #[.int .i64 n, .slice oa R.length cap], .int .i64 m, .agg #[.int .i64 l, .int .i64 r]] w (.bool (holdsF R m l r)) := by
  unfold Ans
  have hb := bel2 w (.cells #[.int .i64 n, .slice oa R.length cap] 26) (.cells #[.int .i64 l, .int .i64 r] 38)
  have hW := c_l6Pair n oa cap R m l r _ (hR.keep hb) ht hsl hcr
  go_enter Tryz.func72, Tryz.ntmps72
  go_wp2_with fail
  refine hW.mono ?_
  rintro e w1 ⟨⟨x, y, rfl, hx⟩, hbn⟩
  replace hb := bel_to hb hbn
  clear hbn
  go_wp2
  go_ret
  exact ⟨rfl, hb⟩
end Go.Proofs.YtcenndlbhgfdfaaGreat
namespace Go.Proofs.YtcenndlbhgfdfaaGreat
open Go.RowKit
set_option linter.unusedVariables false
set_option maxRecDepth 100000

def bordP (R : List (List Int)) (m r x : Int) : Bool := !hasc x r && !holdsF R m x r
def bordOk (n : Int) (R : List (List Int)) (m r : Int) : Bool := (isTabF n R && modeF m) && (decide (0 ≤ r) && decide (r < n))
def bordF (n : Int) (R : List (List Int)) (m r : Int) : List Int := if bordOk n R m r then maxF (flt (bordP R m r) (2 ^ n.toNat)) else []
theorem bord_len (n : Int) (R : List (List Int)) (m r : Int) : (bordF n R m r).length ≤ Room := by
  unfold bordF
  split
  · have := maxF_len (flt (bordP R m r) (2 ^ n.toNat)); unfold Room; omega
  · simp
theorem all_same {p : Int → Bool} {L M : List Int} (h : ∀ x, x ∈ L ↔ x ∈ M) : L.all p = M.all p := by
  rw [Bool.eq_iff_iff, List.all_eq_true, List.all_eq_true]
  exact ⟨fun H x hx => H x ((h x).2 hx), fun H x hx => H x ((h x).1 hx)⟩
theorem maxF_same {L M : List Int} (h : ∀ x, x ∈ L ↔ x ∈ M) (hl : L.length ≤ 100) (hm : M.length ≤ 100) : maxF L = maxF M := by
  unfold maxF
  have e1 : setsF L = setsF M := all_same h
  have e2 : (fun x => inB' L x && maxB L x) = fun x => inB' M x && maxB M x := by
    funext x
    unfold inB' maxB
    rw [all_same h]
    congr 1
    rw [decide_eq_decide]
    exact h x
  rw [e1, e2]
  simp [hl, hm]
theorem bord_dep {n : Int} {R : List (List Int)} {m r x : Int} (h : bordOk n R m r = true) (h0 : 0 ≤ x) (hx : x < 2 ^ n.toNat) : askF n R m x r = true ∧ St x := by
  unfold bordOk at h
  simp only [Bool.and_eq_true, decide_eq_true_eq] at h
  obtain ⟨⟨ht, hm⟩, hr0, hrn⟩ := h
  obtain ⟨h1, h5, _, _⟩ := isTab_of ht
  have hp := (pow_wrap (n := n) (by omega) h5).2.1
  refine ⟨?_, ⟨h0, by omega⟩⟩
  unfold askF isDepF isAttr
  rw [ht, hm]
  simp only [Bool.and_eq_true, decide_eq_true_eq, Bool.and_self, Bool.true_and]
  exact ⟨⟨⟨h1, ⟨⟨⟨by omega, h5⟩, h0⟩, hx⟩⟩, hr0⟩, hrn⟩
theorem c_hasColumn (n : Int) (v : Value) (c : Int) (w : World) : Ans Tryz.prog 65 #[.agg #[.int .i64 n, v], .int .i64 c] w (.bool (decide (0 ≤ c) && decide (c < n))) := by
  unfold Ans
  have hb := (Below.refl w.heap.size w).alloc (Nat.le_refl _) (.cells #[.int .i64 n, v] 26)
  by_cases h : 0 ≤ c
  · go_enter Tryz.func65, Tryz.ntmps65
    go_wp2
    go_ret
    exact ⟨ret_bool (by simp [h]), hb⟩
  · go_enter Tryz.func65, Tryz.ntmps65
    go_wp2
    go_ret
    exact ⟨ret_bool (by rw [decide_eq_false (show ¬ (0 ≤ c) by omega)]; rfl), hb⟩

set_option maxHeartbeats 1600000 in
theorem c_ViolatedBorder (n : Int) (oa) (cap : Nat) (R : List (List Int)) (m r : Int) (w : World) (hR : RowsAt w oa R) :
    Calls Tryz.prog 26 #[.agg #[.int .i64 n, .slice oa R.length cap], .int .i64 m, .int .i64 r] w fun e w' => ∃ v, e = .returned v ∧ OwnI w' w.heap.size v (bordF n R m r) ∧ Below w.heap.size w w' := by
  obtain ⟨i0, hi, hz0, hz1, hz2⟩ := info_parts info_int
  have hb := bel2 w (.cells #[.int .i64 n, .slice oa R.length cap] 26) (.cells #[] 3)
  have a0 := two_a w #[.int .i64 n, .slice oa R.length cap] 26 #[] 3 0 _ rfl
  have a1 := two_a w #[.int .i64 n, .slice oa R.length cap] 26 #[] 3 1 _ rfl
  have hI : OwnI ((w.alloc (.cells #[.int .i64 n, .slice oa R.length cap] 26)).alloc (.cells #[] 3)) (w.heap.size + 1) (.slice (some ⟨w.heap.size + 1, 0, none⟩) 0 0) [] := by
    have h := (OwnI.empty (w.alloc (.cells #[.int .i64 n, .slice oa R.length cap] 26)) _ (Nat.le_refl _))
    simpa using h
  cases ht : isTabF n R
  · have HM : Hid (bordF n R m r = []) := by show bordF n R m r = []; unfold bordF bordOk; rw [ht]; rfl
    go_enter Tryz.func26, Tryz.ntmps26
    go_wp2_with (first | (go_at_call 60; refine Calls.mono (Ans.eqb (c_IsTable _ _ _ _ _ (hR.keep hb)) ht) ?_; rintro e w1 ⟨rfl, hbn⟩; replace a0 := cell_keep a0 hbn; replace a1 := cell_keep a1 hbn; replace hI := hI.keep hbn; replace hb := bel_to (w := w) (by first | exact hb | exact hb.alloc hb.size _ | exact (hb.alloc hb.size _).alloc (Nat.le_trans hb.size (by simp)) _ | exact hb.setCell (by simp [hb.size]) _) hbn; clear hbn))
    go_ret
    exact ⟨_, rfl, by rw [HM.out]; exact hI.based (Nat.le_succ _), hb⟩
  cases hm : modeF m
  · have HM : Hid (bordF n R m r = []) := by show bordF n R m r = []; unfold bordF bordOk; rw [ht, hm]; rfl
    go_enter Tryz.func26, Tryz.ntmps26
    go_wp2_with (first | (go_at_call 60; refine Calls.mono (Ans.eqb (c_IsTable _ _ _ _ _ (hR.keep hb)) ht) ?_; rintro e w1 ⟨rfl, hbn⟩; replace a0 := cell_keep a0 hbn; replace a1 := cell_keep a1 hbn; replace hI := hI.keep hbn; replace hb := bel_to (w := w) (by first | exact hb | exact hb.alloc hb.size _ | exact (hb.alloc hb.size _).alloc (Nat.le_trans hb.size (by simp)) _ | exact hb.setCell (by simp [hb.size]) _) hbn; clear hbn) | (go_at_call 61; refine Calls.mono (Ans.eqb (c_isMode _ _) hm) ?_; rintro e w1 ⟨rfl, hbn⟩; replace a0 := cell_keep a0 hbn; replace a1 := cell_keep a1 hbn; replace hI := hI.keep hbn; replace hb := bel_to (w := w) (by first | exact hb | exact hb.alloc hb.size _ | exact (hb.alloc hb.size _).alloc (Nat.le_trans hb.size (by simp)) _ | exact hb.setCell (by simp [hb.size]) _) hbn; clear hbn))
    go_ret
    exact ⟨_, rfl, by rw [HM.out]; exact hI.based (Nat.le_succ _), hb⟩
  cases hc : (decide (0 ≤ r) && decide (r < n))
  · have HM : Hid (bordF n R m r = []) := by show bordF n R m r = []; unfold bordF bordOk; rw [ht, hm, hc]; rfl
    go_enter Tryz.func26, Tryz.ntmps26
    go_wp2_with (first | (go_at_call 60; refine Calls.mono (Ans.eqb (c_IsTable _ _ _ _ _ (hR.keep hb)) ht) ?_; rintro e w1 ⟨rfl, hbn⟩; replace a0 := cell_keep a0 hbn; replace a1 := cell_keep a1 hbn; replace hI := hI.keep hbn; replace hb := bel_to (w := w) (by first | exact hb | exact hb.alloc hb.size _ | exact (hb.alloc hb.size _).alloc (Nat.le_trans hb.size (by simp)) _ | exact hb.setCell (by simp [hb.size]) _) hbn; clear hbn) | (go_at_call 61; refine Calls.mono (Ans.eqb (c_isMode _ _) hm) ?_; rintro e w1 ⟨rfl, hbn⟩; replace a0 := cell_keep a0 hbn; replace a1 := cell_keep a1 hbn; replace hI := hI.keep hbn; replace hb := bel_to (w := w) (by first | exact hb | exact hb.alloc hb.size _ | exact (hb.alloc hb.size _).alloc (Nat.le_trans hb.size (by simp)) _ | exact hb.setCell (by simp [hb.size]) _) hbn; clear hbn) | (go_at_call 65; refine Calls.mono (Ans.eqb (c_hasColumn _ _ _ _) hc) ?_; rintro e w1 ⟨rfl, hbn⟩; replace a0 := cell_keep a0 hbn; replace a1 := cell_keep a1 hbn; replace hI := hI.keep hbn; replace hb := bel_to (w := w) (by first | exact hb | exact hb.alloc hb.size _ | exact (hb.alloc hb.size _).alloc (Nat.le_trans hb.size (by simp)) _ | exact hb.setCell (by simp [hb.size]) _) hbn; clear hbn))
    go_ret
    exact ⟨_, rfl, by rw [HM.out]; exact hI.based (Nat.le_succ _), hb⟩
  have hok : bordOk n R m r = true := by unfold bordOk; rw [ht, hm, hc]; rfl
  obtain ⟨hn1, hn5, _, _⟩ := isTab_of ht
  have hc' : 0 ≤ r ∧ r < n := by simpa using hc
  have hr64 : 0 ≤ r ∧ r < 64 := ⟨hc'.1, by omega⟩
  have hpl := partsF_len n
  have HM : Hid (bordF n R m r = maxF ((partsF n).filter (bordP R m r))) := by
    show bordF n R m r = maxF ((partsF n).filter (bordP R m r))
    unfold bordF
    rw [if_pos hok]
    have hp := pow_nat (n := n) (by omega) hn5
    refine maxF_same (fun x => ?_) (Nat.le_trans (flt_le _ _) (by omega)) (Nat.le_trans (List.length_filter_le _ _) (by omega))
    rw [flt_mem, List.mem_filter, partsF_mem (by omega) hn5, hp.1]
  have HK : Hid (∀ x ∈ partsF n, askF n R m x r = true) := fun x hx => by
    have h := (partsF_mem (n := n) (by omega) hn5).1 hx
    exact (bord_dep hok h.1 h.2).1
  clear hc' hok
  go_enter Tryz.func26, Tryz.ntmps26
  go_wp2_with (first | (go_at_call 60; refine Calls.mono (Ans.eqb (c_IsTable _ _ _ _ _ (hR.keep hb)) ht) ?_; rintro e w1 ⟨rfl, hbn⟩; replace a0 := cell_keep a0 hbn; replace a1 := cell_keep a1 hbn; replace hI := hI.keep hbn; replace hb := bel_to (w := w) (by first | exact hb | exact hb.alloc hb.size _ | exact (hb.alloc hb.size _).alloc (Nat.le_trans hb.size (by simp)) _ | exact hb.setCell (by simp [hb.size]) _) hbn; clear hbn) | (go_at_call 61; refine Calls.mono (Ans.eqb (c_isMode _ _) hm) ?_; rintro e w1 ⟨rfl, hbn⟩; replace a0 := cell_keep a0 hbn; replace a1 := cell_keep a1 hbn; replace hI := hI.keep hbn; replace hb := bel_to (w := w) (by first | exact hb | exact hb.alloc hb.size _ | exact (hb.alloc hb.size _).alloc (Nat.le_trans hb.size (by simp)) _ | exact hb.setCell (by simp [hb.size]) _) hbn; clear hbn) | (go_at_call 65; refine Calls.mono (Ans.eqb (c_hasColumn _ _ _ _) hc) ?_; rintro e w1 ⟨rfl, hbn⟩; replace a0 := cell_keep a0 hbn; replace a1 := cell_keep a1 hbn; replace hI := hI.keep hbn; replace hb := bel_to (w := w) (by first | exact hb | exact hb.alloc hb.size _ | exact (hb.alloc hb.size _).alloc (Nat.le_trans hb.size (by simp)) _ | exact hb.setCell (by simp [hb.size]) _) hbn; clear hbn))
  have old := hI
  refine (c_PartsBySize n _).mono ?_
  rintro e w2 ⟨v2, rfl, hM, hbn⟩
  have ap_hM := (apart_old old hM).symm
  replace hI := hI.keep hbn
  replace hM := hM.based (World.block_lt_of_cell? _ _ a1)
  replace a0 := cell_keep a0 hbn
  replace a1 := cell_keep a1 hbn
  replace hb := bel_to hb hbn
  clear old hbn
  generalize partsF n = M at *
  obtain ⟨o1, c1, rfl⟩ := hM.shape
  go_wp2
  go_loopw [7, 30] (fun v i wr => ∃ k : Nat, i = .int .i64 k ∧ k ≤ M.length ∧ OwnI wr (w.heap.size + 1) v ((M.take k).filter (bordP R m r)) ∧ OwnI wr (w.heap.size + 1) (.slice o1 M.length c1) M ∧ Apart (.slice o1 M.length c1) v ∧ wr.cell? ⟨w.heap.size, 0, none⟩ = some (.int .i64 n) ∧ wr.cell? ⟨w.heap.size, 1, none⟩ = some (.slice oa R.length cap) ∧ Below w.heap.size w wr) (fun _ i _ => M.length - (intOf i).toNat)
  case atStart => exact ⟨0, rfl, Nat.zero_le _, by simpa using hI, hM, ap_hM, a0, a1, hb⟩
  case round =>
    clear hI hM ap_hM a0 a1 hb
    obtain ⟨k, rfl, hk, hI, hM, ap_hM, a0, a1, hb⟩ := hrel
    by_cases hlt : k < M.length
    · obtain ⟨b2, off2, rfl, hbs2, hca⟩ := (hM.ints rfl (by unfold Room; omega)).at_ (by omega)
      have hc2 := hca k hlt
      have HT : Hid ((M.take (k + 1)).filter (bordP R m r) = (M.take k).filter (bordP R m r) ++ (if bordP R m r (nth M k) then [nth M k] else [])) := filter_take_succ _ _ _ hlt
      have hfl : ((M.take k).filter (bordP R m r)).length ≤ 32 := by
        have := List.length_filter_le (bordP R m r) (M.take k)
        rw [List.length_take] at this
        omega
      have HA : Hid (askF n R m (nth M k) r = true) := HK.out _ (List.mem_iff_getElem?.2 ⟨k, nth_eq hlt⟩)
      clear hca
      generalize nth M k = x at *
      generalize (M.take k).filter (bordP R m r) = F at *
      cases h1 : hasc x r
      · cases h2 : holdsF R m x r
        · have hh : (askF n R m x r && holdsF R m x r) = false := by rw [HA.out, h2]; rfl
          have HP : Hid (bordP R m r x = true) := by show bordP R m r x = true; unfold bordP; rw [h1, h2]; rfl
          go_wp2_with (first | (go_at_call 67; refine Calls.mono (Ans.eqb (c_has _ _ hr64 _) h1) ?_; rintro e w1 ⟨rfl, hbn⟩; replace a0 := cell_keep a0 hbn; replace a1 := cell_keep a1 hbn; replace hI := hI.keep hbn; replace hM := hM.keep hbn; replace hb := bel_to (w := w) (by first | exact hb | exact hb.alloc hb.size _ | exact (hb.alloc hb.size _).alloc (Nat.le_trans hb.size (by simp)) _ | exact hb.setCell (by simp [hb.size]) _) hbn; clear hbn) | (go_at_call 33; refine Calls.mono (Ans.eqb (c_HoldsDep _ _ _ _ _ _ _ _ (hR.keep hb)) hh) ?_; rintro e w1 ⟨rfl, hbn⟩; replace a0 := cell_keep a0 hbn; replace a1 := cell_keep a1 hbn; replace hI := hI.keep hbn; replace hM := hM.keep hbn; replace hb := bel_to (w := w) (by first | exact hb | exact hb.alloc hb.size _ | exact (hb.alloc hb.size _).alloc (Nat.le_trans hb.size (by simp)) _ | exact hb.setCell (by simp [hb.size]) _) hbn; clear hbn) | (at_builtin; refine wpList_append_fresh rfl _ _ 50 rfl (w.heap.size + 1) 3 i0 (.int .i64 0) 1 8 Tryz.underlying50 hi hz0 hz1 hz2 rfl (by decide) _ _ _ rfl (World.ownsRow.alloc hI _) _ 1 1 [.int .i64 (x)] rfl rfl (by intro j u hj; match j, hj with | 0, hj => simp at hj; subst hj; simp [Addr.add]) (by intro u hu; simp at hu; subst hu; rfl) (by unfold maxLen; omega) (by omega) (by have := World.block_lt_of_cell? _ _ a1; simp at this; simp; omega) ?_; intro v' w1 hown hgrow hfr; replace hb := (hb.alloc hb.size _).grown hgrow (by have := hb.size; simp; omega) (fun g hg => Nat.le_trans (Nat.le_succ _) (World.ownsRow.lt hI g hg).1); replace a0 := cell_gr (cell_al a0 _) (World.ownsRow.alloc hI _) (by omega) hgrow; replace a1 := cell_gr (cell_al a1 _) (World.ownsRow.alloc hI _) (by omega) hgrow; obtain ⟨hM, ap_hM⟩ := OwnI.past hM hgrow ap_hM hfr; replace hI := OwnI.snoc hown; clear hown hgrow hfr) | fail)
          go_roundw
          case rel => exact ⟨k + 1, by go_num, by omega, by rw [HT.out, HP.out]; exact hI, hM, ap_hM, a0, a1, hb⟩
          case measure => simp [intOf]; omega
        · have hh : (askF n R m x r && holdsF R m x r) = true := by rw [HA.out, h2]; rfl
          have HP : Hid (bordP R m r x = false) := by show bordP R m r x = false; unfold bordP; rw [h1, h2]; rfl
          go_wp2_with (first | (go_at_call 67; refine Calls.mono (Ans.eqb (c_has _ _ hr64 _) h1) ?_; rintro e w1 ⟨rfl, hbn⟩; replace a0 := cell_keep a0 hbn; replace a1 := cell_keep a1 hbn; replace hI := hI.keep hbn; replace hM := hM.keep hbn; replace hb := bel_to (w := w) (by first | exact hb | exact hb.alloc hb.size _ | exact (hb.alloc hb.size _).alloc (Nat.le_trans hb.size (by simp)) _ | exact hb.setCell (by simp [hb.size]) _) hbn; clear hbn) | (go_at_call 33; refine Calls.mono (Ans.eqb (c_HoldsDep _ _ _ _ _ _ _ _ (hR.keep hb)) hh) ?_; rintro e w1 ⟨rfl, hbn⟩; replace a0 := cell_keep a0 hbn; replace a1 := cell_keep a1 hbn; replace hI := hI.keep hbn; replace hM := hM.keep hbn; replace hb := bel_to (w := w) (by first | exact hb | exact hb.alloc hb.size _ | exact (hb.alloc hb.size _).alloc (Nat.le_trans hb.size (by simp)) _ | exact hb.setCell (by simp [hb.size]) _) hbn; clear hbn) | fail)
          go_roundw
          case rel => exact ⟨k + 1, by go_num, by omega, by rw [HT.out, HP.out]; simpa using hI, hM, ap_hM, a0, a1, hb⟩
          case measure => simp [intOf]; omega
      · have HP : Hid (bordP R m r x = false) := by show bordP R m r x = false; unfold bordP; rw [h1]; rfl
        go_wp2_with (first | (go_at_call 67; refine Calls.mono (Ans.eqb (c_has _ _ hr64 _) h1) ?_; rintro e w1 ⟨rfl, hbn⟩; replace a0 := cell_keep a0 hbn; replace a1 := cell_keep a1 hbn; replace hI := hI.keep hbn; replace hM := hM.keep hbn; replace hb := bel_to (w := w) (by first | exact hb | exact hb.alloc hb.size _ | exact (hb.alloc hb.size _).alloc (Nat.le_trans hb.size (by simp)) _ | exact hb.setCell (by simp [hb.size]) _) hbn; clear hbn) | fail)
        go_roundw
        case rel => exact ⟨k + 1, by go_num, by omega, by rw [HT.out, HP.out]; simpa using hI, hM, ap_hM, a0, a1, hb⟩
        case measure => simp [intOf]; omega
    · have hkk : k = M.length := by omega
      have HE : Hid ((M.take k).filter (bordP R m r) = M.filter (bordP R m r)) := by show (M.take k).filter (bordP R m r) = M.filter (bordP R m r); rw [hkk, List.take_length]
      have hfr : ((M.take k).filter (bordP R m r)).length ≤ Room := by
        have := List.length_filter_le (bordP R m r) (M.take k)
        rw [List.length_take] at this
        unfold Room; omega
      clear hkk
      obtain ⟨oF, cF, rfl, hcF, hnF⟩ := hI.cap
      go_wp2_with fail
      refine (c_MaximalSets _ _ _ _ (hI.ints rfl hfr) hnF).mono ?_
      rintro e w3 ⟨v3, rfl, hR2, hbn⟩
      replace hR2 := hR2.based hb.size
      replace hb := bel_to hb hbn
      clear hbn
      go_wp2
      go_ret
      exact ⟨_, rfl, by rw [HM.out, ← HE.out]; exact hR2, hb⟩
set_option maxHeartbeats 1600000 in
theorem c_specViolatedBorder (n : Int) (oa) (cap : Nat) (R : List (List Int)) (m r : Int) (w : World) (hR : RowsAt w oa R) :
    Calls Tryz.prog 29 #[.agg #[.int .i64 n, .slice oa R.length cap], .int .i64 m, .int .i64 r] w fun e w' => ∃ v, e = .returned v ∧ OwnI w' w.heap.size v (bordF n R m r) ∧ Below w.heap.size w w' := by
  obtain ⟨i0, hi, hz0, hz1, hz2⟩ := info_parts info_int
  have hb := bel2 w (.cells #[.int .i64 n, .slice oa R.length cap] 26) (.cells #[] 3)
  have a0 := two_a w #[.int .i64 n, .slice oa R.length cap] 26 #[] 3 0 _ rfl
  have a1 := two_a w #[.int .i64 n, .slice oa R.length cap] 26 #[] 3 1 _ rfl
  have hI : OwnI ((w.alloc (.cells #[.int .i64 n, .slice oa R.length cap] 26)).alloc (.cells #[] 3)) (w.heap.size + 1) (.slice (some ⟨w.heap.size + 1, 0, none⟩) 0 0) [] := by
    have h := (OwnI.empty (w.alloc (.cells #[.int .i64 n, .slice oa R.length cap] 26)) _ (Nat.le_refl _))
    simpa using h
  cases hf : (isTabF n R && modeF m)
  · have HM : Hid (bordF n R m r = []) := by show bordF n R m r = []; unfold bordF bordOk; rw [hf]; rfl
    go_enter Tryz.func29, Tryz.ntmps29
    go_wp2_with (first | (go_at_call 51; refine Calls.mono (Ans.eqb (c_l4Fine _ _ _ _ _ _ (hR.keep hb)) hf) ?_; rintro e w1 ⟨rfl, hbn⟩; replace a0 := cell_keep a0 hbn; replace a1 := cell_keep a1 hbn; replace hI := hI.keep hbn; replace hb := bel_to (w := w) (by first | exact hb | exact hb.alloc hb.size _ | exact (hb.alloc hb.size _).alloc (Nat.le_trans hb.size (by simp)) _ | exact hb.setCell (by simp [hb.size]) _) hbn; clear hbn))
    go_ret
    exact ⟨_, rfl, by rw [HM.out]; exact hI.based (Nat.le_succ _), hb⟩
  have ht : isTabF n R = true := by have := hf; simp only [Bool.and_eq_true] at this; exact this.1
  obtain ⟨hn1, hn5, _, _⟩ := isTab_of ht
  cases hc : inB r 0 (n - 1)
  · have HM : Hid (bordF n R m r = []) := by
      have e : (decide (0 ≤ r) && decide (r < n)) = false := by rw [← hc]; unfold inB; congr 1; rw [decide_eq_decide]; omega
      show bordF n R m r = []; unfold bordF bordOk; rw [e]; simp
    clear ht
    go_enter Tryz.func29, Tryz.ntmps29
    go_wp2_with (first | (go_at_call 51; refine Calls.mono (Ans.eqb (c_l4Fine _ _ _ _ _ _ (hR.keep hb)) hf) ?_; rintro e w1 ⟨rfl, hbn⟩; replace a0 := cell_keep a0 hbn; replace a1 := cell_keep a1 hbn; replace hI := hI.keep hbn; replace hb := bel_to (w := w) (by first | exact hb | exact hb.alloc hb.size _ | exact (hb.alloc hb.size _).alloc (Nat.le_trans hb.size (by simp)) _ | exact hb.setCell (by simp [hb.size]) _) hbn; clear hbn) | (go_at_call 52; refine Calls.mono (Ans.eqb (c_l1In _ _ _ _) hc) ?_; rintro e w1 ⟨rfl, hbn⟩; replace a0 := cell_keep a0 hbn; replace a1 := cell_keep a1 hbn; replace hI := hI.keep hbn; replace hb := bel_to (w := w) (by first | exact hb | exact hb.alloc hb.size _ | exact (hb.alloc hb.size _).alloc (Nat.le_trans hb.size (by simp)) _ | exact hb.setCell (by simp [hb.size]) _) hbn; clear hbn))
    go_ret
    exact ⟨_, rfl, by rw [HM.out]; exact hI.based (Nat.le_succ _), hb⟩
  have hok : bordOk n R m r = true := by
    have e : (decide (0 ≤ r) && decide (r < n)) = true := by rw [← hc]; unfold inB; congr 1; rw [decide_eq_decide]; omega
    unfold bordOk; rw [hf, e]; rfl
  have hc' : 0 ≤ r ∧ r < n := by unfold inB at hc; simp only [Bool.and_eq_true, decide_eq_true_eq] at hc; omega
  have HM : Hid (bordF n R m r = maxF (flt (bordP R m r) (2 ^ n.toNat))) := by show bordF n R m r = _; unfold bordF; rw [if_pos hok]
  have hn01 : 0 ≤ n ∧ n ≤ 5 := ⟨by omega, hn5⟩
  obtain ⟨hp1, hp2, hp3⟩ := pow_nat (n := n) (by omega) hn5
  have hr1 := hc'.1
  have hr2 : r < 5 := by omega
  have HH : Hid (∀ (w' : World) (x : Int), St x → RowsAt w' oa R → Ans Tryz.prog 72 #[.agg #[.int .i64 n, .slice oa R.length cap], .int .i64 m, .agg #[.int .i64 x, .int .i64 r]] w' (.bool (holdsF R m x r))) := fun w' x hx h => c_l7Holds n oa cap R m x r w' h ht hx ⟨hr1, hr2⟩
  have HCo : Hid (Co r) := ⟨hr1, hr2⟩
  generalize hN : (2 : Nat) ^ n.toNat = N at *
  have hAll : allM n = (N : Int) - 1 := by unfold allM; rw [← hp1]
  clear hp1 hN ht hok hc'
  go_enter Tryz.func29, Tryz.ntmps29
  go_wp2_with (first | (go_at_call 51; refine Calls.mono (Ans.eqb (c_l4Fine _ _ _ _ _ _ (hR.keep hb)) hf) ?_; rintro e w1 ⟨rfl, hbn⟩; replace a0 := cell_keep a0 hbn; replace a1 := cell_keep a1 hbn; replace hI := hI.keep hbn; replace hb := bel_to (w := w) (by first | exact hb | exact hb.alloc hb.size _ | exact (hb.alloc hb.size _).alloc (Nat.le_trans hb.size (by simp)) _ | exact hb.setCell (by simp [hb.size]) _) hbn; clear hbn) | (go_at_call 52; refine Calls.mono (Ans.eqb (c_l1In _ _ _ _) hc) ?_; rintro e w1 ⟨rfl, hbn⟩; replace a0 := cell_keep a0 hbn; replace a1 := cell_keep a1 hbn; replace hI := hI.keep hbn; replace hb := bel_to (w := w) (by first | exact hb | exact hb.alloc hb.size _ | exact (hb.alloc hb.size _).alloc (Nat.le_trans hb.size (by simp)) _ | exact hb.setCell (by simp [hb.size]) _) hbn; clear hbn))
  go_loopw [7, 8] (fun v i wr => ∃ k : Nat, i = .int .i64 k ∧ k ≤ N ∧ OwnI wr (w.heap.size + 1) v (flt (bordP R m r) k) ∧ wr.cell? ⟨w.heap.size, 0, none⟩ = some (.int .i64 n) ∧ wr.cell? ⟨w.heap.size, 1, none⟩ = some (.slice oa R.length cap) ∧ Below w.heap.size w wr) (fun _ i _ => N - (intOf i).toNat)
  case atStart => exact ⟨0, rfl, Nat.zero_le _, hI, a0, a1, hb⟩
  case round =>
    clear hI a0 a1 hb
    obtain ⟨k, rfl, hk, hI, a0, a1, hb⟩ := hrel
    have HS : Hid (flt (bordP R m r) (k + 1) = flt (bordP R m r) k ++ (if bordP R m r k then [(k : Int)] else [])) := flt_succ _ k
    have hle := flt_le (bordP R m r) k
    by_cases hlt : k < N
    · have hst : Hid (St (k : Int)) := ⟨by omega, by omega⟩
      have hd : decide ((k : Int) ≤ (N : Int) - 1) = true := by simp; omega
      cases h1 : hasc (k : Int) r
      · have h1' : (bits BinOp.and IntKind.i64 ((k : Int) / 2 ^ r.toNat) 1 == 0) = true := (hasn_eq hst.out HCo.out).trans (by rw [h1]; rfl)
        cases h2 : holdsF R m (k : Int) r
        · have HP : Hid (bordP R m r (k : Int) = true) := by show bordP R m r (k : Int) = true; unfold bordP; rw [h1, h2]; rfl
          go_wp2_with (first | (go_at_call 71; refine Calls.mono (c_l2All _ hn01 _) ?_; rintro e w1 ⟨rfl, hbn⟩; replace a0 := cell_keep a0 hbn; replace a1 := cell_keep a1 hbn; replace hI := hI.keep hbn; replace hb := bel_to (w := w) (by first | exact hb | exact hb.alloc hb.size _ | exact (hb.alloc hb.size _).alloc (Nat.le_trans hb.size (by simp)) _ | exact hb.setCell (by simp [hb.size]) _) hbn; clear hbn) | (go_at_call 72; refine Calls.mono (Ans.eqb (HH.out _ _ hst.out (hR.keep hb)) h2) ?_; rintro e w1 ⟨rfl, hbn⟩; replace a0 := cell_keep a0 hbn; replace a1 := cell_keep a1 hbn; replace hI := hI.keep hbn; replace hb := bel_to (w := w) (by first | exact hb | exact hb.alloc hb.size _ | exact (hb.alloc hb.size _).alloc (Nat.le_trans hb.size (by simp)) _ | exact hb.setCell (by simp [hb.size]) _) hbn; clear hbn) | (at_builtin; refine wpList_append_fresh rfl _ _ 50 rfl (w.heap.size + 1) 3 i0 (.int .i64 0) 1 8 Tryz.underlying50 hi hz0 hz1 hz2 rfl (by decide) _ _ _ rfl (World.ownsRow.alloc hI _) _ 1 1 [.int .i64 ((k : Int))] rfl rfl (by intro j u hj; match j, hj with | 0, hj => simp at hj; subst hj; simp [Addr.add]) (by intro u hu; simp at hu; subst hu; rfl) (by unfold maxLen; omega) (by omega) (by have := World.block_lt_of_cell? _ _ a1; simp at this; simp; omega) ?_; intro v' w1 hown hgrow hfr; replace hb := (hb.alloc hb.size _).grown hgrow (by have := hb.size; simp; omega) (fun g hg => Nat.le_trans (Nat.le_succ _) (World.ownsRow.lt hI g hg).1); replace a0 := cell_gr (cell_al a0 _) (World.ownsRow.alloc hI _) (by omega) hgrow; replace a1 := cell_gr (cell_al a1 _) (World.ownsRow.alloc hI _) (by omega) hgrow; replace hI := OwnI.snoc hown; clear hown hgrow hfr) | fail)
          go_roundw
          case rel => exact ⟨k + 1, by go_num, by omega, by rw [HS.out, HP.out]; exact hI, a0, a1, hb⟩
          case measure => simp [intOf]; omega
        · have HP : Hid (bordP R m r (k : Int) = false) := by show bordP R m r (k : Int) = false; unfold bordP; rw [h1, h2]; rfl
          go_wp2_with (first | (go_at_call 71; refine Calls.mono (c_l2All _ hn01 _) ?_; rintro e w1 ⟨rfl, hbn⟩; replace a0 := cell_keep a0 hbn; replace a1 := cell_keep a1 hbn; replace hI := hI.keep hbn; replace hb := bel_to (w := w) (by first | exact hb | exact hb.alloc hb.size _ | exact (hb.alloc hb.size _).alloc (Nat.le_trans hb.size (by simp)) _ | exact hb.setCell (by simp [hb.size]) _) hbn; clear hbn) | (go_at_call 72; refine Calls.mono (Ans.eqb (HH.out _ _ hst.out (hR.keep hb)) h2) ?_; rintro e w1 ⟨rfl, hbn⟩; replace a0 := cell_keep a0 hbn; replace a1 := cell_keep a1 hbn; replace hI := hI.keep hbn; replace hb := bel_to (w := w) (by first | exact hb | exact hb.alloc hb.size _ | exact (hb.alloc hb.size _).alloc (Nat.le_trans hb.size (by simp)) _ | exact hb.setCell (by simp [hb.size]) _) hbn; clear hbn) | fail)
          go_roundw
          case rel => exact ⟨k + 1, by go_num, by omega, by rw [HS.out, HP.out]; simpa using hI, a0, a1, hb⟩
          case measure => simp [intOf]; omega
      · have h1' : (bits BinOp.and IntKind.i64 ((k : Int) / 2 ^ r.toNat) 1 == 0) = false := (hasn_eq hst.out HCo.out).trans (by rw [h1]; rfl)
        have HP : Hid (bordP R m r (k : Int) = false) := by show bordP R m r (k : Int) = false; unfold bordP; rw [h1]; rfl
        go_wp2_with (first | (go_at_call 71; refine Calls.mono (c_l2All _ hn01 _) ?_; rintro e w1 ⟨rfl, hbn⟩; replace a0 := cell_keep a0 hbn; replace a1 := cell_keep a1 hbn; replace hI := hI.keep hbn; replace hb := bel_to (w := w) (by first | exact hb | exact hb.alloc hb.size _ | exact (hb.alloc hb.size _).alloc (Nat.le_trans hb.size (by simp)) _ | exact hb.setCell (by simp [hb.size]) _) hbn; clear hbn) | fail)
        go_roundw
        case rel => exact ⟨k + 1, by go_num, by omega, by rw [HS.out, HP.out]; simpa using hI, a0, a1, hb⟩
        case measure => simp [intOf]; omega
    · have hkk : k = N := by omega
      have HK : Hid (k = N) := hkk
      have hd : decide ((k : Int) ≤ (N : Int) - 1) = false := by simp; omega
      clear hkk
      have hfr : (flt (bordP R m r) k).length ≤ Room := by unfold Room; omega
      obtain ⟨oF, cF, rfl⟩ := hI.shape
      go_wp2_with (first | (go_at_call 71; refine Calls.mono (c_l2All _ hn01 _) ?_; rintro e w1 ⟨rfl, hbn⟩; replace a0 := cell_keep a0 hbn; replace a1 := cell_keep a1 hbn; replace hI := hI.keep hbn; replace hb := bel_to (w := w) (by first | exact hb | exact hb.alloc hb.size _ | exact (hb.alloc hb.size _).alloc (Nat.le_trans hb.size (by simp)) _ | exact hb.setCell (by simp [hb.size]) _) hbn; clear hbn) | fail)
      refine (c_specMaximalSets _ _ _ _ (hI.ints rfl hfr)).mono ?_
      rintro e w3 ⟨v3, rfl, hR2, hbn⟩
      replace hR2 := hR2.based hb.size
      replace hb := bel_to hb hbn
      clear hbn
      go_wp2
      go_ret
      exact ⟨_, rfl, by rw [HM.out, ← HK.out]; exact hR2, hb⟩
end Go.Proofs.YtcenndlbhgfdfaaGreat
namespace Go.Proofs.YtcenndlbhgfdfaaGreat
open Go.RowKit
set_option linter.unusedVariables false
set_option maxRecDepth 100000

def isMinF (n : Int) (R : List (List Int)) (m l r : Int) : Bool :=
  askF n R m l r && (holdsF R m l r && (!hasc l r && (membersF l).all fun c => !holdsF R m (dif l (one c)) r))
theorem dif_le {x c : Int} (hx : St x) (hc : Co c) : 0 ≤ dif x (one c) ∧ dif x (one c) ≤ x := by
  obtain ⟨n, hn, rfl⟩ := st_nat hx; obtain ⟨k, hk, rfl⟩ := co_nat hc
  have h : ∀ n < 32, ∀ k < 5, 0 ≤ dif ((n : Nat) : Int) (one ((k : Nat) : Int)) ∧ dif ((n : Nat) : Int) (one ((k : Nat) : Int)) ≤ ((n : Nat) : Int) := by decide +kernel
  exact h n hn k hk
theorem ask_less {n : Int} {R : List (List Int)} {m l r c : Int} (h : askF n R m l r = true) (hc : Co c) : askF n R m (dif l (one c)) r = true := by
  unfold askF at h ⊢
  simp only [Bool.and_eq_true] at h ⊢
  obtain ⟨⟨ht, hm⟩, hd⟩ := h
  obtain ⟨hl, hr⟩ := dep_of hd (isTab_of ht).2.1
  refine ⟨⟨ht, hm⟩, ?_⟩
  have h2 := dif_le hl hc
  unfold isDepF isAttr at hd ⊢
  simp only [Bool.and_eq_true, decide_eq_true_eq] at hd ⊢
  obtain ⟨⟨⟨a, ⟨⟨b, c'⟩, d⟩, e⟩, f⟩, g⟩ := hd
  exact ⟨⟨⟨a, ⟨⟨b, c'⟩, h2.1⟩, by omega⟩, f⟩, g⟩

set_option maxHeartbeats 800000 in
theorem c_IsMinimalDep (n : Int) (oa) (cap : Nat) (R : List (List Int)) (m l r : Int) (w : World) (hR : RowsAt w oa R) :
    Ans Tryz.prog 31 #[.agg #[.int .i64 n, .slice oa R.length cap], .int .i64 m, .agg #[.int .i64 l, .int .i64 r]] w (.bool (isMinF n R m l r)) := by
  unfold Ans
  have hb := bel2 w (.cells #[.int .i64 n, .slice oa R.length cap] 26) (.cells #[.int .i64 l, .int .i64 r] 38)
  have a0 := two_a w #[.int .i64 n, .slice oa R.length cap] 26 #[.int .i64 l, .int .i64 r] 38 0 _ rfl
  have a1 := two_a w #[.int .i64 n, .slice oa R.length cap] 26 #[.int .i64 l, .int .i64 r] 38 1 _ rfl
  have d0 := two_b w #[.int .i64 n, .slice oa R.length cap] 26 #[.int .i64 l, .int .i64 r] 38 0 _ rfl
  have d1 := two_b w #[.int .i64 n, .slice oa R.length cap] 26 #[.int .i64 l, .int .i64 r] 38 1 _ rfl
  cases hh : (askF n R m l r && holdsF R m l r)
  · have HM : Hid (isMinF n R m l r = false) := by show isMinF n R m l r = false; unfold isMinF; rw [← Bool.and_assoc, hh]; rfl
    go_enter Tryz.func31, Tryz.ntmps31
    go_wp2_with (first | (go_at_call 33; refine Calls.mono (Ans.eqb (c_HoldsDep _ _ _ _ _ _ _ _ (hR.keep hb)) hh) ?_; rintro e w1 ⟨rfl, hbn⟩; replace a0 := cell_keep a0 hbn; replace a1 := cell_keep a1 hbn; replace d0 := cell_keep d0 hbn; replace d1 := cell_keep d1 hbn; replace hb := bel_to (w := w) (by first | exact hb | exact hb.alloc hb.size _ | exact (hb.alloc hb.size _).alloc (Nat.le_trans hb.size (by simp)) _ | exact hb.setCell (by simp [hb.size]) _) hbn; clear hbn))
    go_ret
    exact ⟨ret_bool HM.out.symm, hb⟩
  have hh2 : askF n R m l r = true ∧ holdsF R m l r = true := by simpa using hh
  have hdep : St l ∧ Co r := by
    have h := hh2.1
    unfold askF at h
    simp only [Bool.and_eq_true] at h
    exact dep_of h.2 (isTab_of h.1.1).2.1
  have hr64 : 0 ≤ r ∧ r < 64 := ⟨hdep.2.1, by have := hdep.2.2; omega⟩
  have HK : Hid (∀ c, Co c → askF n R m (dif l (one c)) r = true) := fun c hc => ask_less hh2.1 hc
  have HD : Hid (St l ∧ Co r) := hdep
  clear hdep
  cases hlr : hasc l r
  case true =>
    have HM : Hid (isMinF n R m l r = false) := by show isMinF n R m l r = false; unfold isMinF; rw [hlr]; simp
    go_enter Tryz.func31, Tryz.ntmps31
    go_wp2_with (first | (go_at_call 33; refine Calls.mono (Ans.eqb (c_HoldsDep _ _ _ _ _ _ _ _ (hR.keep hb)) hh) ?_; rintro e w1 ⟨rfl, hbn⟩; replace a0 := cell_keep a0 hbn; replace a1 := cell_keep a1 hbn; replace d0 := cell_keep d0 hbn; replace d1 := cell_keep d1 hbn; replace hb := bel_to (w := w) (by first | exact hb | exact hb.alloc hb.size _ | exact (hb.alloc hb.size _).alloc (Nat.le_trans hb.size (by simp)) _ | exact hb.setCell (by simp [hb.size]) _) hbn; clear hbn) | (go_at_call 67; refine Calls.mono (Ans.eqb (c_has _ _ hr64 _) hlr) ?_; rintro e w1 ⟨rfl, hbn⟩; replace a0 := cell_keep a0 hbn; replace a1 := cell_keep a1 hbn; replace d0 := cell_keep d0 hbn; replace d1 := cell_keep d1 hbn; replace hb := bel_to (w := w) (by first | exact hb | exact hb.alloc hb.size _ | exact (hb.alloc hb.size _).alloc (Nat.le_trans hb.size (by simp)) _ | exact hb.setCell (by simp [hb.size]) _) hbn; clear hbn))
    go_ret
    exact ⟨ret_bool HM.out.symm, hb⟩
  have HM : Hid (isMinF n R m l r = (membersF l).all fun c => !holdsF R m (dif l (one c)) r) := by show isMinF n R m l r = _; unfold isMinF; rw [hh2.1, hh2.2, hlr]; rfl
  have HC : Hid (∀ c ∈ membersF l, Co c) := fun c hc => (members_co c hc).1
  have hml := members_len l
  clear hh2
  go_enter Tryz.func31, Tryz.ntmps31
  go_wp2_with (first | (go_at_call 33; refine Calls.mono (Ans.eqb (c_HoldsDep _ _ _ _ _ _ _ _ (hR.keep hb)) hh) ?_; rintro e w1 ⟨rfl, hbn⟩; replace a0 := cell_keep a0 hbn; replace a1 := cell_keep a1 hbn; replace d0 := cell_keep d0 hbn; replace d1 := cell_keep d1 hbn; replace hb := bel_to (w := w) (by first | exact hb | exact hb.alloc hb.size _ | exact (hb.alloc hb.size _).alloc (Nat.le_trans hb.size (by simp)) _ | exact hb.setCell (by simp [hb.size]) _) hbn; clear hbn) | (go_at_call 67; refine Calls.mono (Ans.eqb (c_has _ _ hr64 _) hlr) ?_; rintro e w1 ⟨rfl, hbn⟩; replace a0 := cell_keep a0 hbn; replace a1 := cell_keep a1 hbn; replace d0 := cell_keep d0 hbn; replace d1 := cell_keep d1 hbn; replace hb := bel_to (w := w) (by first | exact hb | exact hb.alloc hb.size _ | exact (hb.alloc hb.size _).alloc (Nat.le_trans hb.size (by simp)) _ | exact hb.setCell (by simp [hb.size]) _) hbn; clear hbn))
  refine (c_Members _ _).mono ?_
  rintro e w1 ⟨v1, rfl, hM, hbn⟩
  replace a0 := cell_keep a0 hbn
  replace a1 := cell_keep a1 hbn
  replace d0 := cell_keep d0 hbn
  replace d1 := cell_keep d1 hbn
  replace hb := bel_to hb hbn
  generalize membersF l = M at *
  obtain ⟨oM, cM, hvM, hcM⟩ := owns_cells hM
  subst hvM
  have hMl : M.length ≤ Room := by unfold Room; omega
  obtain ⟨oM', cM', hvM', hL⟩ := hM.reads hMl
  simp only [Value.slice.injEq] at hvM'
  obtain ⟨rfl, _, rfl⟩ := hvM'
  clear hbn hM hcM
  go_wp2
  go_loopw [25] (fun i wr => ∃ k : Nat, i = .int .i64 k ∧ k ≤ M.length ∧ (M.take k).all (fun c => !holdsF R m (dif l (one c)) r) = true ∧ IntsAt wr oM M ∧ wr.cell? ⟨w.heap.size, 0, none⟩ = some (.int .i64 n) ∧ wr.cell? ⟨w.heap.size, 1, none⟩ = some (.slice oa R.length cap) ∧ wr.cell? ⟨w.heap.size + 1, 0, none⟩ = some (.int .i64 l) ∧ wr.cell? ⟨w.heap.size + 1, 1, none⟩ = some (.int .i64 r) ∧ Below w.heap.size w wr) (fun i _ => M.length - (intOf i).toNat)
  case atStart => exact ⟨0, rfl, Nat.zero_le _, by simp, hL, a0, a1, d0, d1, hb⟩
  case round =>
    clear a0 a1 d0 d1 hb hL
    obtain ⟨k, rfl, hk, hall, hL, a0, a1, d0, d1, hb⟩ := hrel
    have HA : Hid ((M.take k).all (fun c => !holdsF R m (dif l (one c)) r) = true) := hall
    clear hall
    by_cases hlt : k < M.length
    · obtain ⟨b, off, rfl, hbs, hca⟩ := hL.at_ (by omega)
      have hc1 := hca k hlt
      have hco := HC.out _ (List.mem_iff_getElem?.2 ⟨k, nth_eq hlt⟩)
      have HT : Hid ((M.take (k + 1)).all (fun c => !holdsF R m (dif l (one c)) r) = ((M.take k).all (fun c => !holdsF R m (dif l (one c)) r) && !holdsF R m (dif l (one (nth M k))) r)) := all_take_succ (fun c => !holdsF R m (dif l (one c)) r) M k hlt
      have HF : Hid ((!holdsF R m (dif l (one (nth M k))) r) = false → M.all (fun c => !holdsF R m (dif l (one c)) r) = false) := all_false (fun c => !holdsF R m (dif l (one c)) r) M k hlt
      clear hca
      generalize nth M k = c at *
      have hco1 := hco.1
      have hco2 := hco.2
      have HKc : Hid (askF n R m (dif l (one c)) r = true) := HK.out c hco
      have hx := fun (x : After wr) => (hR.keep hb).keep x.bel
      clear hco
      cases hy : holdsF R m (dif l (one c)) r
      · go_wp2_with fail
        (refine wp_region_after (by kernel_rfl) (by kernel_rfl) ?_; have q_a0 := fun (x : After _) => cell_keep a0 x.bel; have q_a1 := fun (x : After _) => cell_keep a1 x.bel; have q_d0 := fun (x : After _) => cell_keep d0 x.bel; have q_d1 := fun (x : After _) => cell_keep d1 x.bel; have q_hc1 := fun (x : After _) => cell_keep hc1 x.bel; (repeat (go_big_quiet_step ((first | (go_at_call 33; exact Ans.after (Ans.eqb (b' := false) (c_HoldsDep n _ _ R m (dif l (one c)) r _ (hx _)) (by rw [HKc.out, hy]; rfl))))))); clear q_a0; clear q_a1; clear q_d0; clear q_d1; clear q_hc1; refine wpQuiet_nil ?_; rintro _ ⟨⟨w1, hbn⟩, rfl⟩; (try simp only [After.w]); replace a0 := cell_keep a0 hbn; replace a1 := cell_keep a1 hbn; replace d0 := cell_keep d0 hbn; replace d1 := cell_keep d1 hbn; replace hc1 := cell_keep hc1 hbn; replace hL := hL.keep hbn; replace hb := bel_to (w := w) (by first | exact hb | exact hb.alloc hb.size _ | exact (hb.alloc hb.size _).alloc (Nat.le_trans hb.size (by simp)) _ | exact hb.setCell (by simp [hb.size]) _) hbn; clear hbn)
        go_wp2
        go_roundw
        case rel => exact ⟨k + 1, by go_num, by omega, by rw [HT.out, HA.out, hy]; rfl, hL, a0, a1, d0, d1, hb⟩
        case measure => simp [intOf]; omega
      · go_wp2_with fail
        (refine wp_region_after (by kernel_rfl) (by kernel_rfl) ?_; have q_a0 := fun (x : After _) => cell_keep a0 x.bel; have q_a1 := fun (x : After _) => cell_keep a1 x.bel; have q_d0 := fun (x : After _) => cell_keep d0 x.bel; have q_d1 := fun (x : After _) => cell_keep d1 x.bel; have q_hc1 := fun (x : After _) => cell_keep hc1 x.bel; (repeat (go_big_quiet_step ((first | (go_at_call 33; exact Ans.after (Ans.eqb (b' := true) (c_HoldsDep n _ _ R m (dif l (one c)) r _ (hx _)) (by rw [HKc.out, hy]; rfl))))))); clear q_a0; clear q_a1; clear q_d0; clear q_d1; clear q_hc1; refine wpQuiet_nil ?_; rintro _ ⟨⟨w1, hbn⟩, rfl⟩; (try simp only [After.w]); replace a0 := cell_keep a0 hbn; replace a1 := cell_keep a1 hbn; replace d0 := cell_keep d0 hbn; replace d1 := cell_keep d1 hbn; replace hc1 := cell_keep hc1 hbn; replace hL := hL.keep hbn; replace hb := bel_to (w := w) (by first | exact hb | exact hb.alloc hb.size _ | exact (hb.alloc hb.size _).alloc (Nat.le_trans hb.size (by simp)) _ | exact hb.setCell (by simp [hb.size]) _) hbn; clear hbn)
        go_wp2
        go_ret
        exact ⟨ret_bool (by rw [HM.out, HF.out (by rw [hy]; rfl)]), hb⟩
    · have hkk : k = M.length := by omega
      have HS : Hid (M.all (fun c => !holdsF R m (dif l (one c)) r) = true) := by have := HA.out; rw [hkk, List.take_length] at this; exact this
      clear hkk
      go_wp2
      go_ret
      exact ⟨ret_bool (by rw [HM.out, HS.out]), hb⟩
end Go.Proofs.YtcenndlbhgfdfaaGreat
