/- MinimalSets, of the program and of the reference: the walks. -/
import Derived.Test.YtkanbnbofoabeaaMin2
namespace Go.Proofs.Ytkanbnbofoabeaa
open Go.RowKit
set_option linter.unusedVariables false
set_option maxRecDepth 100000

theorem filter_take_succ (p : Int → Bool) (L : List Int) (k : Nat) (hk : k < L.length) : (L.take (k + 1)).filter p = (L.take k).filter p ++ (if p (nth L k) then [nth L k] else []) := by
  rw [List.take_add_one, nth_eq hk, List.filter_append]
  simp [List.filter_cons]
theorem bneI (x y : Int) : (x != y) = !(x == y) := rfl

set_option maxHeartbeats 1600000 in
theorem c_MinimalSets (oa) (cap : Nat) (L : List Int) (w : World) (hL : IntsAt w oa L) (hnil : oa = none → cap = 0) :
    Calls Try.prog 111 #[.slice oa L.length cap] w fun e w' => ∃ v, e = .returned v ∧ OwnI w' w.heap.size v (minF L) ∧ Below w.heap.size w w' := by
  obtain ⟨i0, hi, hz0, hz1, hz2⟩ := info_parts info_int
  have hn : L.length ≤ 1073741824 := hL.len
  have hb := (Below.refl w.heap.size w).alloc (Nat.le_refl _) (.cells #[] 3)
  have hI := OwnI.empty w w.heap.size (Nat.le_refl _)
  cases hs : (setsF L && decide (L.length ≤ 100))
  · have HM : Hid (minF L = []) := by show minF L = []; unfold minF; rw [hs]; rfl
    go_enter Try.func111, Try.ntmps111
    go_wp2_with (first | (go_at_call 141; refine Calls.mono (Ans.eqb (c_areSets _ _ _ _ (hL.keep hb)) hs) ?_; rintro e w1 ⟨rfl, hbn⟩; replace hI := hI.keep hbn; replace hb := bel_to (w := w) (by first | exact hb | exact hb.alloc hb.size _ | exact (hb.alloc hb.size _).alloc (Nat.le_trans hb.size (by simp)) _ | exact hb.setCell (by simp [hb.size]) _) hbn; clear hbn))
    go_ret
    exact ⟨_, rfl, by rw [HM.out]; exact hI, hb⟩
  · have hs' : setsF L = true ∧ L.length ≤ 100 := by simpa using hs
    have HM : Hid (minF L = (distinctF L).filter (minB L)) := minF_filter hs'.1 hs'.2
    have hml : (distinctF L).length ≤ 32 := by rw [distinctF_flt (setsF_mem hs'.1)]; exact flt_le _ _
    go_enter Try.func111, Try.ntmps111
    go_wp2_with (first | (go_at_call 141; refine Calls.mono (Ans.eqb (c_areSets _ _ _ _ (hL.keep hb)) hs) ?_; rintro e w1 ⟨rfl, hbn⟩; replace hI := hI.keep hbn; replace hb := bel_to (w := w) (by first | exact hb | exact hb.alloc hb.size _ | exact (hb.alloc hb.size _).alloc (Nat.le_trans hb.size (by simp)) _ | exact hb.setCell (by simp [hb.size]) _) hbn; clear hbn))
    have old := hI
    refine (c_distinct _ _ _ _ (hL.keep hb) hnil).mono ?_
    rintro e w1 ⟨v1, rfl, hM, hbn⟩
    have ap_hM := (apart_old old hM).symm
    replace hI := hI.keep hbn
    replace hM := hM.based hb.size
    replace hb := bel_to hb hbn
    clear old hbn
    generalize distinctF L = M at *
    obtain ⟨o1, c1, rfl⟩ := hM.shape
    go_wp2
    go_loopw [3, 17] (fun v i wr => ∃ k : Nat, i = .int .i64 k ∧ k ≤ M.length ∧ OwnI wr w.heap.size v ((M.take k).filter (minB L)) ∧ OwnI wr w.heap.size (.slice o1 M.length c1) M ∧ Apart (.slice o1 M.length c1) v ∧ Below w.heap.size w wr) (fun _ i _ => M.length - (intOf i).toNat)
    case atStart => exact ⟨0, rfl, Nat.zero_le _, by simpa using hI, hM, ap_hM, hb⟩
    case round =>
      clear hI hM ap_hM hb
      obtain ⟨k, rfl, hk, hI, hM, ap_hM, hb⟩ := hrel
      by_cases hlt : k < M.length
      · have HS : Hid ((M.take (k + 1)).filter (minB L) = (M.take k).filter (minB L) ++ (if minB L (nth M k) then [nth M k] else [])) := filter_take_succ _ _ _ hlt
        have hfl : ((M.take k).filter (minB L)).length ≤ 32 := by
          have := List.length_filter_le (minB L) (M.take k)
          rw [List.length_take] at this
          omega
        obtain ⟨b1, off1, rfl, hbs1, hca⟩ := (hM.ints rfl (by unfold Room; omega)).at_ (by omega)
        have hc1 := hca k hlt
        clear hca
        generalize nth M k = x at *
        generalize (M.take k).filter (minB L) = F at *
        go_wp2
        go_loopw [6, 23] (fun b i wr => ∃ j : Nat, i = .int .i64 j ∧ j ≤ L.length ∧ b = .bool ((L.take j).all fun y => (x == y) || !ins y x) ∧ OwnI wr w.heap.size u3 F ∧ OwnI wr w.heap.size (.slice (some ⟨b1, off1, none⟩) M.length c1) M ∧ Below w.heap.size w wr) (fun _ i _ => L.length - (intOf i).toNat)
        case atStart => exact ⟨0, rfl, Nat.zero_le _, by simp, hI, hM, hb⟩
        case round =>
          clear hI hM hb hc1
          obtain ⟨j, rfl, hj, rfl, hI, hM, hb⟩ := hrel
          by_cases hlj : j < L.length
          · obtain ⟨b2, off2, rfl, hbs2, hc⟩ := hL.at_ (by omega)
            have hc2 := cell_keep (hc j hlj) hb
            have HT : Hid ((L.take (j + 1)).all (fun y => (x == y) || !ins y x) = ((L.take j).all (fun y => (x == y) || !ins y x) && ((x == nth L j) || !ins (nth L j) x))) := all_take_succ (fun y => (x == y) || !ins y x) L j hlj
            clear hc
            generalize (L.take j).all (fun y => (x == y) || !ins y x) = A at *
            cases A
            · go_wp2
              go_roundw
              case rel => exact ⟨j + 1, by go_num, by omega, by rw [HT.out]; rfl, hI, hM, hb⟩
              case measure => simp [intOf]; omega
            · cases hxy : (x == nth L j)
              · cases hin : ins (nth L j) x
                · go_wp2_with (first | (go_at_call 119; refine Calls.mono (Ans.eqb (c_inside _ _ _) hin) ?_; rintro e w1 ⟨rfl, hbn⟩; replace hI := hI.keep hbn; replace hM := hM.keep hbn; replace hb := bel_to (w := w) (by first | exact hb | exact hb.alloc hb.size _ | exact (hb.alloc hb.size _).alloc (Nat.le_trans hb.size (by simp)) _ | exact hb.setCell (by simp [hb.size]) _) hbn; clear hbn))
                  go_roundw
                  case rel => exact ⟨j + 1, by go_num, by omega, by rw [HT.out, hxy, hin]; rfl, hI, hM, hb⟩
                  case measure => simp [intOf]; omega
                · go_wp2_with (first | (go_at_call 119; refine Calls.mono (Ans.eqb (c_inside _ _ _) hin) ?_; rintro e w1 ⟨rfl, hbn⟩; replace hI := hI.keep hbn; replace hM := hM.keep hbn; replace hb := bel_to (w := w) (by first | exact hb | exact hb.alloc hb.size _ | exact (hb.alloc hb.size _).alloc (Nat.le_trans hb.size (by simp)) _ | exact hb.setCell (by simp [hb.size]) _) hbn; clear hbn))
                  go_roundw
                  case rel => exact ⟨j + 1, by go_num, by omega, by rw [HT.out, hxy, hin]; rfl, hI, hM, hb⟩
                  case measure => simp [intOf]; omega
              · go_wp2
                go_roundw
                case rel => exact ⟨j + 1, by go_num, by omega, by rw [HT.out, hxy]; rfl, hI, hM, hb⟩
                case measure => simp [intOf]; omega
          · have hjj : j = L.length := by omega
            have HA : Hid ((L.take j).all (fun y => (x == y) || !ins y x) = minB L x) := by
              show (L.take j).all (fun y => (x == y) || !ins y x) = minB L x
              rw [hjj, List.take_length]; rfl
            clear hjj
            generalize (L.take j).all (fun y => (x == y) || !ins y x) = A at *
            cases A
            · go_wp2
              go_roundw
              case rel => exact ⟨k + 1, by go_num, by omega, by rw [HS.out, ← HA.out]; simpa using hI, hM, ap_hM, hb⟩
              case measure => simp [intOf]; omega
            · go_wp2_with (first | (at_builtin; refine wpList_append_fresh rfl _ _ 69 rfl w.heap.size 3 i0 (.int .i64 0) 1 8 Try.underlying69 hi hz0 hz1 hz2 rfl (by decide) _ _ _ rfl (World.ownsRow.alloc hI _) _ 1 1 [.int .i64 (x)] rfl rfl (by intro j u hj; match j, hj with | 0, hj => simp at hj; subst hj; simp [Addr.add]) (by intro u hu; simp at hu; subst hu; rfl) (by unfold maxLen; omega) (by omega) (by have := hb.size; simp; omega) ?_; intro v' w1 hown hgrow hfr; replace hb := (hb.alloc hb.size _).grown hgrow (by have := hb.size; simp; omega) (fun g hg => (World.ownsRow.lt hI g hg).1); obtain ⟨hM, ap_hM⟩ := OwnI.past hM hgrow ap_hM hfr; replace hI := OwnI.snoc hown; clear hown hgrow hfr) | fail)
              go_roundw
              case rel => exact ⟨k + 1, by go_num, by omega, by rw [HS.out, ← HA.out]; exact hI, hM, ap_hM, hb⟩
              case measure => simp [intOf]; omega
      · have hkk : k = M.length := by omega
        have HF : Hid ((M.take k).filter (minB L) = M.filter (minB L)) := by
          show (M.take k).filter (minB L) = M.filter (minB L)
          rw [hkk, List.take_length]
        clear hkk
        go_wp2
        go_ret
        exact ⟨_, rfl, by rw [HM.out, ← HF.out]; exact hI, hb⟩

end Go.Proofs.Ytkanbnbofoabeaa
