/- IsDep and AreDeps, of the program and of the reference. -/
import Derived.Test.YtkanbnbofoabeaaBasic
import Derived.Test.YtkanbnbofoabeaaOwn
namespace Go.Proofs.Ytkanbnbofoabeaa
open Go.RowKit
set_option linter.unusedVariables false
set_option maxRecDepth 100000

def isDepF (n : Int) (l r : Int) : Bool := decide (1 ≤ n) && isAttr n l && decide (0 ≤ r) && decide (r < n)
def dv (l r : Int) : Value := .agg #[.int .i64 l, .int .i64 r]

theorem c_isDep (n l r : Int) (w : World) : Ans Try.prog 67 #[.int .i64 n, .agg #[.int .i64 l, .int .i64 r]] w (.bool (isDepF n l r)) := by
  unfold Ans
  have hb := Below.refl w.heap.size w
  by_cases h1 : 1 ≤ n
  · cases ha : isAttr n l
    · go_enter Try.func67, Try.ntmps67
      go_wp2_with (first | (go_at_call 81; refine Calls.mono (c_isAttributes _ _ _) ?_; rintro e w1 ⟨rfl, hbn⟩; replace hb := bel_to (w := w) (by first | exact hb | exact hb.alloc hb.size _ | exact (hb.alloc hb.size _).alloc (Nat.le_trans hb.size (by simp)) _ | exact hb.setCell (by simp [hb.size]) _) hbn; clear hbn))
      go_ret
      exact ⟨ret_bool (by simp [isDepF, ha]), hb⟩
    · go_enter Try.func67, Try.ntmps67
      go_wp2_with (first | (go_at_call 81; refine Calls.mono (c_isAttributes _ _ _) ?_; rintro e w1 ⟨rfl, hbn⟩; have b0 := box_cell hbn (by simp) 0 _ rfl; have b1 := box_cell hbn (by simp) 1 _ rfl; replace hb := bel_to (w := w) (by first | exact hb | exact hb.alloc hb.size _ | exact (hb.alloc hb.size _).alloc (Nat.le_trans hb.size (by simp)) _ | exact hb.setCell (by simp [hb.size]) _) hbn; clear hbn))
      all_goals go_ret
      all_goals exact ⟨ret_bool (by simp [isDepF, ha, h1]; omega), hb⟩
  · go_enter Try.func67, Try.ntmps67
    go_wp2
    go_ret
    exact ⟨ret_bool (by simp [isDepF]; omega), hb.alloc hb.size _⟩
theorem c_specIsDep (n l r : Int) (w : World) : Ans Try.prog 63 #[.int .i64 n, .agg #[.int .i64 l, .int .i64 r]] w (.bool (isDepF n l r)) := by
  unfold Ans
  have hb := Below.refl w.heap.size w
  cases h1 : inB n 1 5
  · go_enter Try.func63, Try.ntmps63
    go_wp2_with (first | (go_at_call 95; refine Calls.mono (c_l1In _ _ _ _) ?_; rintro e w1 ⟨rfl, hbn⟩; replace hb := bel_to (w := w) (by first | exact hb | exact hb.alloc hb.size _ | exact (hb.alloc hb.size _).alloc (Nat.le_trans hb.size (by simp)) _ | exact hb.setCell (by simp [hb.size]) _) hbn; clear hbn))
    go_ret
    exact ⟨ret_bool (by simp [isDepF, inB, isAttr] at h1 ⊢; omega), hb⟩
  · have h2 : 1 ≤ n ∧ n ≤ 5 := by simpa [inB] using h1
    cases ha : isAttr n l
    · go_enter Try.func63, Try.ntmps63
      go_wp2_with (first | (go_at_call 95; refine Calls.mono (c_l1In _ _ _ _) ?_; rintro e w1 ⟨rfl, hbn⟩; have b0 := box_cell hbn (by simp) 0 _ rfl; have b1 := box_cell hbn (by simp) 1 _ rfl; replace hb := bel_to (w := w) (by exact hb.alloc hb.size _) hbn; clear hbn) | (go_at_call 76; refine Calls.mono (c_specIsAttributes _ _ _) ?_; rintro e w1 ⟨rfl, hbn⟩; replace hb := bel_to (w := w) (by first | exact hb | exact hb.alloc hb.size _ | exact (hb.alloc hb.size _).alloc (Nat.le_trans hb.size (by simp)) _ | exact hb.setCell (by simp [hb.size]) _) hbn; clear hbn))
      go_ret
      exact ⟨ret_bool (by simp [isDepF, ha]), hb⟩
    · go_enter Try.func63, Try.ntmps63
      go_wp2_with fail
      refine Calls.mono (c_l1In _ _ _ _) ?_
      rintro e w1 ⟨rfl, hbn⟩
      have b0 := box_cell hbn (by simp) 0 _ rfl
      have b1 := box_cell hbn (by simp) 1 _ rfl
      replace hb := bel_to (w := w) (hb.alloc hb.size _) hbn
      clear hbn
      go_wp2_with (first | (go_at_call 76; refine Calls.mono (c_specIsAttributes _ _ _) ?_; rintro e w1 ⟨rfl, hbn⟩; replace b0 := cell_keep b0 hbn; replace b1 := cell_keep b1 hbn; replace hb := bel_to (w := w) (by first | exact hb | exact hb.alloc hb.size _ | exact (hb.alloc hb.size _).alloc (Nat.le_trans hb.size (by simp)) _ | exact hb.setCell (by simp [hb.size]) _) hbn; clear hbn) | (go_at_call 95; refine Calls.mono (c_l1In _ _ _ _) ?_; rintro e w1 ⟨rfl, hbn⟩; replace hb := bel_to (w := w) (by first | exact hb | exact hb.alloc hb.size _ | exact (hb.alloc hb.size _).alloc (Nat.le_trans hb.size (by simp)) _ | exact hb.setCell (by simp [hb.size]) _) hbn; clear hbn))
      go_ret
      exact ⟨ret_bool (by rw [Bool.eq_iff_iff]; simp [isDepF, ha, inB, h2.1]; omega), hb⟩

def areDepsF (n : Int) (D : List (Int × Int)) : Bool := D.all (fun d => isDepF n d.1 d.2) && (decide (1 ≤ n) && decide (n ≤ 5) && decide (D.length ≤ 20))

theorem dnth_eq {L : List (Int × Int)} {k : Nat} (hk : k < L.length) : L[k]? = some (nl L k, nr L k) := by
  simp [nl, nr, List.getD, List.getElem?_eq_getElem hk]
theorem dall_take_succ (p : Int × Int → Bool) (L : List (Int × Int)) (k : Nat) (hk : k < L.length) : (L.take (k + 1)).all p = ((L.take k).all p && p (nl L k, nr L k)) := by
  rw [List.take_add_one, dnth_eq hk]; simp
theorem dall_false (p : Int × Int → Bool) (L : List (Int × Int)) (k : Nat) (hk : k < L.length) (h : p (nl L k, nr L k) = false) : L.all p = false := by
  rw [List.all_eq_false]
  exact ⟨_, List.mem_iff_getElem?.2 ⟨k, dnth_eq hk⟩, by simp [h]⟩

theorem c_AreDeps (n : Int) (oa) (cap : Nat) (D : List (Int × Int)) (w : World) (hD : DepsAt w oa D) :
    Ans Try.prog 66 #[.int .i64 n, .slice oa D.length cap] w (.bool (areDepsF n D)) := by
  unfold Ans
  have hn : D.length ≤ 1073741824 := hD.len
  go_enter Try.func66, Try.ntmps66
  go_wp2
  go_loopw [9] (fun i wr => ∃ k : Nat, i = .int .i64 k ∧ k ≤ D.length ∧ (D.take k).all (fun d => isDepF n d.1 d.2) = true ∧ Below w.heap.size w wr) (fun i _ => D.length - (intOf i).toNat)
  case atStart => exact ⟨0, rfl, Nat.zero_le _, by simp, Below.refl _ _⟩
  case round =>
    obtain ⟨k, rfl, hk, hall, hb⟩ := hrel
    have HA : Hid ((D.take k).all (fun d => isDepF n d.1 d.2) = true) := hall
    clear hall
    by_cases hlt : k < D.length
    · obtain ⟨b, off, rfl, hbs, hc⟩ := hD.at_ (by omega)
      have hc1 := cell_keep (hc k hlt).1 hb
      have hc2 := cell_keep (hc k hlt).2 hb
      have HT : Hid ((D.take (k + 1)).all (fun d => isDepF n d.1 d.2) = ((D.take k).all (fun d => isDepF n d.1 d.2) && isDepF n (nl D k) (nr D k))) := dall_take_succ (fun d => isDepF n d.1 d.2) D k hlt
      have HF : Hid (isDepF n (nl D k) (nr D k) = false → D.all (fun d => isDepF n d.1 d.2) = false) := dall_false (fun d => isDepF n d.1 d.2) D k hlt
      clear hc
      cases hst : isDepF n (nl D k) (nr D k)
      · go_wp2_with (first | (go_at_call 67; refine Calls.mono (c_isDep _ _ _ _) ?_; rintro e w1 ⟨rfl, hbn⟩; replace hb := bel_to (w := w) (by first | exact hb | exact hb.alloc hb.size _ | exact (hb.alloc hb.size _).alloc (Nat.le_trans hb.size (by simp)) _ | exact hb.setCell (by simp [hb.size]) _) hbn; clear hbn))
        go_ret
        exact ⟨ret_bool (by unfold areDepsF; rw [HF.out hst]; rfl), hb⟩
      · go_wp2_with (first | (go_at_call 67; refine Calls.mono (c_isDep _ _ _ _) ?_; rintro e w1 ⟨rfl, hbn⟩; replace hb := bel_to (w := w) (by first | exact hb | exact hb.alloc hb.size _ | exact (hb.alloc hb.size _).alloc (Nat.le_trans hb.size (by simp)) _ | exact hb.setCell (by simp [hb.size]) _) hbn; clear hbn))
        go_roundw
        case rel => exact ⟨k + 1, by go_num, by omega, by rw [HT.out, HA.out, hst]; rfl, hb⟩
        case measure => simp [intOf]; omega
    · have hkk : k = D.length := by omega
      have HS : Hid (D.all (fun d => isDepF n d.1 d.2) = true) := by have := HA.out; rw [hkk, List.take_length] at this; exact this
      clear hkk
      go_wp2
      all_goals go_ret
      all_goals exact ⟨ret_bool (by unfold areDepsF; rw [HS.out, Bool.eq_iff_iff]; simp; omega), hb⟩
theorem c_specAreDeps (n : Int) (oa) (cap : Nat) (D : List (Int × Int)) (w : World) (hD : DepsAt w oa D) :
    Ans Try.prog 62 #[.int .i64 n, .slice oa D.length cap] w (.bool (areDepsF n D)) := by
  unfold Ans
  have hn : D.length ≤ 1073741824 := hD.len
  go_enter Try.func62, Try.ntmps62
  go_wp2
  go_loopw [5] (fun i wr => ∃ k : Nat, i = .int .i64 k ∧ k ≤ D.length ∧ (D.take k).all (fun d => isDepF n d.1 d.2) = true ∧ Below w.heap.size w wr) (fun i _ => D.length - (intOf i).toNat)
  case atStart => exact ⟨0, rfl, Nat.zero_le _, by simp, Below.refl _ _⟩
  case round =>
    obtain ⟨k, rfl, hk, hall, hb⟩ := hrel
    have HA : Hid ((D.take k).all (fun d => isDepF n d.1 d.2) = true) := hall
    clear hall
    by_cases hlt : k < D.length
    · obtain ⟨b, off, rfl, hbs, hc⟩ := hD.at_ (by omega)
      have hc1 := cell_keep (hc k hlt).1 hb
      have hc2 := cell_keep (hc k hlt).2 hb
      have HT : Hid ((D.take (k + 1)).all (fun d => isDepF n d.1 d.2) = ((D.take k).all (fun d => isDepF n d.1 d.2) && isDepF n (nl D k) (nr D k))) := dall_take_succ (fun d => isDepF n d.1 d.2) D k hlt
      have HF : Hid (isDepF n (nl D k) (nr D k) = false → D.all (fun d => isDepF n d.1 d.2) = false) := dall_false (fun d => isDepF n d.1 d.2) D k hlt
      clear hc
      cases hst : isDepF n (nl D k) (nr D k)
      · go_wp2_with (first | (go_at_call 63; refine Calls.mono (c_specIsDep _ _ _ _) ?_; rintro e w1 ⟨rfl, hbn⟩; replace hb := bel_to (w := w) (by first | exact hb | exact hb.alloc hb.size _ | exact (hb.alloc hb.size _).alloc (Nat.le_trans hb.size (by simp)) _ | exact hb.setCell (by simp [hb.size]) _) hbn; clear hbn))
        go_ret
        exact ⟨ret_bool (by unfold areDepsF; rw [HF.out hst]; rfl), hb⟩
      · go_wp2_with (first | (go_at_call 63; refine Calls.mono (c_specIsDep _ _ _ _) ?_; rintro e w1 ⟨rfl, hbn⟩; replace hb := bel_to (w := w) (by first | exact hb | exact hb.alloc hb.size _ | exact (hb.alloc hb.size _).alloc (Nat.le_trans hb.size (by simp)) _ | exact hb.setCell (by simp [hb.size]) _) hbn; clear hbn))
        go_roundw
        case rel => exact ⟨k + 1, by go_num, by omega, by rw [HT.out, HA.out, hst]; rfl, hb⟩
        case measure => simp [intOf]; omega
    · have hkk : k = D.length := by omega
      have HS : Hid (D.all (fun d => isDepF n d.1 d.2) = true) := by have := HA.out; rw [hkk, List.take_length] at this; exact this
      clear hkk
      cases h1 : inB n 1 5
      · go_wp2_with (first | (go_at_call 95; refine Calls.mono (c_l1In _ _ _ _) ?_; rintro e w1 ⟨rfl, hbn⟩; replace hb := bel_to (w := w) (by first | exact hb | exact hb.alloc hb.size _ | exact (hb.alloc hb.size _).alloc (Nat.le_trans hb.size (by simp)) _ | exact hb.setCell (by simp [hb.size]) _) hbn; clear hbn))
        go_ret
        exact ⟨ret_bool (by unfold areDepsF; rw [HS.out]; simp [inB] at h1 ⊢; omega), hb⟩
      · go_wp2_with (first | (go_at_call 95; refine Calls.mono (c_l1In _ _ _ _) ?_; rintro e w1 ⟨rfl, hbn⟩; replace hb := bel_to (w := w) (by first | exact hb | exact hb.alloc hb.size _ | exact (hb.alloc hb.size _).alloc (Nat.le_trans hb.size (by simp)) _ | exact hb.setCell (by simp [hb.size]) _) hbn; clear hbn))
        go_ret
        exact ⟨ret_bool (by unfold areDepsF; rw [HS.out]; simp [inB] at h1 ⊢; rw [Bool.eq_iff_iff]; simp; omega), hb⟩
end Go.Proofs.Ytkanbnbofoabeaa
