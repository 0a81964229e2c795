/- SatisfiesAll, of the program and of the reference. -/
import Derived.Test.YtjgfndbgenhjbaaHold2
namespace Go.Proofs.Ytjgfndbgenhjbaa
open Go.RowKit
set_option linter.unusedVariables false
set_option maxRecDepth 100000

def heldF (n : Int) (R : List (List Int)) (m : Int) (d : Int × Int) : Bool := askF n R m d.1 d.2 && holdsF R m d.1 d.2
def satF (n : Int) (R : List (List Int)) (m : Int) (D : List (Int × Int)) : Bool := D.all (heldF n R m) && (isTabF n R && modeF m)

set_option maxHeartbeats 400000 in
theorem c_SatisfiesAll (n : Int) (oa) (cap : Nat) (R : List (List Int)) (m : Int) (ob) (cb : Nat) (D : List (Int × Int)) (w : World) (hR : RowsAt w oa R) (hD : DepsAt w ob D) :
    Ans Try.prog 32 #[.agg #[.int .i64 n, .slice oa R.length cap], .int .i64 m, .slice ob D.length cb] w (.bool (satF n R m D)) := by
  unfold Ans
  have hn : D.length ≤ 1073741824 := hD.len
  have hb := (Below.refl w.heap.size w).alloc (Nat.le_refl _) (.cells #[.int .i64 n, .slice oa R.length cap] 28)
  have a0 := box_at w #[.int .i64 n, .slice oa R.length cap] 28 0 _ rfl
  have a1 := box_at w #[.int .i64 n, .slice oa R.length cap] 28 1 _ rfl
  cases ht : isTabF n R
  · have HM : Hid (satF n R m D = false) := by show satF n R m D = false; unfold satF; rw [ht]; simp
    go_enter Try.func32, Try.ntmps32
    go_wp2_with (first | (go_at_call 76; refine Calls.mono (Ans.eqb (c_IsTable _ _ _ _ _ (hR.keep hb)) ht) ?_; rintro e w1 ⟨rfl, hbn⟩; replace a0 := cell_keep a0 hbn; replace a1 := cell_keep a1 hbn; replace hb := bel_to (w := w) (by first | exact hb | exact hb.alloc hb.size _ | exact (hb.alloc hb.size _).alloc (Nat.le_trans hb.size (by simp)) _ | exact hb.setCell (by simp [hb.size]) _) hbn; clear hbn))
    go_ret
    exact ⟨ret_bool HM.out.symm, hb⟩
  cases hm : modeF m
  · have HM : Hid (satF n R m D = false) := by show satF n R m D = false; unfold satF; rw [ht, hm]; simp
    go_enter Try.func32, Try.ntmps32
    go_wp2_with (first | (go_at_call 76; refine Calls.mono (Ans.eqb (c_IsTable _ _ _ _ _ (hR.keep hb)) ht) ?_; rintro e w1 ⟨rfl, hbn⟩; replace a0 := cell_keep a0 hbn; replace a1 := cell_keep a1 hbn; replace hb := bel_to (w := w) (by first | exact hb | exact hb.alloc hb.size _ | exact (hb.alloc hb.size _).alloc (Nat.le_trans hb.size (by simp)) _ | exact hb.setCell (by simp [hb.size]) _) hbn; clear hbn) | (go_at_call 77; refine Calls.mono (Ans.eqb (c_isMode _ _) hm) ?_; rintro e w1 ⟨rfl, hbn⟩; replace a0 := cell_keep a0 hbn; replace a1 := cell_keep a1 hbn; replace hb := bel_to (w := w) (by first | exact hb | exact hb.alloc hb.size _ | exact (hb.alloc hb.size _).alloc (Nat.le_trans hb.size (by simp)) _ | exact hb.setCell (by simp [hb.size]) _) hbn; clear hbn))
    go_ret
    exact ⟨ret_bool HM.out.symm, hb⟩
  have HM : Hid (satF n R m D = D.all (heldF n R m)) := by show satF n R m D = _; unfold satF; rw [ht, hm]; simp
  go_enter Try.func32, Try.ntmps32
  go_wp2_with (first | (go_at_call 76; refine Calls.mono (Ans.eqb (c_IsTable _ _ _ _ _ (hR.keep hb)) ht) ?_; rintro e w1 ⟨rfl, hbn⟩; replace a0 := cell_keep a0 hbn; replace a1 := cell_keep a1 hbn; replace hb := bel_to (w := w) (by first | exact hb | exact hb.alloc hb.size _ | exact (hb.alloc hb.size _).alloc (Nat.le_trans hb.size (by simp)) _ | exact hb.setCell (by simp [hb.size]) _) hbn; clear hbn) | (go_at_call 77; refine Calls.mono (Ans.eqb (c_isMode _ _) hm) ?_; rintro e w1 ⟨rfl, hbn⟩; replace a0 := cell_keep a0 hbn; replace a1 := cell_keep a1 hbn; replace hb := bel_to (w := w) (by first | exact hb | exact hb.alloc hb.size _ | exact (hb.alloc hb.size _).alloc (Nat.le_trans hb.size (by simp)) _ | exact hb.setCell (by simp [hb.size]) _) hbn; clear hbn))
  go_loopw [19] (fun i wr => ∃ k : Nat, i = .int .i64 k ∧ k ≤ D.length ∧ (D.take k).all (heldF n R m) = true ∧ wr.cell? ⟨w.heap.size, 0, none⟩ = some (.int .i64 n) ∧ wr.cell? ⟨w.heap.size, 1, none⟩ = some (.slice oa R.length cap) ∧ Below w.heap.size w wr) (fun i _ => D.length - (intOf i).toNat)
  case atStart => exact ⟨0, rfl, Nat.zero_le _, by simp, a0, a1, hb⟩
  case round =>
    clear a0 a1 hb
    obtain ⟨k, rfl, hk, hall, a0, a1, hb⟩ := hrel
    have HA : Hid ((D.take k).all (heldF n R m) = true) := hall
    clear hall
    by_cases hlt : k < D.length
    · obtain ⟨b, off, rfl, hbs, hc⟩ := hD.at_ (by omega)
      have hc1 := cell_keep (hc k hlt).1 hb
      have hc2 := cell_keep (hc k hlt).2 hb
      have HT : Hid ((D.take (k + 1)).all (heldF n R m) = ((D.take k).all (heldF n R m) && heldF n R m (nl D k, nr D k))) := dall_take_succ _ D k hlt
      have HF : Hid (heldF n R m (nl D k, nr D k) = false → D.all (heldF n R m) = false) := dall_false _ D k hlt
      clear hc
      generalize nl D k = l at *
      generalize nr D k = r at *
      replace a0 := cell_keep a0 ((Below.refl _ _).alloc (Nat.le_refl _) (.cells #[.int .i64 l, .int .i64 r] 33))
      replace a1 := cell_keep a1 ((Below.refl _ _).alloc (Nat.le_refl _) (.cells #[.int .i64 l, .int .i64 r] 33))
      cases hh : (askF n R m l r && holdsF R m l r)
      · go_wp2_with (first | (go_at_call 81; refine Calls.mono (Ans.eqb (c_HoldsDep _ _ _ _ _ _ _ _ (hR.keep (hb.alloc hb.size _))) hh) ?_; rintro e w1 ⟨rfl, hbn⟩; replace a0 := cell_keep a0 hbn; replace a1 := cell_keep a1 hbn; replace hb := bel_to (w := w) (by first | exact hb | exact hb.alloc hb.size _ | exact (hb.alloc hb.size _).alloc (Nat.le_trans hb.size (by simp)) _ | exact hb.setCell (by simp [hb.size]) _) hbn; clear hbn))
        go_ret
        exact ⟨ret_bool (by rw [HM.out, HF.out hh]), hb⟩
      · go_wp2_with (first | (go_at_call 81; refine Calls.mono (Ans.eqb (c_HoldsDep _ _ _ _ _ _ _ _ (hR.keep (hb.alloc hb.size _))) hh) ?_; rintro e w1 ⟨rfl, hbn⟩; replace a0 := cell_keep a0 hbn; replace a1 := cell_keep a1 hbn; replace hb := bel_to (w := w) (by first | exact hb | exact hb.alloc hb.size _ | exact (hb.alloc hb.size _).alloc (Nat.le_trans hb.size (by simp)) _ | exact hb.setCell (by simp [hb.size]) _) hbn; clear hbn))
        go_roundw
        case rel => exact ⟨k + 1, by go_num, by omega, by rw [HT.out, HA.out]; exact hh, a0, a1, hb⟩
        case measure => simp [intOf]; omega
    · have hkk : k = D.length := by omega
      have HS : Hid (D.all (heldF n R m) = true) := by have := HA.out; rw [hkk, List.take_length] at this; exact this
      clear hkk
      go_wp2
      go_ret
      exact ⟨ret_bool (by rw [HM.out, HS.out]), hb⟩
set_option maxHeartbeats 400000 in
theorem c_specSatisfiesAll (n : Int) (oa) (cap : Nat) (R : List (List Int)) (m : Int) (ob) (cb : Nat) (D : List (Int × Int)) (w : World) (hR : RowsAt w oa R) (hD : DepsAt w ob D) :
    Ans Try.prog 31 #[.agg #[.int .i64 n, .slice oa R.length cap], .int .i64 m, .slice ob D.length cb] w (.bool (satF n R m D)) := by
  unfold Ans
  have hn : D.length ≤ 1073741824 := hD.len
  have hb := (Below.refl w.heap.size w).alloc (Nat.le_refl _) (.cells #[.int .i64 n, .slice oa R.length cap] 28)
  have a0 := box_at w #[.int .i64 n, .slice oa R.length cap] 28 0 _ rfl
  have a1 := box_at w #[.int .i64 n, .slice oa R.length cap] 28 1 _ rfl
  go_enter Try.func31, Try.ntmps31
  go_wp2
  go_loopw [7] (fun i wr => ∃ k : Nat, i = .int .i64 k ∧ k ≤ D.length ∧ (D.take k).all (heldF n R m) = true ∧ wr.cell? ⟨w.heap.size, 0, none⟩ = some (.int .i64 n) ∧ wr.cell? ⟨w.heap.size, 1, none⟩ = some (.slice oa R.length cap) ∧ Below w.heap.size w wr) (fun i _ => D.length - (intOf i).toNat)
  case atStart => exact ⟨0, rfl, Nat.zero_le _, by simp, a0, a1, hb⟩
  case round =>
    clear a0 a1 hb
    obtain ⟨k, rfl, hk, hall, a0, a1, hb⟩ := hrel
    have HA : Hid ((D.take k).all (heldF n R m) = true) := hall
    clear hall
    by_cases hlt : k < D.length
    · obtain ⟨b, off, rfl, hbs, hc⟩ := hD.at_ (by omega)
      have hc1 := cell_keep (hc k hlt).1 hb
      have hc2 := cell_keep (hc k hlt).2 hb
      have hx := fun (x : After wr) => (hR.keep hb).keep x.bel
      have HT : Hid ((D.take (k + 1)).all (heldF n R m) = ((D.take k).all (heldF n R m) && heldF n R m (nl D k, nr D k))) := dall_take_succ _ D k hlt
      have HF : Hid (heldF n R m (nl D k, nr D k) = false → D.all (heldF n R m) = false) := dall_false _ D k hlt
      clear hc
      generalize nl D k = l at *
      generalize nr D k = r at *
      cases hh : (askF n R m l r && holdsF R m l r)
      · go_wp2_with fail
        (refine wp_region_after (by kernel_rfl) (by kernel_rfl) ?_; have q_a0 := fun (x : After _) => cell_keep a0 x.bel; have q_a1 := fun (x : After _) => cell_keep a1 x.bel; have q_hc1 := fun (x : After _) => cell_keep hc1 x.bel; have q_hc2 := fun (x : After _) => cell_keep hc2 x.bel; (repeat (go_big_quiet_step ((first | (go_at_call 84; exact Ans.after (Ans.eqb (b' := false) (c_specHoldsDep _ _ _ _ _ _ _ _ (hx _)) hh)))))); clear q_a0; clear q_a1; clear q_hc1; clear q_hc2; refine wpQuiet_nil ?_; rintro _ ⟨⟨w1, hbn⟩, rfl⟩; (try simp only [After.w]); replace a0 := cell_keep a0 hbn; replace a1 := cell_keep a1 hbn; replace hc1 := cell_keep hc1 hbn; replace hc2 := cell_keep hc2 hbn; replace hb := bel_to (w := w) (by first | exact hb | exact hb.alloc hb.size _ | exact (hb.alloc hb.size _).alloc (Nat.le_trans hb.size (by simp)) _ | exact hb.setCell (by simp [hb.size]) _) hbn; clear hbn)
        go_wp2
        go_ret
        exact ⟨ret_bool (by unfold satF; rw [HF.out hh]; rfl), hb⟩
      · go_wp2_with fail
        (refine wp_region_after (by kernel_rfl) (by kernel_rfl) ?_; have q_a0 := fun (x : After _) => cell_keep a0 x.bel; have q_a1 := fun (x : After _) => cell_keep a1 x.bel; have q_hc1 := fun (x : After _) => cell_keep hc1 x.bel; have q_hc2 := fun (x : After _) => cell_keep hc2 x.bel; (repeat (go_big_quiet_step ((first | (go_at_call 84; exact Ans.after (Ans.eqb (b' := true) (c_specHoldsDep _ _ _ _ _ _ _ _ (hx _)) hh)))))); clear q_a0; clear q_a1; clear q_hc1; clear q_hc2; refine wpQuiet_nil ?_; rintro _ ⟨⟨w1, hbn⟩, rfl⟩; (try simp only [After.w]); replace a0 := cell_keep a0 hbn; replace a1 := cell_keep a1 hbn; replace hc1 := cell_keep hc1 hbn; replace hc2 := cell_keep hc2 hbn; replace hb := bel_to (w := w) (by first | exact hb | exact hb.alloc hb.size _ | exact (hb.alloc hb.size _).alloc (Nat.le_trans hb.size (by simp)) _ | exact hb.setCell (by simp [hb.size]) _) hbn; clear hbn)
        go_wp2
        go_roundw
        case rel => exact ⟨k + 1, by go_num, by omega, by rw [HT.out, HA.out]; exact hh, a0, a1, hb⟩
        case measure => simp [intOf]; omega
    · have hkk : k = D.length := by omega
      have HS : Hid (D.all (heldF n R m) = true) := by have := HA.out; rw [hkk, List.take_length] at this; exact this
      clear hkk
      go_wp2_with (first | (go_at_call 72; refine Calls.mono (c_l4Fine _ _ _ _ _ _ (hR.keep hb)) ?_; rintro e w1 ⟨rfl, hbn⟩; replace a0 := cell_keep a0 hbn; replace a1 := cell_keep a1 hbn; replace hb := bel_to (w := w) (by first | exact hb | exact hb.alloc hb.size _ | exact (hb.alloc hb.size _).alloc (Nat.le_trans hb.size (by simp)) _ | exact hb.setCell (by simp [hb.size]) _) hbn; clear hbn))
      go_ret
      exact ⟨ret_bool (by unfold satF; rw [HS.out]; rfl), hb⟩
end Go.Proofs.Ytjgfndbgenhjbaa
