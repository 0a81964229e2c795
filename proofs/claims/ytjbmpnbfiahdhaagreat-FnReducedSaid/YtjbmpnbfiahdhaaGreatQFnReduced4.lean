/- Contracts and lemmas for FnReduced, part 4 of 5. -/
import Derived.Test.YtjbmpnbfiahdhaaGreatQFnReduced1
import Derived.Test.YtjbmpnbfiahdhaaGreatQFnReduced2
import Derived.Test.YtjbmpnbfiahdhaaGreatQFnReduced3
import Derived.ProofKit
import Derived.OpenShut
import Derived.Lib.SmallJoins
namespace Go.Proofs.YtjbmpnbfiahdhaaGreat
open Go.RowKit
set_option linter.unusedVariables false
set_option maxRecDepth 100000

def rowOk (n : Int) (L : List Int) : Bool := L.all (fun v => inB v (-1) 40) && ((L.length : Int) == n)
def isTabF (n : Int) (R : List (List Int)) : Bool := R.all (rowOk n) && (decide (1 ≤ n) && decide (n ≤ 5) && decide (R.length ≤ 40))
def modeF (m : Int) : Bool := (m == 0) || (m == 1)
def eqCellF (m a b : Int) : Bool := modeF m && ((a == b) && ((m == 0) || (a != -1)))
def agreeStep (m : Int) (A B : List Int) (x : Int) (c : Nat) : Int := if eqCellF m (nth A c) (nth B c) then uni x (one c) else x
def agreeF (m : Int) (A B : List Int) : Int := (List.range A.length).foldl (agreeStep m A B) 0
theorem rall_take_succ (p : List Int → Bool) (R : List (List Int)) (k : Nat) (hk : k < R.length) : (R.take (k + 1)).all p = ((R.take k).all p && p (row R k)) := by
  rw [List.take_add_one, row_eq hk]; simp
theorem rall_false (p : List Int → Bool) (R : List (List Int)) (k : Nat) (hk : k < R.length) (h : p (row R k) = false) : R.all p = false := by
  rw [List.all_eq_false]
  exact ⟨row R k, row_mem hk, by simp [h]⟩
theorem range_succ_fold {α : Type} (f : α → Nat → α) (z : α) (k : Nat) : (List.range (k + 1)).foldl f z = f ((List.range k).foldl f z) k := by
  rw [List.range_succ, List.foldl_append]; rfl

theorem c_isRow (oa) (cap : Nat) (L : List Int) (n : Int) (w : World) (hL : IntsAt w oa L) :
    Ans Tryz.prog 186 #[.slice oa L.length cap, .int .i64 n] w (.bool (rowOk n L)) := by
  unfold Ans
  have hn : L.length ≤ 1073741824 := hL.len
  go_enter Tryz.func186, Tryz.ntmps186
  go_wp2
  go_loop [9] (fun i => ∃ k : Nat, i = .int .i64 k ∧ k ≤ L.length ∧ (L.take k).all (fun v => inB v (-1) 40) = true) (fun i => L.length - (intOf i).toNat)
  case atStart => exact ⟨0, rfl, Nat.zero_le _, by simp⟩
  case round =>
    obtain ⟨k, rfl, hk, hall⟩ := hrel
    have HA : Hid ((L.take k).all (fun v => inB v (-1) 40) = true) := hall
    clear hall
    by_cases hlt : k < L.length
    · obtain ⟨b, off, rfl, hbs, hc⟩ := hL.at_ (by omega)
      have hc1 := hc k hlt
      have HT : Hid ((L.take (k + 1)).all (fun v => inB v (-1) 40) = ((L.take k).all (fun v => inB v (-1) 40) && inB (nth L k) (-1) 40)) := all_take_succ _ L k hlt
      have HF : Hid (inB (nth L k) (-1) 40 = false → L.all (fun v => inB v (-1) 40) = false) := all_false (fun v => inB v (-1) 40) L k hlt
      clear hc
      generalize nth L k = v at *
      by_cases h1 : v < -1
      · have HX : Hid (inB v (-1) 40 = false) := by show inB v (-1) 40 = false; simp [inB]; omega
        go_wp2
        go_ret
        exact ⟨ret_bool (by unfold rowOk; rw [HF.out HX.out]; rfl), Below.refl _ _⟩
      by_cases h2 : 40 < v
      · have HX : Hid (inB v (-1) 40 = false) := by show inB v (-1) 40 = false; simp [inB]; omega
        go_wp2
        go_ret
        exact ⟨ret_bool (by unfold rowOk; rw [HF.out HX.out]; rfl), Below.refl _ _⟩
      · have HX : Hid (inB v (-1) 40 = true) := by show inB v (-1) 40 = true; simp [inB]; omega
        go_wp2
        go_round
        case rel => exact ⟨k + 1, by go_num, by omega, by rw [HT.out, HA.out, HX.out]; rfl⟩
        case measure => simp [intOf]; omega
    · have hkk : k = L.length := by omega
      have HS : Hid (L.all (fun v => inB v (-1) 40) = true) := by have := HA.out; rw [hkk, List.take_length] at this; exact this
      clear hkk
      go_wp2
      go_ret
      exact ⟨ret_bool (by unfold rowOk; rw [HS.out]; rfl), Below.refl _ _⟩
theorem c_l3Row (oa) (cap : Nat) (L : List Int) (n : Int) (w : World) (hL : IntsAt w oa L) :
    Ans Tryz.prog 127 #[.slice oa L.length cap, .int .i64 n] w (.bool (rowOk n L)) := by
  unfold Ans
  have hn : L.length ≤ 1073741824 := hL.len
  go_enter Tryz.func127, Tryz.ntmps127
  go_wp2
  go_loopw [5] (fun i wr => ∃ k : Nat, i = .int .i64 k ∧ k ≤ L.length ∧ (L.take k).all (fun v => inB v (-1) 40) = true ∧ Below w.heap.size w wr) (fun i _ => L.length - (intOf i).toNat)
  case atStart => exact ⟨0, rfl, Nat.zero_le _, by simp, Below.refl _ _⟩
  case round =>
    obtain ⟨k, rfl, hk, hall, hb⟩ := hrel
    have HA : Hid ((L.take k).all (fun v => inB v (-1) 40) = true) := hall
    clear hall
    by_cases hlt : k < L.length
    · obtain ⟨b, off, rfl, hbs, hc⟩ := hL.at_ (by omega)
      have hc1 := cell_keep (hc k hlt) hb
      have HT : Hid ((L.take (k + 1)).all (fun v => inB v (-1) 40) = ((L.take k).all (fun v => inB v (-1) 40) && inB (nth L k) (-1) 40)) := all_take_succ _ L k hlt
      have HF : Hid (inB (nth L k) (-1) 40 = false → L.all (fun v => inB v (-1) 40) = false) := all_false (fun v => inB v (-1) 40) L k hlt
      clear hc
      generalize nth L k = v at *
      cases hin : inB v (-1) 40
      · go_wp2_with (first | (go_at_call 104; refine Calls.mono (Ans.eqb (c_l1In _ _ _ _) hin) ?_; rintro e w1 ⟨rfl, hbn⟩; replace hb := bel_to (w := w) (by first | exact hb | exact hb.alloc hb.size _ | exact (hb.alloc hb.size _).alloc (Nat.le_trans hb.size (by simp)) _ | exact hb.setCell (by simp [hb.size]) _) hbn; clear hbn))
        go_ret
        exact ⟨ret_bool (by unfold rowOk; rw [HF.out hin]; rfl), hb⟩
      · go_wp2_with (first | (go_at_call 104; refine Calls.mono (Ans.eqb (c_l1In _ _ _ _) hin) ?_; rintro e w1 ⟨rfl, hbn⟩; replace hb := bel_to (w := w) (by first | exact hb | exact hb.alloc hb.size _ | exact (hb.alloc hb.size _).alloc (Nat.le_trans hb.size (by simp)) _ | exact hb.setCell (by simp [hb.size]) _) hbn; clear hbn))
        go_roundw
        case rel => exact ⟨k + 1, by go_num, by omega, by rw [HT.out, HA.out, hin]; rfl, hb⟩
        case measure => simp [intOf]; omega
    · have hkk : k = L.length := by omega
      have HS : Hid (L.all (fun v => inB v (-1) 40) = true) := by have := HA.out; rw [hkk, List.take_length] at this; exact this
      clear hkk
      go_wp2
      go_ret
      exact ⟨ret_bool (by unfold rowOk; rw [HS.out]; rfl), hb⟩
theorem c_isMode (m : Int) (w : World) : Ans Tryz.prog 113 #[.int .i64 m] w (.bool (modeF m)) := by
  unfold Ans modeF
  go_enter Tryz.func113, Tryz.ntmps113
  cases h0 : (m == 0)
  · go_wp2
    go_ret
    exact ⟨rfl, Below.refl _ _⟩
  · go_wp2
    go_ret
    exact ⟨rfl, Below.refl _ _⟩
theorem c_l4Mode (m : Int) (w : World) : Ans Tryz.prog 183 #[.int .i64 m] w (.bool (modeF m)) := by
  unfold Ans modeF
  go_enter Tryz.func183, Tryz.ntmps183
  cases h0 : (m == 0)
  · go_wp2
    go_ret
    exact ⟨rfl, Below.refl _ _⟩
  · go_wp2
    go_ret
    exact ⟨rfl, Below.refl _ _⟩
theorem c_EqualCells (m a b : Int) (w : World) : Ans Tryz.prog 193 #[.int .i64 m, .int .i64 a, .int .i64 b] w (.bool (eqCellF m a b)) := by
  unfold Ans eqCellF
  have hb := Below.refl w.heap.size w
  go_enter Tryz.func193, Tryz.ntmps193
  cases hm : modeF m
  · go_wp2_with (first | (go_at_call 113; refine Calls.mono (Ans.eqb (c_isMode _ _) hm) ?_; rintro e w1 ⟨rfl, hbn⟩; replace hb := bel_to (w := w) (by first | exact hb | exact hb.alloc hb.size _ | exact (hb.alloc hb.size _).alloc (Nat.le_trans hb.size (by simp)) _ | exact hb.setCell (by simp [hb.size]) _) hbn; clear hbn))
    go_ret
    exact ⟨rfl, hb⟩
  · cases hab : (a == b)
    · go_wp2_with (first | (go_at_call 113; refine Calls.mono (Ans.eqb (c_isMode _ _) hm) ?_; rintro e w1 ⟨rfl, hbn⟩; replace hb := bel_to (w := w) (by first | exact hb | exact hb.alloc hb.size _ | exact (hb.alloc hb.size _).alloc (Nat.le_trans hb.size (by simp)) _ | exact hb.setCell (by simp [hb.size]) _) hbn; clear hbn))
      go_ret
      exact ⟨rfl, hb⟩
    · cases h0 : (m == 0)
      · go_wp2_with (first | (go_at_call 113; refine Calls.mono (Ans.eqb (c_isMode _ _) hm) ?_; rintro e w1 ⟨rfl, hbn⟩; replace hb := bel_to (w := w) (by first | exact hb | exact hb.alloc hb.size _ | exact (hb.alloc hb.size _).alloc (Nat.le_trans hb.size (by simp)) _ | exact hb.setCell (by simp [hb.size]) _) hbn; clear hbn))
        go_ret
        exact ⟨rfl, hb⟩
      · go_wp2_with (first | (go_at_call 113; refine Calls.mono (Ans.eqb (c_isMode _ _) hm) ?_; rintro e w1 ⟨rfl, hbn⟩; replace hb := bel_to (w := w) (by first | exact hb | exact hb.alloc hb.size _ | exact (hb.alloc hb.size _).alloc (Nat.le_trans hb.size (by simp)) _ | exact hb.setCell (by simp [hb.size]) _) hbn; clear hbn))
        go_ret
        exact ⟨rfl, hb⟩
theorem c_specEqualCells (m a b : Int) (w : World) : Ans Tryz.prog 194 #[.int .i64 m, .int .i64 a, .int .i64 b] w (.bool (eqCellF m a b)) := by
  unfold Ans eqCellF
  have hb := Below.refl w.heap.size w
  go_enter Tryz.func194, Tryz.ntmps194
  cases hm : modeF m
  · go_wp2_with (first | (go_at_call 183; refine Calls.mono (Ans.eqb (c_l4Mode _ _) hm) ?_; rintro e w1 ⟨rfl, hbn⟩; replace hb := bel_to (w := w) (by first | exact hb | exact hb.alloc hb.size _ | exact (hb.alloc hb.size _).alloc (Nat.le_trans hb.size (by simp)) _ | exact hb.setCell (by simp [hb.size]) _) hbn; clear hbn))
    go_ret
    exact ⟨rfl, hb⟩
  · cases hab : (a == b)
    · go_wp2_with (first | (go_at_call 183; refine Calls.mono (Ans.eqb (c_l4Mode _ _) hm) ?_; rintro e w1 ⟨rfl, hbn⟩; replace hb := bel_to (w := w) (by first | exact hb | exact hb.alloc hb.size _ | exact (hb.alloc hb.size _).alloc (Nat.le_trans hb.size (by simp)) _ | exact hb.setCell (by simp [hb.size]) _) hbn; clear hbn))
      go_ret
      exact ⟨rfl, hb⟩
    · cases h0 : (m == 0)
      · go_wp2_with (first | (go_at_call 183; refine Calls.mono (Ans.eqb (c_l4Mode _ _) hm) ?_; rintro e w1 ⟨rfl, hbn⟩; replace hb := bel_to (w := w) (by first | exact hb | exact hb.alloc hb.size _ | exact (hb.alloc hb.size _).alloc (Nat.le_trans hb.size (by simp)) _ | exact hb.setCell (by simp [hb.size]) _) hbn; clear hbn))
        go_ret
        exact ⟨rfl, hb⟩
      · go_wp2_with (first | (go_at_call 183; refine Calls.mono (Ans.eqb (c_l4Mode _ _) hm) ?_; rintro e w1 ⟨rfl, hbn⟩; replace hb := bel_to (w := w) (by first | exact hb | exact hb.alloc hb.size _ | exact (hb.alloc hb.size _).alloc (Nat.le_trans hb.size (by simp)) _ | exact hb.setCell (by simp [hb.size]) _) hbn; clear hbn))
        go_ret
        exact ⟨rfl, hb⟩
end Go.Proofs.YtjbmpnbfiahdhaaGreat
namespace Go.Proofs.YtjbmpnbfiahdhaaGreat
open Go.RowKit
set_option linter.unusedVariables false
set_option maxRecDepth 100000

theorem isTab_of {n : Int} {R : List (List Int)} (h : isTabF n R = true) : 1 ≤ n ∧ n ≤ 5 ∧ R.length ≤ 40 ∧ ∀ k, k < R.length → ((row R k).length : Int) = n := by
  unfold isTabF at h
  simp only [Bool.and_eq_true, decide_eq_true_eq] at h
  refine ⟨h.2.1.1, h.2.1.2, h.2.2, fun k hk => ?_⟩
  have := List.all_eq_true.1 h.1 _ (row_mem hk)
  unfold rowOk at this
  simp only [Bool.and_eq_true, beq_iff_eq] at this
  exact this.2
theorem c_IsTable (n : Int) (oa) (cap : Nat) (R : List (List Int)) (w : World) (hR : RowsAt w oa R) :
    Ans Tryz.prog 112 #[.agg #[.int .i64 n, .slice oa R.length cap]] w (.bool (isTabF n R)) := by
  unfold Ans
  have hn : R.length ≤ 1073741824 := hR.len
  have hb := (Below.refl w.heap.size w).alloc (Nat.le_refl _) (.cells #[.int .i64 n, .slice oa R.length cap] 29)
  have b0 := box_at w #[.int .i64 n, .slice oa R.length cap] 29 0 _ rfl
  have b1 := box_at w #[.int .i64 n, .slice oa R.length cap] 29 1 _ rfl
  by_cases h1 : n < 1
  · go_enter Tryz.func112, Tryz.ntmps112
    go_wp2
    go_ret
    exact ⟨ret_bool (by unfold isTabF; rw [decide_eq_false (show ¬ (1 ≤ n) by omega)]; simp), hb⟩
  by_cases h5 : 5 < n
  · go_enter Tryz.func112, Tryz.ntmps112
    go_wp2
    go_ret
    exact ⟨ret_bool (by unfold isTabF; rw [decide_eq_false (show ¬ (n ≤ 5) by omega)]; simp), hb⟩
  by_cases h40 : 40 < R.length
  · go_enter Tryz.func112, Tryz.ntmps112
    go_wp2
    go_ret
    exact ⟨ret_bool (by unfold isTabF; rw [decide_eq_false (show ¬ (R.length ≤ 40) by omega)]; simp), hb⟩
  have HB : Hid (∀ b, R.all (rowOk n) = b → isTabF n R = b) := fun b h => by
    unfold isTabF; rw [h, decide_eq_true (show 1 ≤ n by omega), decide_eq_true (show n ≤ 5 by omega), decide_eq_true (show R.length ≤ 40 by omega)]; simp
  go_enter Tryz.func112, Tryz.ntmps112
  go_wp2
  go_loopw [22] (fun i wr => ∃ k : Nat, i = .int .i64 k ∧ k ≤ R.length ∧ (R.take k).all (rowOk n) = true ∧ wr.cell? ⟨w.heap.size, 0, none⟩ = some (.int .i64 n) ∧ Below w.heap.size w wr) (fun i _ => R.length - (intOf i).toNat)
  case atStart => exact ⟨0, rfl, Nat.zero_le _, by simp, b0, hb⟩
  case round =>
    clear b0 b1 hb
    obtain ⟨k, rfl, hk, hall, b0, hb⟩ := hrel
    have HA : Hid ((R.take k).all (rowOk n) = true) := hall
    clear hall
    by_cases hlt : k < R.length
    · obtain ⟨b, off, rfl, hbs, hc⟩ := hR.at_ (by omega)
      obtain ⟨o, c, h1', hr⟩ := hc k hlt
      have hc1 := cell_keep h1' hb
      have HT : Hid ((R.take (k + 1)).all (rowOk n) = ((R.take k).all (rowOk n) && rowOk n (row R k))) := rall_take_succ _ R k hlt
      have HF : Hid (rowOk n (row R k) = false → R.all (rowOk n) = false) := rall_false _ R k hlt
      clear hc h1'
      generalize row R k = L at *
      cases hok : rowOk n L
      · go_wp2_with (first | (go_at_call 186; refine Calls.mono (Ans.eqb (c_isRow _ _ _ _ _ (hr.keep hb)) hok) ?_; rintro e w1 ⟨rfl, hbn⟩; replace b0 := cell_keep b0 hbn; replace hb := bel_to (w := w) (by first | exact hb | exact hb.alloc hb.size _ | exact (hb.alloc hb.size _).alloc (Nat.le_trans hb.size (by simp)) _ | exact hb.setCell (by simp [hb.size]) _) hbn; clear hbn))
        go_ret
        exact ⟨ret_bool (HB.out _ (HF.out hok)).symm, hb⟩
      · go_wp2_with (first | (go_at_call 186; refine Calls.mono (Ans.eqb (c_isRow _ _ _ _ _ (hr.keep hb)) hok) ?_; rintro e w1 ⟨rfl, hbn⟩; replace b0 := cell_keep b0 hbn; replace hb := bel_to (w := w) (by first | exact hb | exact hb.alloc hb.size _ | exact (hb.alloc hb.size _).alloc (Nat.le_trans hb.size (by simp)) _ | exact hb.setCell (by simp [hb.size]) _) hbn; clear hbn))
        go_roundw
        case rel => exact ⟨k + 1, by go_num, by omega, by rw [HT.out, HA.out, hok]; rfl, b0, hb⟩
        case measure => simp [intOf]; omega
    · have hkk : k = R.length := by omega
      have HS : Hid (R.all (rowOk n) = true) := by have := HA.out; rw [hkk, List.take_length] at this; exact this
      clear hkk
      go_wp2
      go_ret
      exact ⟨ret_bool (HB.out _ HS.out).symm, hb⟩
theorem c_specIsTable (n : Int) (oa) (cap : Nat) (R : List (List Int)) (w : World) (hR : RowsAt w oa R) :
    Ans Tryz.prog 40 #[.agg #[.int .i64 n, .slice oa R.length cap]] w (.bool (isTabF n R)) := by
  unfold Ans
  have hn : R.length ≤ 1073741824 := hR.len
  have hb := (Below.refl w.heap.size w).alloc (Nat.le_refl _) (.cells #[.int .i64 n, .slice oa R.length cap] 29)
  have b0 := box_at w #[.int .i64 n, .slice oa R.length cap] 29 0 _ rfl
  have b1 := box_at w #[.int .i64 n, .slice oa R.length cap] 29 1 _ rfl
  go_enter Tryz.func40, Tryz.ntmps40
  go_wp2
  go_loopw [3] (fun i wr => ∃ k : Nat, i = .int .i64 k ∧ k ≤ R.length ∧ (R.take k).all (rowOk n) = true ∧ wr.cell? ⟨w.heap.size, 0, none⟩ = some (.int .i64 n) ∧ wr.cell? ⟨w.heap.size, 1, none⟩ = some (.slice oa R.length cap) ∧ Below w.heap.size w wr) (fun i _ => R.length - (intOf i).toNat)
  case atStart => exact ⟨0, rfl, Nat.zero_le _, by simp, b0, b1, hb⟩
  case round =>
    clear b0 b1 hb
    obtain ⟨k, rfl, hk, hall, b0, b1, hb⟩ := hrel
    have HA : Hid ((R.take k).all (rowOk n) = true) := hall
    clear hall
    by_cases hlt : k < R.length
    · obtain ⟨b, off, rfl, hbs, hc⟩ := hR.at_ (by omega)
      obtain ⟨o, c, h1', hr⟩ := hc k hlt
      have hc1 := cell_keep h1' hb
      have hx := fun (x : After wr) => (hr.keep hb).keep x.bel
      have HT : Hid ((R.take (k + 1)).all (rowOk n) = ((R.take k).all (rowOk n) && rowOk n (row R k))) := rall_take_succ _ R k hlt
      have HF : Hid (rowOk n (row R k) = false → R.all (rowOk n) = false) := rall_false _ R k hlt
      clear hc h1'
      generalize row R k = L at *
      cases hok : rowOk n L
      · go_wp2_with fail
        (refine wp_region_after (by kernel_rfl) (by kernel_rfl) ?_; have q_b0 := fun (x : After _) => cell_keep b0 x.bel; have q_b1 := fun (x : After _) => cell_keep b1 x.bel; have q_hc1 := fun (x : After _) => cell_keep hc1 x.bel; (repeat (go_big_quiet_step ((first | (go_at_call 127; exact Ans.after (Ans.eqb (c_l3Row _ _ _ _ _ (hx _)) hok)))))); clear q_b0; clear q_b1; clear q_hc1; refine wpQuiet_nil ?_; rintro _ ⟨⟨w1, hbn⟩, rfl⟩; (try simp only [After.w]); replace b0 := cell_keep b0 hbn; replace b1 := cell_keep b1 hbn; replace hc1 := cell_keep hc1 hbn; replace hb := bel_to (w := w) (by first | exact hb | exact hb.alloc hb.size _ | exact (hb.alloc hb.size _).alloc (Nat.le_trans hb.size (by simp)) _ | exact hb.setCell (by simp [hb.size]) _) hbn; clear hbn)
        go_wp2
        go_ret
        exact ⟨ret_bool (by unfold isTabF; rw [HF.out hok]; rfl), hb⟩
      · go_wp2_with fail
        (refine wp_region_after (by kernel_rfl) (by kernel_rfl) ?_; have q_b0 := fun (x : After _) => cell_keep b0 x.bel; have q_b1 := fun (x : After _) => cell_keep b1 x.bel; have q_hc1 := fun (x : After _) => cell_keep hc1 x.bel; (repeat (go_big_quiet_step ((first | (go_at_call 127; exact Ans.after (Ans.eqb (c_l3Row _ _ _ _ _ (hx _)) hok)))))); clear q_b0; clear q_b1; clear q_hc1; refine wpQuiet_nil ?_; rintro _ ⟨⟨w1, hbn⟩, rfl⟩; (try simp only [After.w]); replace b0 := cell_keep b0 hbn; replace b1 := cell_keep b1 hbn; replace hc1 := cell_keep hc1 hbn; replace hb := bel_to (w := w) (by first | exact hb | exact hb.alloc hb.size _ | exact (hb.alloc hb.size _).alloc (Nat.le_trans hb.size (by simp)) _ | exact hb.setCell (by simp [hb.size]) _) hbn; clear hbn)
        go_wp2
        go_roundw
        case rel => exact ⟨k + 1, by go_num, by omega, by rw [HT.out, HA.out, hok]; rfl, b0, b1, hb⟩
        case measure => simp [intOf]; omega
    · have hkk : k = R.length := by omega
      have HS : Hid (R.all (rowOk n) = true) := by have := HA.out; rw [hkk, List.take_length] at this; exact this
      clear hkk
      cases hin : inB n 1 5
      · go_wp2_with (first | (go_at_call 104; refine Calls.mono (Ans.eqb (c_l1In _ _ _ _) hin) ?_; rintro e w1 ⟨rfl, hbn⟩; replace b1 := cell_keep b1 hbn; replace hb := bel_to (w := w) (by first | exact hb | exact hb.alloc hb.size _ | exact (hb.alloc hb.size _).alloc (Nat.le_trans hb.size (by simp)) _ | exact hb.setCell (by simp [hb.size]) _) hbn; clear hbn))
        go_ret
        exact ⟨ret_bool (by unfold inB at hin; unfold isTabF; rw [HS.out, hin]; rfl), hb⟩
      · go_wp2_with (first | (go_at_call 104; refine Calls.mono (Ans.eqb (c_l1In _ _ _ _) hin) ?_; rintro e w1 ⟨rfl, hbn⟩; replace b1 := cell_keep b1 hbn; replace hb := bel_to (w := w) (by first | exact hb | exact hb.alloc hb.size _ | exact (hb.alloc hb.size _).alloc (Nat.le_trans hb.size (by simp)) _ | exact hb.setCell (by simp [hb.size]) _) hbn; clear hbn))
        go_ret
        exact ⟨ret_bool (by unfold inB at hin; unfold isTabF; rw [HS.out, hin, Bool.true_and, Bool.true_and, decide_eq_decide]; omega), hb⟩
theorem c_l4Fine (n : Int) (oa) (cap : Nat) (R : List (List Int)) (m : Int) (w : World) (hR : RowsAt w oa R) :
    Ans Tryz.prog 103 #[.agg #[.int .i64 n, .slice oa R.length cap], .int .i64 m] w (.bool (isTabF n R && modeF m)) := by
  unfold Ans
  have hb := (Below.refl w.heap.size w).alloc (Nat.le_refl _) (.cells #[.int .i64 n, .slice oa R.length cap] 29)
  go_enter Tryz.func103, Tryz.ntmps103
  cases ht : isTabF n R
  · go_wp2_with (first | (go_at_call 40; refine Calls.mono (Ans.eqb (c_specIsTable _ _ _ _ _ (hR.keep hb)) ht) ?_; rintro e w1 ⟨rfl, hbn⟩; replace hb := bel_to (w := w) (by first | exact hb | exact hb.alloc hb.size _ | exact (hb.alloc hb.size _).alloc (Nat.le_trans hb.size (by simp)) _ | exact hb.setCell (by simp [hb.size]) _) hbn; clear hbn))
    go_ret
    exact ⟨rfl, hb⟩
  · go_wp2_with (first | (go_at_call 40; refine Calls.mono (Ans.eqb (c_specIsTable _ _ _ _ _ (hR.keep hb)) ht) ?_; rintro e w1 ⟨rfl, hbn⟩; replace hb := bel_to (w := w) (by first | exact hb | exact hb.alloc hb.size _ | exact (hb.alloc hb.size _).alloc (Nat.le_trans hb.size (by simp)) _ | exact hb.setCell (by simp [hb.size]) _) hbn; clear hbn) | (go_at_call 183; refine Calls.mono (c_l4Mode _ _) ?_; rintro e w1 ⟨rfl, hbn⟩; replace hb := bel_to (w := w) (by first | exact hb | exact hb.alloc hb.size _ | exact (hb.alloc hb.size _).alloc (Nat.le_trans hb.size (by simp)) _ | exact hb.setCell (by simp [hb.size]) _) hbn; clear hbn))
    go_ret
    exact ⟨rfl, hb⟩
set_option maxHeartbeats 400000 in
theorem c_agree (m : Int) (oa ob) (ca cb : Nat) (A B : List Int) (w : World) (hA : IntsAt w oa A) (hB : IntsAt w ob B) (hl : A.length ≤ 5) (hAB : B.length = A.length) :
    Ans Tryz.prog 191 #[.int .i64 m, .slice oa A.length ca, .slice ob B.length cb] w (.int .i64 (agreeF m A B)) := by
  unfold Ans
  have HL : Hid (B.length = A.length) := hAB
  have hlb : A.length ≤ B.length := by omega
  clear hAB
  go_enter Tryz.func191, Tryz.ntmps191
  go_wp2
  go_loopw [7, 11] (fun x i wr => ∃ k : Nat, i = .int .i64 k ∧ k ≤ A.length ∧ x = .int .i64 ((List.range k).foldl (agreeStep m A B) 0) ∧ Below w.heap.size w wr) (fun _ i _ => A.length - (intOf i).toNat)
  case atStart => exact ⟨0, rfl, Nat.zero_le _, rfl, Below.refl _ _⟩
  case round =>
    obtain ⟨k, rfl, hk, rfl, hb⟩ := hrel
    by_cases hlt : k < A.length
    · obtain ⟨b1, off1, rfl, hbs1, hca⟩ := hA.at_ (by omega)
      obtain ⟨b2, off2, rfl, hbs2, hcb⟩ := hB.at_ (by omega)
      have hc1 := cell_keep (hca k hlt) hb
      have hc2 := cell_keep (hcb k (by omega)) hb
      have HS : Hid ((List.range (k + 1)).foldl (agreeStep m A B) 0 = agreeStep m A B ((List.range k).foldl (agreeStep m A B) 0) k) := range_succ_fold _ _ _
      have HG : Hid (∀ x, agreeStep m A B x k = if eqCellF m (nth A k) (nth B k) then uni x (one k) else x) := fun x => rfl
      clear hca hcb
      generalize (List.range k).foldl (agreeStep m A B) 0 = x at *
      generalize nth A k = a at *
      generalize nth B k = b at *
      cases he : eqCellF m a b
      · go_wp2_with fail
        (refine wp_region_after (by kernel_rfl) (by kernel_rfl) ?_; have q_hc1 := fun (x : After _) => cell_keep hc1 x.bel; have q_hc2 := fun (x : After _) => cell_keep hc2 x.bel; (repeat (go_big_quiet_step ((first | (go_at_call 193; exact Ans.after (Ans.eqb (c_EqualCells _ _ _ _) he)))))); clear q_hc1; clear q_hc2; refine wpQuiet_nil ?_; rintro _ ⟨⟨w1, hbn⟩, rfl⟩; (try simp only [After.w]); replace hc1 := cell_keep hc1 hbn; replace hc2 := cell_keep hc2 hbn; replace hb := bel_to (w := w) (by first | exact hb | exact hb.alloc hb.size _ | exact (hb.alloc hb.size _).alloc (Nat.le_trans hb.size (by simp)) _ | exact hb.setCell (by simp [hb.size]) _) hbn; clear hbn)
        go_wp2
        go_roundw
        case rel => exact ⟨k + 1, by go_num, by omega, by rw [HS.out, HG.out, he]; rfl, hb⟩
        case measure => simp [intOf]; omega
      · go_wp2_with fail
        (refine wp_region_after (by kernel_rfl) (by kernel_rfl) ?_; have q_hc1 := fun (x : After _) => cell_keep hc1 x.bel; have q_hc2 := fun (x : After _) => cell_keep hc2 x.bel; (repeat (go_big_quiet_step ((first | (go_at_call 193; exact Ans.after (Ans.eqb (c_EqualCells _ _ _ _) he)))))); clear q_hc1; clear q_hc2; refine wpQuiet_nil ?_; rintro _ ⟨⟨w1, hbn⟩, rfl⟩; (try simp only [After.w]); replace hc1 := cell_keep hc1 hbn; replace hc2 := cell_keep hc2 hbn; replace hb := bel_to (w := w) (by first | exact hb | exact hb.alloc hb.size _ | exact (hb.alloc hb.size _).alloc (Nat.le_trans hb.size (by simp)) _ | exact hb.setCell (by simp [hb.size]) _) hbn; clear hbn)
        go_wp2
        go_roundw
        case rel => exact ⟨k + 1, by go_num, by omega, by rw [HS.out, HG.out, he]; rfl, hb⟩
        case measure => simp [intOf]; omega
    · have hkk : k = A.length := by omega
      have HK : Hid (k = A.length) := hkk
      clear hkk
      go_wp2
      go_ret
      exact ⟨ret_int (by rw [HK.out]; rfl), hb⟩
set_option maxHeartbeats 800000 in
theorem c_l4Agree (n : Int) (oa) (ca : Nat) (R : List (List Int)) (m : Int) (i j : Nat) (w : World) (hR : RowsAt w oa R) (ht : isTabF n R = true) (hi : i < R.length) (hj : j < R.length) :
    Ans Tryz.prog 135 #[.agg #[.int .i64 n, .slice oa R.length ca], .int .i64 m, .int .i64 i, .int .i64 j] w (.int .i64 (agreeF m (row R i) (row R j))) := by
  unfold Ans
  obtain ⟨hn1, hn5, hr40, hlen⟩ := isTab_of ht
  have li := hlen i hi
  have lj := hlen j hj
  clear hlen ht
  obtain ⟨b, off, rfl, hbs, hca⟩ := hR.at_ (by omega)
  obtain ⟨o1, c1, h1, r1⟩ := hca i hi
  obtain ⟨o2, c2, h2, r2⟩ := hca j hj
  clear hca hR
  have HN : Hid (n = (row R i).length) := li.symm
  have HF : Hid (agreeF m (row R i) (row R j) = (List.range (row R i).length).foldl (agreeStep m (row R i) (row R j)) 0) := rfl
  have hAB : (row R j).length = (row R i).length := by omega
  generalize row R i = A at *
  generalize row R j = B at *
  have hA5 : A.length ≤ 5 := by omega
  have HL : Hid (B.length = A.length) := hAB
  have hlb : A.length ≤ B.length := by omega
  obtain rfl : n = (A.length : Int) := by omega
  clear hAB li lj HN
  have hb := (Below.refl w.heap.size w).alloc (Nat.le_refl _) (.cells #[.int .i64 A.length, .slice (some ⟨b, off, none⟩) R.length ca] 29)
  have b0 := box_at w #[.int .i64 A.length, .slice (some ⟨b, off, none⟩) R.length ca] 29 0 _ rfl
  have b1 := box_at w #[.int .i64 A.length, .slice (some ⟨b, off, none⟩) R.length ca] 29 1 _ rfl
  go_enter Tryz.func135, Tryz.ntmps135
  go_wp2
  go_loopw [9, 10] (fun x i wr => ∃ k : Nat, i = .int .i64 k ∧ k ≤ A.length ∧ x = .int .i64 ((List.range k).foldl (agreeStep m A B) 0) ∧ wr.cell? ⟨w.heap.size, 0, none⟩ = some (.int .i64 A.length) ∧ wr.cell? ⟨w.heap.size, 1, none⟩ = some (.slice (some ⟨b, off, none⟩) R.length ca) ∧ Below w.heap.size w wr) (fun _ i _ => A.length - (intOf i).toNat)
  case atStart => exact ⟨0, rfl, Nat.zero_le _, rfl, b0, b1, hb⟩
  case round =>
    clear b0 b1 hb
    obtain ⟨k, rfl, hk, rfl, b0, b1, hb⟩ := hrel
    have d1 := cell_keep h1 hb
    have d2 := cell_keep h2 hb
    by_cases hlt : k < A.length
    · obtain ⟨b3, off3, rfl, hbs3, hca⟩ := r1.at_ (by omega)
      obtain ⟨b4, off4, rfl, hbs4, hcb⟩ := r2.at_ (by omega)
      have hc1 := cell_keep (hca k hlt) hb
      have hc2 := cell_keep (hcb k (by omega)) hb
      have HS : Hid ((List.range (k + 1)).foldl (agreeStep m A B) 0 = agreeStep m A B ((List.range k).foldl (agreeStep m A B) 0) k) := range_succ_fold _ _ _
      have HG : Hid (∀ x, agreeStep m A B x k = if eqCellF m (nth A k) (nth B k) then uni x (one k) else x) := fun x => rfl
      clear hca hcb
      generalize (List.range k).foldl (agreeStep m A B) 0 = x at *
      generalize nth A k = a at *
      generalize nth B k = b' at *
      cases he : eqCellF m a b'
      · go_wp2_with fail
        (refine wp_region_after (by kernel_rfl) (by kernel_rfl) ?_; have q_b0 := fun (x : After _) => cell_keep b0 x.bel; have q_b1 := fun (x : After _) => cell_keep b1 x.bel; have q_d1 := fun (x : After _) => cell_keep d1 x.bel; have q_d2 := fun (x : After _) => cell_keep d2 x.bel; have q_hc1 := fun (x : After _) => cell_keep hc1 x.bel; have q_hc2 := fun (x : After _) => cell_keep hc2 x.bel; (repeat (go_big_quiet_step ((first | (go_at_call 194; exact Ans.after (Ans.eqb (c_specEqualCells _ _ _ _) he)))))); clear q_b0; clear q_b1; clear q_d1; clear q_d2; clear q_hc1; clear q_hc2; refine wpQuiet_nil ?_; rintro _ ⟨⟨w1, hbn⟩, rfl⟩; (try simp only [After.w]); replace b0 := cell_keep b0 hbn; replace b1 := cell_keep b1 hbn; replace d1 := cell_keep d1 hbn; replace d2 := cell_keep d2 hbn; replace hc1 := cell_keep hc1 hbn; replace hc2 := cell_keep hc2 hbn; replace hb := bel_to (w := w) (by first | exact hb | exact hb.alloc hb.size _ | exact (hb.alloc hb.size _).alloc (Nat.le_trans hb.size (by simp)) _ | exact hb.setCell (by simp [hb.size]) _) hbn; clear hbn)
        go_wp2
        go_roundw
        case rel => exact ⟨k + 1, by go_num, by omega, by rw [HS.out, HG.out, he]; rfl, b0, b1, hb⟩
        case measure => simp [intOf]; omega
      · go_wp2_with fail
        (refine wp_region_after (by kernel_rfl) (by kernel_rfl) ?_; have q_b0 := fun (x : After _) => cell_keep b0 x.bel; have q_b1 := fun (x : After _) => cell_keep b1 x.bel; have q_d1 := fun (x : After _) => cell_keep d1 x.bel; have q_d2 := fun (x : After _) => cell_keep d2 x.bel; have q_hc1 := fun (x : After _) => cell_keep hc1 x.bel; have q_hc2 := fun (x : After _) => cell_keep hc2 x.bel; (repeat (go_big_quiet_step ((first | (go_at_call 194; exact Ans.after (Ans.eqb (c_specEqualCells _ _ _ _) he)))))); clear q_b0; clear q_b1; clear q_d1; clear q_d2; clear q_hc1; clear q_hc2; refine wpQuiet_nil ?_; rintro _ ⟨⟨w1, hbn⟩, rfl⟩; (try simp only [After.w]); replace b0 := cell_keep b0 hbn; replace b1 := cell_keep b1 hbn; replace d1 := cell_keep d1 hbn; replace d2 := cell_keep d2 hbn; replace hc1 := cell_keep hc1 hbn; replace hc2 := cell_keep hc2 hbn; replace hb := bel_to (w := w) (by first | exact hb | exact hb.alloc hb.size _ | exact (hb.alloc hb.size _).alloc (Nat.le_trans hb.size (by simp)) _ | exact hb.setCell (by simp [hb.size]) _) hbn; clear hbn)
        go_wp2
        go_roundw
        case rel => exact ⟨k + 1, by go_num, by omega, by rw [HS.out, HG.out, he]; rfl, b0, b1, hb⟩
        case measure => simp [intOf]; omega
    · have hkk : k = A.length := by omega
      have HK : Hid (k = A.length) := hkk
      clear hkk
      go_wp2
      go_ret
      exact ⟨ret_int (by rw [HF.out, HK.out]), hb⟩
end Go.Proofs.YtjbmpnbfiahdhaaGreat
namespace Go.Proofs.YtjbmpnbfiahdhaaGreat
open Go.RowKit
set_option linter.unusedVariables false
set_option maxRecDepth 100000

theorem two_a (w : World) (c1 : Array Value) (T1 : TypeId) (c2 : Array Value) (T2 : TypeId) (j : Nat) (v : Value) (h : c1[j]? = some v) : ((w.alloc (.cells c1 T1)).alloc (.cells c2 T2)).cell? ⟨w.heap.size, j, none⟩ = some v :=
  cell_keep (box_at w c1 T1 j v h) ((Below.refl _ _).alloc (Nat.le_refl _) _)
theorem two_b (w : World) (c1 : Array Value) (T1 : TypeId) (c2 : Array Value) (T2 : TypeId) (j : Nat) (v : Value) (h : c2[j]? = some v) : ((w.alloc (.cells c1 T1)).alloc (.cells c2 T2)).cell? ⟨w.heap.size + 1, j, none⟩ = some v := by
  have := box_at (w.alloc (.cells c1 T1)) c2 T2 j v h
  simpa using this
theorem bel2 (w : World) (o1 o2 : Obj) : Below w.heap.size w ((w.alloc o1).alloc o2) := ((Below.refl w.heap.size w).alloc (Nat.le_refl _) o1).alloc (by simp) o2

def askF (n : Int) (R : List (List Int)) (m l r : Int) : Bool := (isTabF n R && modeF m) && isDepF n l r
def violF (R : List (List Int)) (m l r : Int) (i k : Nat) : Bool := ins l (agreeF m (row R i) (row R k)) && !hasc (agreeF m (row R i) (row R k)) r
def holdsF (R : List (List Int)) (m l r : Int) : Bool := decide (∀ i, i < R.length → ∀ k, k < R.length → i < k → violF R m l r i k = false)
theorem holdsF_no {R : List (List Int)} {m l r : Int} {i k : Nat} (hik : i < k) (hk : k < R.length) (h : violF R m l r i k = true) : holdsF R m l r = false := by
  unfold holdsF
  rw [decide_eq_false_iff_not]
  intro H
  have := H i (by omega) k hk hik
  rw [h] at this
  cases this
theorem dep_of {n l r : Int} (h : isDepF n l r = true) (h5 : n ≤ 5) : St l ∧ Co r := by
  unfold isDepF at h
  simp only [Bool.and_eq_true, decide_eq_true_eq] at h
  obtain ⟨⟨⟨h1, h2⟩, h3⟩, h4⟩ := h
  unfold isAttr at h2
  simp only [Bool.and_eq_true, decide_eq_true_eq] at h2
  have hp := (pow_wrap (n := n) (by omega) h5).2.1
  exact ⟨⟨h2.1.2, by omega⟩, ⟨h3, by omega⟩⟩
theorem agreeStep_st {m : Int} {A B : List Int} {x : Int} {c : Nat} (hx : St x) (hc : c < 5) : St (agreeStep m A B x c) := by
  unfold agreeStep
  split
  · exact uni_st hx (one_st ⟨by omega, by omega⟩)
  · exact hx
theorem agreeF_st {m : Int} {A B : List Int} (h : A.length ≤ 5) : St (agreeF m A B) := by
  have : ∀ k, k ≤ 5 → St ((List.range k).foldl (agreeStep m A B) 0) := by
    intro k
    induction k with
    | zero => intro _; exact ⟨by simp, by simp⟩
    | succ k ih => intro hk; rw [range_succ_fold]; exact agreeStep_st (ih (by omega)) (by omega)
  exact this _ h

theorem c_asked (n : Int) (oa) (cap : Nat) (R : List (List Int)) (m l r : Int) (w : World) (hR : RowsAt w oa R) :
    Ans Tryz.prog 129 #[.agg #[.int .i64 n, .slice oa R.length cap], .int .i64 m, .agg #[.int .i64 l, .int .i64 r]] w (.bool (askF n R m l r)) := by
  unfold Ans askF
  have hb := bel2 w (.cells #[.int .i64 n, .slice oa R.length cap] 29) (.cells #[.int .i64 l, .int .i64 r] 46)
  have a0 := two_a w #[.int .i64 n, .slice oa R.length cap] 29 #[.int .i64 l, .int .i64 r] 46 0 _ rfl
  have d0 := two_b w #[.int .i64 n, .slice oa R.length cap] 29 #[.int .i64 l, .int .i64 r] 46 0 _ rfl
  have d1 := two_b w #[.int .i64 n, .slice oa R.length cap] 29 #[.int .i64 l, .int .i64 r] 46 1 _ rfl
  go_enter Tryz.func129, Tryz.ntmps129
  cases ht : isTabF n R
  · go_wp2_with (first | (go_at_call 112; refine Calls.mono (Ans.eqb (c_IsTable _ _ _ _ _ (hR.keep hb)) ht) ?_; rintro e w1 ⟨rfl, hbn⟩; replace a0 := cell_keep a0 hbn; replace d0 := cell_keep d0 hbn; replace d1 := cell_keep d1 hbn; replace hb := bel_to (w := w) (by first | exact hb | exact hb.alloc hb.size _ | exact (hb.alloc hb.size _).alloc (Nat.le_trans hb.size (by simp)) _ | exact hb.setCell (by simp [hb.size]) _) hbn; clear hbn))
    go_ret
    exact ⟨rfl, hb⟩
  · cases hm : modeF m
    · go_wp2_with (first | (go_at_call 112; refine Calls.mono (Ans.eqb (c_IsTable _ _ _ _ _ (hR.keep hb)) ht) ?_; rintro e w1 ⟨rfl, hbn⟩; replace a0 := cell_keep a0 hbn; replace d0 := cell_keep d0 hbn; replace d1 := cell_keep d1 hbn; replace hb := bel_to (w := w) (by first | exact hb | exact hb.alloc hb.size _ | exact (hb.alloc hb.size _).alloc (Nat.le_trans hb.size (by simp)) _ | exact hb.setCell (by simp [hb.size]) _) hbn; clear hbn) | (go_at_call 113; refine Calls.mono (Ans.eqb (c_isMode _ _) hm) ?_; rintro e w1 ⟨rfl, hbn⟩; replace a0 := cell_keep a0 hbn; replace d0 := cell_keep d0 hbn; replace d1 := cell_keep d1 hbn; replace hb := bel_to (w := w) (by first | exact hb | exact hb.alloc hb.size _ | exact (hb.alloc hb.size _).alloc (Nat.le_trans hb.size (by simp)) _ | exact hb.setCell (by simp [hb.size]) _) hbn; clear hbn))
      go_ret
      exact ⟨rfl, hb⟩
    · go_wp2_with (first | (go_at_call 112; refine Calls.mono (Ans.eqb (c_IsTable _ _ _ _ _ (hR.keep hb)) ht) ?_; rintro e w1 ⟨rfl, hbn⟩; replace a0 := cell_keep a0 hbn; replace d0 := cell_keep d0 hbn; replace d1 := cell_keep d1 hbn; replace hb := bel_to (w := w) (by first | exact hb | exact hb.alloc hb.size _ | exact (hb.alloc hb.size _).alloc (Nat.le_trans hb.size (by simp)) _ | exact hb.setCell (by simp [hb.size]) _) hbn; clear hbn) | (go_at_call 113; refine Calls.mono (Ans.eqb (c_isMode _ _) hm) ?_; rintro e w1 ⟨rfl, hbn⟩; replace a0 := cell_keep a0 hbn; replace d0 := cell_keep d0 hbn; replace d1 := cell_keep d1 hbn; replace hb := bel_to (w := w) (by first | exact hb | exact hb.alloc hb.size _ | exact (hb.alloc hb.size _).alloc (Nat.le_trans hb.size (by simp)) _ | exact hb.setCell (by simp [hb.size]) _) hbn; clear hbn) | (go_at_call 168; refine Calls.mono (c_isDep _ _ _ _) ?_; rintro e w1 ⟨rfl, hbn⟩; replace a0 := cell_keep a0 hbn; replace d0 := cell_keep d0 hbn; replace d1 := cell_keep d1 hbn; replace hb := bel_to (w := w) (by first | exact hb | exact hb.alloc hb.size _ | exact (hb.alloc hb.size _).alloc (Nat.le_trans hb.size (by simp)) _ | exact hb.setCell (by simp [hb.size]) _) hbn; clear hbn))
      go_ret
      exact ⟨rfl, hb⟩

set_option maxHeartbeats 1600000 in
theorem c_WitnessOf (n : Int) (oa) (cap : Nat) (R : List (List Int)) (m l r : Int) (w : World) (hR : RowsAt w oa R) :
    Calls Tryz.prog 128 #[.agg #[.int .i64 n, .slice oa R.length cap], .int .i64 m, .agg #[.int .i64 l, .int .i64 r]] w fun e w' => (∃ x y : Int, e = .returned (.tuple #[.int .i64 x, .int .i64 y, .bool (askF n R m l r && !holdsF R m l r)])) ∧ Below w.heap.size w w' := by
  have hb := bel2 w (.cells #[.int .i64 n, .slice oa R.length cap] 29) (.cells #[.int .i64 l, .int .i64 r] 46)
  have a0 := two_a w #[.int .i64 n, .slice oa R.length cap] 29 #[.int .i64 l, .int .i64 r] 46 0 _ rfl
  have a1 := two_a w #[.int .i64 n, .slice oa R.length cap] 29 #[.int .i64 l, .int .i64 r] 46 1 _ rfl
  have d0 := two_b w #[.int .i64 n, .slice oa R.length cap] 29 #[.int .i64 l, .int .i64 r] 46 0 _ rfl
  have d1 := two_b w #[.int .i64 n, .slice oa R.length cap] 29 #[.int .i64 l, .int .i64 r] 46 1 _ rfl
  cases hask : askF n R m l r
  · go_enter Tryz.func128, Tryz.ntmps128
    go_wp2_with (first | (go_at_call 129; refine Calls.mono (Ans.eqb (c_asked _ _ _ _ _ _ _ _ (hR.keep hb)) hask) ?_; rintro e w1 ⟨rfl, hbn⟩; replace a0 := cell_keep a0 hbn; replace a1 := cell_keep a1 hbn; replace d0 := cell_keep d0 hbn; replace d1 := cell_keep d1 hbn; replace hb := bel_to (w := w) (by first | exact hb | exact hb.alloc hb.size _ | exact (hb.alloc hb.size _).alloc (Nat.le_trans hb.size (by simp)) _ | exact hb.setCell (by simp [hb.size]) _) hbn; clear hbn))
    go_ret3
    exact ⟨⟨_, _, rfl⟩, hb⟩
  · have hk := hask
    unfold askF at hk
    simp only [Bool.and_eq_true] at hk
    obtain ⟨⟨ht, hm⟩, hd⟩ := hk
    obtain ⟨hn1, hn5, hr40, hlen⟩ := isTab_of ht
    obtain ⟨hsl, hcr⟩ := dep_of hd hn5
    have hcr64 : 0 ≤ r ∧ r < 64 := ⟨hcr.1, by have := hcr.2; omega⟩
    have HL : Hid (∀ k, k < R.length → ((row R k).length : Int) = n) := hlen
    have HH : Hid ((∀ i, i < R.length → ∀ k, k < R.length → i < k → violF R m l r i k = false) → holdsF R m l r = true) := fun h => decide_eq_true h
    have HN : Hid (∀ i k, i < k → k < R.length → violF R m l r i k = true → holdsF R m l r = false) := fun i k h1 h2 h3 => holdsF_no h1 h2 h3
    clear hm ht hlen hcr hd
    go_enter Tryz.func128, Tryz.ntmps128
    go_wp2_with (first | (go_at_call 129; refine Calls.mono (Ans.eqb (c_asked _ _ _ _ _ _ _ _ (hR.keep hb)) hask) ?_; rintro e w1 ⟨rfl, hbn⟩; replace a0 := cell_keep a0 hbn; replace a1 := cell_keep a1 hbn; replace d0 := cell_keep d0 hbn; replace d1 := cell_keep d1 hbn; replace hb := bel_to (w := w) (by first | exact hb | exact hb.alloc hb.size _ | exact (hb.alloc hb.size _).alloc (Nat.le_trans hb.size (by simp)) _ | exact hb.setCell (by simp [hb.size]) _) hbn; clear hbn))
    go_loopw [21] (fun i wr => ∃ k : Nat, i = .int .i64 k ∧ k ≤ R.length ∧ (∀ i, i < k → ∀ k, k < R.length → i < k → violF R m l r i k = false) ∧ wr.cell? ⟨w.heap.size, 1, none⟩ = some (.slice oa R.length cap) ∧ wr.cell? ⟨w.heap.size + 1, 0, none⟩ = some (.int .i64 l) ∧ wr.cell? ⟨w.heap.size + 1, 1, none⟩ = some (.int .i64 r) ∧ Below w.heap.size w wr) (fun i _ => R.length - (intOf i).toNat)
    case atStart => exact ⟨0, rfl, Nat.zero_le _, fun i hi => absurd hi (by omega), a1, d0, d1, hb⟩
    case round =>
      clear a0 a1 d0 d1 hb
      obtain ⟨i, rfl, hi, hall, a1, d0, d1, hb⟩ := hrel
      have HA : Hid (∀ i', i' < i → ∀ k, k < R.length → i' < k → violF R m l r i' k = false) := hall
      clear hall
      by_cases hlt : i < R.length
      · obtain ⟨b, off, rfl, hbs, hca⟩ := hR.at_ (by omega)
        obtain ⟨o1, c1, e1, r1⟩ := hca i hlt
        have hc1 := cell_keep e1 hb
        have HC : Hid (∀ k, k < R.length → ∃ o c, w.cell? ⟨b, off + k, none⟩ = some (.slice o (row R k).length c) ∧ IntsAt w o (row R k)) := hca
        clear hca e1
        go_wp2
        go_loopw [11] (fun i' wr => ∃ k : Nat, i' = .int .i64 k ∧ i < k ∧ k ≤ R.length ∧ (∀ k', k' < k → i < k' → violF R m l r i k' = false) ∧ wr.cell? ⟨w.heap.size, 1, none⟩ = some (.slice (some ⟨b, off, none⟩) R.length cap) ∧ wr.cell? ⟨w.heap.size + 1, 0, none⟩ = some (.int .i64 l) ∧ wr.cell? ⟨w.heap.size + 1, 1, none⟩ = some (.int .i64 r) ∧ Below w.heap.size w wr) (fun i _ => R.length - (intOf i).toNat)
        case atStart => exact ⟨i + 1, by go_num, by omega, by omega, fun k' h1 h2 => absurd h1 (by omega), a1, d0, d1, hb⟩
        case round =>
          clear a1 d0 d1 hb hc1
          obtain ⟨k, rfl, hik, hk, hall, a1, d0, d1, hb⟩ := hrel
          have HI : Hid (∀ k', k' < k → i < k' → violF R m l r i k' = false) := hall
          clear hall
          by_cases hlk : k < R.length
          · obtain ⟨o2, c2, e2, r2⟩ := HC.out k hlk
            have hc2 := cell_keep e2 hb
            have hA5 : (row R i).length ≤ 5 := by have := HL.out i hlt; omega
            have hAB : Hid ((row R k).length = (row R i).length) := by have h1 := HL.out i hlt; have h2 := HL.out k hlk; show (row R k).length = (row R i).length; omega
            have HV : Hid (violF R m l r i k = (ins l (agreeF m (row R i) (row R k)) && !hasc (agreeF m (row R i) (row R k)) r)) := rfl
            clear e2
            go_wp2_with fail
            refine Calls.mono (c_agree m _ _ _ _ _ _ _ (r1.keep hb) (r2.keep hb) hA5 hAB.out) ?_
            rintro e w1 ⟨rfl, hbn⟩
            replace a1 := cell_keep a1 hbn
            replace d0 := cell_keep d0 hbn
            replace d1 := cell_keep d1 hbn
            replace hb := bel_to hb hbn
            clear hbn hc2 hAB hA5
            generalize agreeF m (row R i) (row R k) = x at *
            cases h1 : ins l x
            · go_wp2_with (first | (go_at_call 167; refine Calls.mono (Ans.eqb (c_inside _ _ _) h1) ?_; rintro e w1 ⟨rfl, hbn⟩; replace a1 := cell_keep a1 hbn; replace d0 := cell_keep d0 hbn; replace d1 := cell_keep d1 hbn; replace hb := bel_to (w := w) (by first | exact hb | exact hb.alloc hb.size _ | exact (hb.alloc hb.size _).alloc (Nat.le_trans hb.size (by simp)) _ | exact hb.setCell (by simp [hb.size]) _) hbn; clear hbn))
              go_roundw
              case rel => exact ⟨k + 1, by go_num, by omega, by omega, lt_step (p := fun k' => i < k' → violF R m l r i k' = false) HI.out (fun _ => by rw [HV.out, h1]; rfl), a1, d0, d1, hb⟩
              case measure => simp [intOf]; omega
            · cases h2 : hasc x r
              · go_wp2_with (first | (go_at_call 167; refine Calls.mono (Ans.eqb (c_inside _ _ _) h1) ?_; rintro e w1 ⟨rfl, hbn⟩; replace a1 := cell_keep a1 hbn; replace d0 := cell_keep d0 hbn; replace d1 := cell_keep d1 hbn; replace hb := bel_to (w := w) (by first | exact hb | exact hb.alloc hb.size _ | exact (hb.alloc hb.size _).alloc (Nat.le_trans hb.size (by simp)) _ | exact hb.setCell (by simp [hb.size]) _) hbn; clear hbn) | (go_at_call 119; refine Calls.mono (Ans.eqb (c_has _ _ hcr64 _) h2) ?_; rintro e w1 ⟨rfl, hbn⟩; replace a1 := cell_keep a1 hbn; replace d0 := cell_keep d0 hbn; replace d1 := cell_keep d1 hbn; replace hb := bel_to (w := w) (by first | exact hb | exact hb.alloc hb.size _ | exact (hb.alloc hb.size _).alloc (Nat.le_trans hb.size (by simp)) _ | exact hb.setCell (by simp [hb.size]) _) hbn; clear hbn))
                go_ret3
                exact ⟨⟨_, _, by rw [HN.out i k hik hlk (by rw [HV.out, h1, h2]; rfl)]; rfl⟩, hb⟩
              · go_wp2_with (first | (go_at_call 167; refine Calls.mono (Ans.eqb (c_inside _ _ _) h1) ?_; rintro e w1 ⟨rfl, hbn⟩; replace a1 := cell_keep a1 hbn; replace d0 := cell_keep d0 hbn; replace d1 := cell_keep d1 hbn; replace hb := bel_to (w := w) (by first | exact hb | exact hb.alloc hb.size _ | exact (hb.alloc hb.size _).alloc (Nat.le_trans hb.size (by simp)) _ | exact hb.setCell (by simp [hb.size]) _) hbn; clear hbn) | (go_at_call 119; refine Calls.mono (Ans.eqb (c_has _ _ hcr64 _) h2) ?_; rintro e w1 ⟨rfl, hbn⟩; replace a1 := cell_keep a1 hbn; replace d0 := cell_keep d0 hbn; replace d1 := cell_keep d1 hbn; replace hb := bel_to (w := w) (by first | exact hb | exact hb.alloc hb.size _ | exact (hb.alloc hb.size _).alloc (Nat.le_trans hb.size (by simp)) _ | exact hb.setCell (by simp [hb.size]) _) hbn; clear hbn))
                go_roundw
                case rel => exact ⟨k + 1, by go_num, by omega, by omega, lt_step (p := fun k' => i < k' → violF R m l r i k' = false) HI.out (fun _ => by rw [HV.out, h1, h2]; rfl), a1, d0, d1, hb⟩
                case measure => simp [intOf]; omega
          · have HI2 : Hid (∀ k', k' < R.length → i < k' → violF R m l r i k' = false) := fun k' h1 h2 => HI.out k' (by omega) h2
            go_wp2
            go_roundw
            case rel => exact ⟨i + 1, by go_num, by omega, lt_step (p := fun i => ∀ k, k < R.length → i < k → violF R m l r i k = false) HA.out HI2.out, a1, d0, d1, hb⟩
            case measure => simp [intOf]; omega
      · have HE : Hid (holdsF R m l r = true) := HH.out fun i' h1 => HA.out i' (by omega)
        go_wp2
        go_ret3
        exact ⟨⟨_, _, by rw [HE.out]; rfl⟩, hb⟩
theorem c_HoldsDep (n : Int) (oa) (cap : Nat) (R : List (List Int)) (m l r : Int) (w : World) (hR : RowsAt w oa R) :
    Ans Tryz.prog 41 #[.agg #[.int .i64 n, .slice oa R.length cap], .int .i64 m, .agg #[.int .i64 l, .int .i64 r]] w (.bool (askF n R m l r && holdsF R m l r)) := by
  unfold Ans
  have hb := bel2 w (.cells #[.int .i64 n, .slice oa R.length cap] 29) (.cells #[.int .i64 l, .int .i64 r] 46)
  have a0 := two_a w #[.int .i64 n, .slice oa R.length cap] 29 #[.int .i64 l, .int .i64 r] 46 0 _ rfl
  have a1 := two_a w #[.int .i64 n, .slice oa R.length cap] 29 #[.int .i64 l, .int .i64 r] 46 1 _ rfl
  have d0 := two_b w #[.int .i64 n, .slice oa R.length cap] 29 #[.int .i64 l, .int .i64 r] 46 0 _ rfl
  have d1 := two_b w #[.int .i64 n, .slice oa R.length cap] 29 #[.int .i64 l, .int .i64 r] 46 1 _ rfl
  have hW := c_WitnessOf n oa cap R m l r _ (hR.keep hb)
  have HK := fun (w' : World) (h : RowsAt w' oa R) => c_asked n oa cap R m l r w' h
  cases hask : askF n R m l r <;> cases hh : holdsF R m l r <;> rw [hask, hh] at hW <;> (
    go_enter Tryz.func41, Tryz.ntmps41
    go_wp2_with fail
    refine hW.mono ?_
    rintro e w1 ⟨⟨x, y, rfl⟩, hbn⟩
    replace a0 := cell_keep a0 hbn
    replace a1 := cell_keep a1 hbn
    replace d0 := cell_keep d0 hbn
    replace d1 := cell_keep d1 hbn
    replace hb := bel_to hb hbn
    clear hbn
    go_wp2_with (first | (go_at_call 129; refine Calls.mono (Ans.eqb (HK _ (hR.keep hb)) hask) ?_; rintro e w1 ⟨rfl, hbn⟩; replace a0 := cell_keep a0 hbn; replace a1 := cell_keep a1 hbn; replace d0 := cell_keep d0 hbn; replace d1 := cell_keep d1 hbn; replace hb := bel_to (w := w) (by first | exact hb | exact hb.alloc hb.size _ | exact (hb.alloc hb.size _).alloc (Nat.le_trans hb.size (by simp)) _ | exact hb.setCell (by simp [hb.size]) _) hbn; clear hbn))
    go_ret
    exact ⟨rfl, hb⟩)
end Go.Proofs.YtjbmpnbfiahdhaaGreat
namespace Go.Proofs.YtjbmpnbfiahdhaaGreat
open Go.RowKit
set_option linter.unusedVariables false
set_option maxRecDepth 100000

theorem and_swap {x l : Int} (hx : St x) (hl : St l) : (bits BinOp.and .i64 x l == l) = ins l x := by
  obtain ⟨n, hn, rfl⟩ := st_nat hx; obtain ⟨m, hm, rfl⟩ := st_nat hl
  have h : ∀ n < 32, ∀ m < 32, (bits BinOp.and .i64 ((n : Nat) : Int) ((m : Nat) : Int) == ((m : Nat) : Int)) = ins (m : Nat) (n : Nat) := by decide +kernel
  exact h n hn m hm
set_option maxHeartbeats 1600000 in
theorem c_l6Pair (n : Int) (oa) (cap : Nat) (R : List (List Int)) (m l r : Int) (w : World) (hR : RowsAt w oa R) (ht : isTabF n R = true) (hsl : St l) (hcr : Co r) :
    Calls Tryz.prog 190 #[.agg #[.int .i64 n, .slice oa R.length cap], .int .i64 m, .agg #[.int .i64 l, .int .i64 r]] w fun e w' => (∃ x y : Int, e = .returned (.tuple #[.int .i64 x, .int .i64 y]) ∧ decide (x < 0) = holdsF R m l r) ∧ Below w.heap.size w w' := by
  have hb := bel2 w (.cells #[.int .i64 n, .slice oa R.length cap] 29) (.cells #[.int .i64 l, .int .i64 r] 46)
  have a0 := two_a w #[.int .i64 n, .slice oa R.length cap] 29 #[.int .i64 l, .int .i64 r] 46 0 _ rfl
  have a1 := two_a w #[.int .i64 n, .slice oa R.length cap] 29 #[.int .i64 l, .int .i64 r] 46 1 _ rfl
  have d0 := two_b w #[.int .i64 n, .slice oa R.length cap] 29 #[.int .i64 l, .int .i64 r] 46 0 _ rfl
  have d1 := two_b w #[.int .i64 n, .slice oa R.length cap] 29 #[.int .i64 l, .int .i64 r] 46 1 _ rfl
  obtain ⟨hn1, hn5, hr40, hlen⟩ := isTab_of ht
  have hr1 := hcr.1
  have hr2 := hcr.2
  have HT : Hid (isTabF n R = true) := ht
  have HL : Hid (∀ k, k < R.length → ((row R k).length : Int) = n) := hlen
  have HH : Hid ((∀ i, i < R.length → ∀ k, k < R.length → i < k → violF R m l r i k = false) → holdsF R m l r = true) := fun h => decide_eq_true h
  have HN : Hid (∀ i k, i < k → k < R.length → violF R m l r i k = true → holdsF R m l r = false) := fun i k h1 h2 h3 => holdsF_no h1 h2 h3
  have HSL : Hid (St l ∧ Co r) := ⟨hsl, hcr⟩
  clear ht hlen hcr hsl
  go_enter Tryz.func190, Tryz.ntmps190
  go_wp2
  go_loopw [8] (fun i wr => ∃ k : Nat, i = .int .i64 k ∧ k ≤ R.length ∧ (∀ i, i < k → ∀ k, k < R.length → i < k → violF R m l r i k = false) ∧ wr.cell? ⟨w.heap.size, 0, none⟩ = some (.int .i64 n) ∧ wr.cell? ⟨w.heap.size, 1, none⟩ = some (.slice oa R.length cap) ∧ wr.cell? ⟨w.heap.size + 1, 0, none⟩ = some (.int .i64 l) ∧ wr.cell? ⟨w.heap.size + 1, 1, none⟩ = some (.int .i64 r) ∧ Below w.heap.size w wr) (fun i _ => R.length - (intOf i).toNat)
  case atStart => exact ⟨0, rfl, Nat.zero_le _, fun i hi => absurd hi (by omega), a0, a1, d0, d1, hb⟩
  case round =>
    clear a0 a1 d0 d1 hb
    obtain ⟨i, rfl, hi, hall, a0, a1, d0, d1, hb⟩ := hrel
    have HA : Hid (∀ i', i' < i → ∀ k, k < R.length → i' < k → violF R m l r i' k = false) := hall
    clear hall
    by_cases hlt : i < R.length
    · go_wp2
      go_loopw [9] (fun i' wr => ∃ k : Nat, i' = .int .i64 k ∧ i < k ∧ k ≤ R.length ∧ (∀ k', k' < k → i < k' → violF R m l r i k' = false) ∧ wr.cell? ⟨w.heap.size, 0, none⟩ = some (.int .i64 n) ∧ wr.cell? ⟨w.heap.size, 1, none⟩ = some (.slice oa R.length cap) ∧ wr.cell? ⟨w.heap.size + 1, 0, none⟩ = some (.int .i64 l) ∧ wr.cell? ⟨w.heap.size + 1, 1, none⟩ = some (.int .i64 r) ∧ Below w.heap.size w wr) (fun i _ => R.length - (intOf i).toNat)
      case atStart => exact ⟨i + 1, by go_num, by omega, by omega, fun k' h1 h2 => absurd h1 (by omega), a0, a1, d0, d1, hb⟩
      case round =>
        clear a0 a1 d0 d1 hb
        obtain ⟨k, rfl, hik, hk, hall, a0, a1, d0, d1, hb⟩ := hrel
        have HI : Hid (∀ k', k' < k → i < k' → violF R m l r i k' = false) := hall
        clear hall
        by_cases hlk : k < R.length
        · have HV : Hid (violF R m l r i k = (ins l (agreeF m (row R i) (row R k)) && !hasc (agreeF m (row R i) (row R k)) r)) := rfl
          have HS : Hid (St (agreeF m (row R i) (row R k))) := agreeF_st (by have := HL.out i hlt; omega)
          go_wp2_with fail
          refine Calls.mono (c_l4Agree n _ _ _ m i k _ (hR.keep hb) HT.out hlt hlk) ?_
          rintro e w1 ⟨rfl, hbn⟩
          replace a0 := cell_keep a0 hbn
          replace a1 := cell_keep a1 hbn
          replace d0 := cell_keep d0 hbn
          replace d1 := cell_keep d1 hbn
          replace hb := bel_to hb hbn
          clear hbn
          generalize agreeF m (row R i) (row R k) = x at *
          cases h1 : ins l x
          · have h1' : (bits BinOp.and .i64 x l == l) = false := (and_swap HS.out HSL.out.1).trans h1
            go_wp2
            go_roundw
            case rel => exact ⟨k + 1, by go_num, by omega, by omega, lt_step (p := fun k' => i < k' → violF R m l r i k' = false) HI.out (fun _ => by rw [HV.out, h1]; rfl), a0, a1, d0, d1, hb⟩
            case measure => simp [intOf]; omega
          · have h1' : (bits BinOp.and .i64 x l == l) = true := (and_swap HS.out HSL.out.1).trans h1
            cases h2 : hasc x r
            · have h2' : (bits BinOp.and .i64 (x / 2 ^ r.toNat) 1 == 0) = true := (hasn_eq HS.out HSL.out.2).trans (by rw [h2]; rfl)
              go_wp2
              go_ret2
              exact ⟨⟨_, _, rfl, by rw [HN.out i k hik hlk (by rw [HV.out, h1, h2]; rfl)]; simp⟩, hb⟩
            · have h2' : (bits BinOp.and .i64 (x / 2 ^ r.toNat) 1 == 0) = false := (hasn_eq HS.out HSL.out.2).trans (by rw [h2]; rfl)
              go_wp2
              go_roundw
              case rel => exact ⟨k + 1, by go_num, by omega, by omega, lt_step (p := fun k' => i < k' → violF R m l r i k' = false) HI.out (fun _ => by rw [HV.out, h1, h2]; rfl), a0, a1, d0, d1, hb⟩
              case measure => simp [intOf]; omega
        · have HI2 : Hid (∀ k', k' < R.length → i < k' → violF R m l r i k' = false) := fun k' h1 h2 => HI.out k' (by omega) h2
          go_wp2
          go_roundw
          case rel => exact ⟨i + 1, by go_num, by omega, lt_step (p := fun i => ∀ k, k < R.length → i < k → violF R m l r i k = false) HA.out HI2.out, a0, a1, d0, d1, hb⟩
          case measure => simp [intOf]; omega
    · have HE : Hid (holdsF R m l r = true) := HH.out fun i' h1 => HA.out i' (by omega)
      go_wp2
      go_ret2
      exact ⟨⟨_, _, rfl, by rw [HE.out]; rfl⟩, hb⟩
theorem c_l7Holds (n : Int) (oa) (cap : Nat) (R : List (List Int)) (m l r : Int) (w : World) (hR : RowsAt w oa R) (ht : isTabF n R = true) (hsl : St l) (hcr : Co r) :
    Ans Tryz.prog 124 #[.agg #[.int .i64 n, .slice oa R.length cap], .int .i64 m, .agg #[.int .i64 l, .int .i64 r]] w (.bool (holdsF R m l r)) := by
  unfold Ans
  have hb := bel2 w (.cells #[.int .i64 n, .slice oa R.length cap] 29) (.cells #[.int .i64 l, .int .i64 r] 46)
  have hW := c_l6Pair n oa cap R m l r _ (hR.keep hb) ht hsl hcr
  go_enter Tryz.func124, Tryz.ntmps124
  go_wp2_with fail
  refine hW.mono ?_
  rintro e w1 ⟨⟨x, y, rfl, hx⟩, hbn⟩
  replace hb := bel_to hb hbn
  clear hbn
  go_wp2
  go_ret
  exact ⟨rfl, hb⟩
end Go.Proofs.YtjbmpnbfiahdhaaGreat
namespace Go.Proofs.YtjbmpnbfiahdhaaGreat
open Go.RowKit
set_option linter.unusedVariables false
set_option maxRecDepth 100000

def covF (D : List (Int × Int)) (x r : Int) : Bool := D.any fun o => (o.2 == r) && insA o.1 x
theorem c_l8Covered (oa) (cap : Nat) (D : List (Int × Int)) (x r : Int) (w : World) (hD : DepsAt w oa D) :
    Ans Tryz.prog 170 #[.slice oa D.length cap, .agg #[.int .i64 x, .int .i64 r]] w (.bool (covF D x r)) := by
  unfold Ans
  have hn : D.length ≤ 1073741824 := hD.len
  have hb := (Below.refl w.heap.size w).alloc (Nat.le_refl _) (.cells #[.int .i64 x, .int .i64 r] 46)
  have d0 := box_at w #[.int .i64 x, .int .i64 r] 46 0 _ rfl
  have d1 := box_at w #[.int .i64 x, .int .i64 r] 46 1 _ rfl
  go_enter Tryz.func170, Tryz.ntmps170
  go_wp2
  go_loopw [5] (fun i wr => ∃ k : Nat, i = .int .i64 k ∧ k ≤ D.length ∧ (D.take k).all (fun o => !((o.2 == r) && insA o.1 x)) = true ∧ wr.cell? ⟨w.heap.size, 0, none⟩ = some (.int .i64 x) ∧ wr.cell? ⟨w.heap.size, 1, none⟩ = some (.int .i64 r) ∧ Below w.heap.size w wr) (fun i _ => D.length - (intOf i).toNat)
  case atStart => exact ⟨0, rfl, Nat.zero_le _, by simp, d0, d1, hb⟩
  case round =>
    clear d0 d1 hb
    obtain ⟨k, rfl, hk, hall, d0, d1, hb⟩ := hrel
    have HA : Hid ((D.take k).all (fun o => !((o.2 == r) && insA o.1 x)) = true) := hall
    clear hall
    by_cases hlt : k < D.length
    · obtain ⟨b, off, rfl, hbs, hc⟩ := hD.at_ (by omega)
      have hc1 := cell_keep (hc k hlt).1 hb
      have hc2 := cell_keep (hc k hlt).2 hb
      have HT : Hid ((D.take (k + 1)).all (fun o => !((o.2 == r) && insA o.1 x)) = ((D.take k).all (fun o => !((o.2 == r) && insA o.1 x)) && !((nr D k == r) && insA (nl D k) x))) := dall_take_succ (fun o => !((o.2 == r) && insA o.1 x)) D k hlt
      have HY : Hid (((nr D k == r) && insA (nl D k) x) = true → covF D x r = true) := fun h => List.any_eq_true.2 ⟨(nl D k, nr D k), List.mem_iff_getElem?.2 ⟨k, dnth_eq hlt⟩, h⟩
      clear hc
      generalize nl D k = l at *
      generalize nr D k = q at *
      cases h1 : (q == r)
      · go_wp2_with fail
        (refine wp_region_after (by kernel_rfl) (by kernel_rfl) ?_; have q_d0 := fun (x : After _) => cell_keep d0 x.bel; have q_d1 := fun (x : After _) => cell_keep d1 x.bel; have q_hc1 := fun (x : After _) => cell_keep hc1 x.bel; have q_hc2 := fun (x : After _) => cell_keep hc2 x.bel; (repeat (go_big_quiet_step (fail))); clear q_d0; clear q_d1; clear q_hc1; clear q_hc2; refine wpQuiet_nil ?_; rintro _ ⟨⟨w1, hbn⟩, rfl⟩; (try simp only [After.w]); replace d0 := cell_keep d0 hbn; replace d1 := cell_keep d1 hbn; replace hc1 := cell_keep hc1 hbn; replace hc2 := cell_keep hc2 hbn; replace hb := bel_to (w := w) (by first | exact hb | exact hb.alloc hb.size _ | exact (hb.alloc hb.size _).alloc (Nat.le_trans hb.size (by simp)) _ | exact hb.setCell (by simp [hb.size]) _) hbn; clear hbn)
        go_wp2
        go_roundw
        case rel => exact ⟨k + 1, by go_num, by omega, by rw [HT.out, HA.out, h1]; rfl, d0, d1, hb⟩
        case measure => simp [intOf]; omega
      · cases h2 : (bits BinOp.and .i64 l x == l)
        · go_wp2_with fail
          (refine wp_region_after (by kernel_rfl) (by kernel_rfl) ?_; have q_d0 := fun (x : After _) => cell_keep d0 x.bel; have q_d1 := fun (x : After _) => cell_keep d1 x.bel; have q_hc1 := fun (x : After _) => cell_keep hc1 x.bel; have q_hc2 := fun (x : After _) => cell_keep hc2 x.bel; (repeat (go_big_quiet_step (fail))); clear q_d0; clear q_d1; clear q_hc1; clear q_hc2; refine wpQuiet_nil ?_; rintro _ ⟨⟨w1, hbn⟩, rfl⟩; (try simp only [After.w]); replace d0 := cell_keep d0 hbn; replace d1 := cell_keep d1 hbn; replace hc1 := cell_keep hc1 hbn; replace hc2 := cell_keep hc2 hbn; replace hb := bel_to (w := w) (by first | exact hb | exact hb.alloc hb.size _ | exact (hb.alloc hb.size _).alloc (Nat.le_trans hb.size (by simp)) _ | exact hb.setCell (by simp [hb.size]) _) hbn; clear hbn)
          go_wp2
          go_roundw
          case rel => exact ⟨k + 1, by go_num, by omega, by rw [HT.out, HA.out, h1]; unfold insA; rw [h2]; rfl, d0, d1, hb⟩
          case measure => simp [intOf]; omega
        · go_wp2_with fail
          (refine wp_region_after (by kernel_rfl) (by kernel_rfl) ?_; have q_d0 := fun (x : After _) => cell_keep d0 x.bel; have q_d1 := fun (x : After _) => cell_keep d1 x.bel; have q_hc1 := fun (x : After _) => cell_keep hc1 x.bel; have q_hc2 := fun (x : After _) => cell_keep hc2 x.bel; (repeat (go_big_quiet_step (fail))); clear q_d0; clear q_d1; clear q_hc1; clear q_hc2; refine wpQuiet_nil ?_; rintro _ ⟨⟨w1, hbn⟩, rfl⟩; (try simp only [After.w]); replace d0 := cell_keep d0 hbn; replace d1 := cell_keep d1 hbn; replace hc1 := cell_keep hc1 hbn; replace hc2 := cell_keep hc2 hbn; replace hb := bel_to (w := w) (by first | exact hb | exact hb.alloc hb.size _ | exact (hb.alloc hb.size _).alloc (Nat.le_trans hb.size (by simp)) _ | exact hb.setCell (by simp [hb.size]) _) hbn; clear hbn)
          go_wp2
          go_ret
          exact ⟨ret_bool (HY.out (by rw [h1]; unfold insA; rw [h2]; rfl)).symm, hb⟩
    · have hkk : k = D.length := by omega
      have HS : Hid (covF D x r = false) := by
        have h := HA.out
        rw [hkk, List.take_length, List.all_eq_true] at h
        show covF D x r = false
        unfold covF
        rw [List.any_eq_false]
        intro y hy
        have := h y hy
        intro e
        rw [e] at this
        cases this
      clear hkk
      go_wp2
      go_ret
      exact ⟨ret_bool HS.out.symm, hb⟩
end Go.Proofs.YtjbmpnbfiahdhaaGreat
namespace Go.Proofs.YtjbmpnbfiahdhaaGreat
open Go.RowKit
set_option linter.unusedVariables false
set_option maxRecDepth 100000

theorem stepM_sub {p : Int → Int → Bool} {r : Int} {T : List Int} {x y : Int} (h : y ∈ stepM p r T x) : y ∈ T ∨ y = x := by
  unfold stepM at h
  split at h
  · simpa using h
  · exact .inl h
theorem taken_sub (p : Int → Int → Bool) (r : Int) (P : List Int) : ∀ k, k ≤ P.length → ∀ y ∈ takenF p r (P.take k), y ∈ P
  | 0, _, y, hy => by simp [takenF] at hy
  | k + 1, hk, y, hy => by
    rw [taken_succ p r (by omega)] at hy
    rcases stepM_sub hy with h | h
    · exact taken_sub p r P k (by omega) y h
    · rw [h]; exact List.mem_iff_getElem?.2 ⟨k, nth_eq (by omega)⟩
theorem cols_right {p : Int → Int → Bool} {P : List Int} {n : Nat} : ∀ o ∈ colsF p P n, o.2 < (n : Int) := by
  intro o ho
  unfold colsF at ho
  obtain ⟨r, hr, ho⟩ := List.mem_flatMap.1 ho
  unfold colF at ho
  obtain ⟨x, _, rfl⟩ := List.mem_map.1 ho
  have := List.mem_range.1 hr
  simp; omega
theorem cov_out {p : Int → Int → Bool} {P T : List Int} {n : Nat} {x : Int} (hT : ∀ y ∈ T, St y) (hx : St x) : covF (colsF p P n ++ T.map fun y => (y, (n : Int))) x n = anyIns T x := by
  unfold covF anyIns
  rw [List.any_append]
  have e1 : (colsF p P n).any (fun o => (o.2 == (n : Int)) && insA o.1 x) = false := by
    rw [List.any_eq_false]
    intro o ho
    have := cols_right o ho
    have : (o.2 == (n : Int)) = false := by simp; omega
    rw [this]; simp
  rw [e1, Bool.false_or, List.any_map, Bool.eq_iff_iff, List.any_eq_true, List.any_eq_true]
  constructor
  · rintro ⟨y, hy, h⟩; exact ⟨y, hy, by simp only [Function.comp, beq_self_eq_true, Bool.true_and] at h; rw [insA_eq (hT y hy) hx] at h; exact h⟩
  · rintro ⟨y, hy, h⟩; exact ⟨y, hy, by simp only [Function.comp, beq_self_eq_true, Bool.true_and]; rw [insA_eq (hT y hy) hx]; exact h⟩
end Go.Proofs.YtjbmpnbfiahdhaaGreat
namespace Go.Proofs.YtjbmpnbfiahdhaaGreat
open Go.RowKit
set_option linter.unusedVariables false
set_option maxRecDepth 100000

def prOk (D : List (Int × Int)) (s x r : Int) : Bool := (ins x s && hasc s r) && impF D x r
def projF (n : Int) (D : List (Int × Int)) (s : Int) : List (Int × Int) := if areDepsF n D && isAttr n s then colsF (prOk D s) (partsF n) n.toNat else []
theorem proj_len (n : Int) (D : List (Int × Int)) (s : Int) : (projF n D s).length ≤ Room := by
  unfold projF
  split
  · next h =>
    simp only [Bool.and_eq_true] at h
    obtain ⟨_, h1, h5, _⟩ := areDepsF_val h.1
    have a := colsF_len (prOk D s) (partsF n) n.toNat
    have b := partsF_len n
    have c : (partsF n).length * n.toNat ≤ 32 * 5 := Nat.mul_le_mul b (by omega)
    unfold Room; omega
  · simp
theorem c_closP (oa) (cap : Nat) (D : List (Int × Int)) (s x r : Int) (B C : Nat) (w : World) (hD : DepsAt w oa D) (hv : Val D) (hx : St x) (hr : Co r) (m0 : w.cell? ⟨B, 0, none⟩ = some (.int .i64 s)) (a0 : w.cell? ⟨C, 0, none⟩ = some (.slice oa D.length cap)) :
    Ans Tryz.prog 166 #[.agg #[.int .i64 x, .int .i64 r], .pointer (some ⟨B, 0, none⟩), .pointer (some ⟨C, 0, none⟩)] w (.bool (prOk D s x r)) := by
  unfold Ans
  have hr' := co64 hr
  have hb := (Below.refl w.heap.size w).alloc (Nat.le_refl _) (.cells #[.int .i64 x, .int .i64 r] 46)
  have b0 := cell_al m0 (.cells #[.int .i64 x, .int .i64 r] 46)
  have b1 := cell_al a0 (.cells #[.int .i64 x, .int .i64 r] 46)
  have d0 := box_at w #[.int .i64 x, .int .i64 r] 46 0 _ rfl
  have d1 := box_at w #[.int .i64 x, .int .i64 r] 46 1 _ rfl
  clear a0 m0
  cases h1 : ins x s
  · have HP : Hid (prOk D s x r = false) := by show prOk D s x r = false; unfold prOk; rw [h1]; rfl
    go_enter Tryz.func166, Tryz.ntmps166
    go_wp2_with (first | (go_at_call 167; refine Calls.mono (Ans.eqb (c_inside _ _ _) h1) ?_; rintro e w1 ⟨rfl, hbn⟩; replace b0 := cell_keep b0 hbn; replace b1 := cell_keep b1 hbn; replace d0 := cell_keep d0 hbn; replace d1 := cell_keep d1 hbn; replace hb := bel_to (w := w) (by first | exact hb | exact hb.alloc hb.size _ | exact (hb.alloc hb.size _).alloc (Nat.le_trans hb.size (by simp)) _ | exact hb.setCell (by simp [hb.size]) _) hbn; clear hbn))
    go_ret
    exact ⟨ret_bool HP.out.symm, hb⟩
  cases h2 : hasc s r
  · have HP : Hid (prOk D s x r = false) := by show prOk D s x r = false; unfold prOk; rw [h1, h2]; rfl
    go_enter Tryz.func166, Tryz.ntmps166
    go_wp2_with (first | (go_at_call 167; refine Calls.mono (Ans.eqb (c_inside _ _ _) h1) ?_; rintro e w1 ⟨rfl, hbn⟩; replace b0 := cell_keep b0 hbn; replace b1 := cell_keep b1 hbn; replace d0 := cell_keep d0 hbn; replace d1 := cell_keep d1 hbn; replace hb := bel_to (w := w) (by first | exact hb | exact hb.alloc hb.size _ | exact (hb.alloc hb.size _).alloc (Nat.le_trans hb.size (by simp)) _ | exact hb.setCell (by simp [hb.size]) _) hbn; clear hbn) | (go_at_call 119; refine Calls.mono (Ans.eqb (c_has _ _ hr' _) h2) ?_; rintro e w1 ⟨rfl, hbn⟩; replace b0 := cell_keep b0 hbn; replace b1 := cell_keep b1 hbn; replace d0 := cell_keep d0 hbn; replace d1 := cell_keep d1 hbn; replace hb := bel_to (w := w) (by first | exact hb | exact hb.alloc hb.size _ | exact (hb.alloc hb.size _).alloc (Nat.le_trans hb.size (by simp)) _ | exact hb.setCell (by simp [hb.size]) _) hbn; clear hbn))
    go_ret
    exact ⟨ret_bool HP.out.symm, hb⟩
  have HP : Hid (prOk D s x r = impF D x r) := by show prOk D s x r = _; unfold prOk; rw [h1, h2]; rfl
  go_enter Tryz.func166, Tryz.ntmps166
  go_wp2_with (first | (go_at_call 167; refine Calls.mono (Ans.eqb (c_inside _ _ _) h1) ?_; rintro e w1 ⟨rfl, hbn⟩; replace b0 := cell_keep b0 hbn; replace b1 := cell_keep b1 hbn; replace d0 := cell_keep d0 hbn; replace d1 := cell_keep d1 hbn; replace hb := bel_to (w := w) (by first | exact hb | exact hb.alloc hb.size _ | exact (hb.alloc hb.size _).alloc (Nat.le_trans hb.size (by simp)) _ | exact hb.setCell (by simp [hb.size]) _) hbn; clear hbn) | (go_at_call 119; refine Calls.mono (Ans.eqb (c_has _ _ hr' _) h2) ?_; rintro e w1 ⟨rfl, hbn⟩; replace b0 := cell_keep b0 hbn; replace b1 := cell_keep b1 hbn; replace d0 := cell_keep d0 hbn; replace d1 := cell_keep d1 hbn; replace hb := bel_to (w := w) (by first | exact hb | exact hb.alloc hb.size _ | exact (hb.alloc hb.size _).alloc (Nat.le_trans hb.size (by simp)) _ | exact hb.setCell (by simp [hb.size]) _) hbn; clear hbn) | (go_at_call 158; refine Calls.mono (c_implies _ _ D _ _ _ (hD.keep hb) hv hx hr) ?_; rintro e w1 ⟨rfl, hbn⟩; replace b0 := cell_keep b0 hbn; replace b1 := cell_keep b1 hbn; replace d0 := cell_keep d0 hbn; replace d1 := cell_keep d1 hbn; replace hb := bel_to (w := w) (by first | exact hb | exact hb.alloc hb.size _ | exact (hb.alloc hb.size _).alloc (Nat.le_trans hb.size (by simp)) _ | exact hb.setCell (by simp [hb.size]) _) hbn; clear hbn))
  go_ret
  exact ⟨ret_bool HP.out.symm, hb⟩
set_option maxHeartbeats 800000 in
theorem c_ProjectDeps (n : Int) (oa) (cap : Nat) (D : List (Int × Int)) (s : Int) (w : World) (hD : DepsAt w oa D) :
    Calls Tryz.prog 72 #[.int .i64 n, .slice oa D.length cap, .int .i64 s] w fun e w' => ∃ v, e = .returned v ∧ OwnD w' w.heap.size v (projF n D s) ∧ Below w.heap.size w w' := by
  have hb := bel2 w (.cells #[.slice oa D.length cap] 30) (.cells #[.int .i64 s] 3)
  have a0 := two_a w #[.slice oa D.length cap] 30 #[.int .i64 s] 3 0 _ rfl
  have m0 := two_b w #[.slice oa D.length cap] 30 #[.int .i64 s] 3 0 _ rfl
  cases h1 : areDepsF n D
  · have HM : Hid (projF n D s = []) := by show projF n D s = []; unfold projF; rw [h1]; rfl
    go_enter Tryz.func72, Tryz.ntmps72
    go_wp2_with (first | (go_at_call 155; refine Calls.mono (Ans.eqb (c_AreDeps _ _ _ D _ (hD.keep hb)) h1) ?_; rintro e w1 ⟨rfl, hbn⟩; replace a0 := cell_keep a0 hbn; replace m0 := cell_keep m0 hbn; replace hb := bel_to (w := w) (by first | exact hb | exact hb.alloc hb.size _ | exact (hb.alloc hb.size _).alloc (Nat.le_trans hb.size (by simp)) _ | exact hb.setCell (by simp [hb.size]) _) hbn; clear hbn))
    go_ret
    exact ⟨_, rfl, by rw [HM.out]; exact ownD_nil _ _, hb⟩
  cases h2 : isAttr n s
  · have HM : Hid (projF n D s = []) := by show projF n D s = []; unfold projF; rw [h1, h2]; rfl
    go_enter Tryz.func72, Tryz.ntmps72
    go_wp2_with (first | (go_at_call 155; refine Calls.mono (Ans.eqb (c_AreDeps _ _ _ D _ (hD.keep hb)) h1) ?_; rintro e w1 ⟨rfl, hbn⟩; replace a0 := cell_keep a0 hbn; replace m0 := cell_keep m0 hbn; replace hb := bel_to (w := w) (by first | exact hb | exact hb.alloc hb.size _ | exact (hb.alloc hb.size _).alloc (Nat.le_trans hb.size (by simp)) _ | exact hb.setCell (by simp [hb.size]) _) hbn; clear hbn) | (go_at_call 139; refine Calls.mono (Ans.eqb (c_isAttributes _ _ _) h2) ?_; rintro e w1 ⟨rfl, hbn⟩; replace a0 := cell_keep a0 hbn; replace m0 := cell_keep m0 hbn; replace hb := bel_to (w := w) (by first | exact hb | exact hb.alloc hb.size _ | exact (hb.alloc hb.size _).alloc (Nat.le_trans hb.size (by simp)) _ | exact hb.setCell (by simp [hb.size]) _) hbn; clear hbn))
    go_ret
    exact ⟨_, rfl, by rw [HM.out]; exact ownD_nil _ _, hb⟩
  obtain ⟨hv, hn1, hn5, _⟩ := areDepsF_val h1
  obtain ⟨N, rfl⟩ := Int.eq_ofNat_of_zero_le (show 0 ≤ n by omega)
  have HM : Hid (projF N D s = colsF (prOk D s) (partsF N) N) := by show projF N D s = _; unfold projF; rw [h1, h2, Int.toNat_natCast]; rfl
  have HV : Hid (Val D) := hv
  have hN5 : N ≤ 5 := by omega
  clear hv
  go_enter Tryz.func72, Tryz.ntmps72
  go_wp2_with (first | (go_at_call 155; refine Calls.mono (Ans.eqb (c_AreDeps _ _ _ D _ (hD.keep hb)) h1) ?_; rintro e w1 ⟨rfl, hbn⟩; replace a0 := cell_keep a0 hbn; replace m0 := cell_keep m0 hbn; replace hb := bel_to (w := w) (by first | exact hb | exact hb.alloc hb.size _ | exact (hb.alloc hb.size _).alloc (Nat.le_trans hb.size (by simp)) _ | exact hb.setCell (by simp [hb.size]) _) hbn; clear hbn) | (go_at_call 139; refine Calls.mono (Ans.eqb (c_isAttributes _ _ _) h2) ?_; rintro e w1 ⟨rfl, hbn⟩; replace a0 := cell_keep a0 hbn; replace m0 := cell_keep m0 hbn; replace hb := bel_to (w := w) (by first | exact hb | exact hb.alloc hb.size _ | exact (hb.alloc hb.size _).alloc (Nat.le_trans hb.size (by simp)) _ | exact hb.setCell (by simp [hb.size]) _) hbn; clear hbn))
  refine (c_minimalDeps_P N hN5 _ _ (prOk D s) _ ?_).mono ?_
  · intro W x r hst hr hx2 hB
    exact c_closP oa cap D s x r _ _ W ((hD.keep hb).keep hB) HV.out hst ⟨hr.1, by omega⟩ (cell_keep m0 hB) (cell_keep a0 hB)
  rintro e w2 ⟨v2, rfl, hO, hbn⟩
  replace hO := hO.based hb.size
  replace hb := bel_to hb hbn
  clear hbn
  go_wp2
  go_ret
  exact ⟨_, rfl, by rw [HM.out]; exact hO, hb⟩
end Go.Proofs.YtjbmpnbfiahdhaaGreat
namespace Go.Proofs.YtjbmpnbfiahdhaaGreat
open Go.RowKit
set_option linter.unusedVariables false
set_option maxRecDepth 100000

theorem takenF_none {p : Int → Int → Bool} {r : Int} (h : ∀ x, p x r = false) : ∀ P : List Int, takenF p r P = [] := by
  intro P
  have : ∀ (P T : List Int), P.foldl (stepM p r) T = T := by
    intro P
    induction P with
    | nil => intro T; rfl
    | cons x P ih => intro T; rw [List.foldl_cons, ih]; unfold stepM; rw [h x, Bool.and_false]; rfl
  exact this P []
theorem prOk_none {D : List (Int × Int)} {s r : Int} (h : hasc s r = false) : ∀ P : List Int, colF (prOk D s) P r = [] := by
  intro P
  unfold colF
  rw [takenF_none (fun x => by unfold prOk; rw [h, Bool.and_false]; rfl)]; rfl
set_option maxHeartbeats 3200000 in
theorem c_specProjectDeps (n : Int) (oa) (cap : Nat) (D : List (Int × Int)) (s : Int) (w : World) (hD : DepsAt w oa D) :
    Calls Tryz.prog 77 #[.int .i64 n, .slice oa D.length cap, .int .i64 s] w fun e w' => ∃ v, e = .returned v ∧ OwnD w' w.heap.size v (projF n D s) ∧ Below w.heap.size w w' := by
  obtain ⟨j0, hj, hy0, hy1, hy2⟩ := info_parts info_dep
  have hb := (Below.refl w.heap.size w).alloc (Nat.le_refl _) (.cells #[] 46)
  have hO := OwnD.empty w w.heap.size (Nat.le_refl _)
  cases h1 : areDepsF n D
  · have HM : Hid (projF n D s = []) := by show projF n D s = []; unfold projF; rw [h1]; rfl
    go_enter Tryz.func77, Tryz.ntmps77
    go_wp2_with (first | (go_at_call 63; refine Calls.mono (Ans.eqb (c_specAreDeps _ _ _ D _ (hD.keep hb)) h1) ?_; rintro e w1 ⟨rfl, hbn⟩; replace hO := hO.keep hbn; replace hb := bel_to (w := w) (by first | exact hb | exact hb.alloc hb.size _ | exact (hb.alloc hb.size _).alloc (Nat.le_trans hb.size (by simp)) _ | exact hb.setCell (by simp [hb.size]) _) hbn; clear hbn))
    go_ret
    exact ⟨_, rfl, by rw [HM.out]; exact hO, hb⟩
  cases h2 : isAttr n s
  · have HM : Hid (projF n D s = []) := by show projF n D s = []; unfold projF; rw [h1, h2]; rfl
    go_enter Tryz.func77, Tryz.ntmps77
    go_wp2_with (first | (go_at_call 63; refine Calls.mono (Ans.eqb (c_specAreDeps _ _ _ D _ (hD.keep hb)) h1) ?_; rintro e w1 ⟨rfl, hbn⟩; replace hO := hO.keep hbn; replace hb := bel_to (w := w) (by first | exact hb | exact hb.alloc hb.size _ | exact (hb.alloc hb.size _).alloc (Nat.le_trans hb.size (by simp)) _ | exact hb.setCell (by simp [hb.size]) _) hbn; clear hbn) | (go_at_call 142; refine Calls.mono (Ans.eqb (c_specIsAttributes _ _ _) h2) ?_; rintro e w1 ⟨rfl, hbn⟩; replace hO := hO.keep hbn; replace hb := bel_to (w := w) (by first | exact hb | exact hb.alloc hb.size _ | exact (hb.alloc hb.size _).alloc (Nat.le_trans hb.size (by simp)) _ | exact hb.setCell (by simp [hb.size]) _) hbn; clear hbn))
    go_ret
    exact ⟨_, rfl, by rw [HM.out]; exact hO, hb⟩
  obtain ⟨hv, hn1, hn5, _⟩ := areDepsF_val h1
  obtain ⟨N, rfl⟩ := Int.eq_ofNat_of_zero_le (show 0 ≤ n by omega)
  have HM : Hid (projF N D s = colsF (prOk D s) (partsF N) N) := by show projF N D s = _; unfold projF; rw [h1, h2, Int.toNat_natCast]; rfl
  have HV : Hid (Val D) := hv
  have HSS : Hid (St s) := (isAttr_st h2).1
  have hN5 : N ≤ 5 := by omega
  have hpl := partsF_len N
  have HPS : Hid (∀ x ∈ partsF N, St x) := fun x hx => by
    have h := (partsF_mem (n := N) (by omega) (by omega)).1 hx
    have h2 := (pow_wrap (n := (N : Int)) (by omega) (by omega)).2.1
    exact ⟨h.1, by omega⟩
  clear hv
  go_enter Tryz.func77, Tryz.ntmps77
  go_wp2_with (first | (go_at_call 63; refine Calls.mono (Ans.eqb (c_specAreDeps _ _ _ D _ (hD.keep hb)) h1) ?_; rintro e w1 ⟨rfl, hbn⟩; replace hO := hO.keep hbn; replace hb := bel_to (w := w) (by first | exact hb | exact hb.alloc hb.size _ | exact (hb.alloc hb.size _).alloc (Nat.le_trans hb.size (by simp)) _ | exact hb.setCell (by simp [hb.size]) _) hbn; clear hbn) | (go_at_call 142; refine Calls.mono (Ans.eqb (c_specIsAttributes _ _ _) h2) ?_; rintro e w1 ⟨rfl, hbn⟩; replace hO := hO.keep hbn; replace hb := bel_to (w := w) (by first | exact hb | exact hb.alloc hb.size _ | exact (hb.alloc hb.size _).alloc (Nat.le_trans hb.size (by simp)) _ | exact hb.setCell (by simp [hb.size]) _) hbn; clear hbn))
  have old := hO
  refine (c_specPartsBySize (N : Int) _).mono ?_
  rintro e w2 ⟨v2, rfl, hP, hbn⟩
  have ap_PO := (apart_old old hP).symm
  replace hO := hO.keep hbn
  replace hP := hP.based hb.size
  replace hb := bel_to hb hbn
  clear old hbn
  have HGS : Hid (∀ k : Nat, colsF (prOk D s) (partsF N) (k + 1) = colsF (prOk D s) (partsF N) k ++ colF (prOk D s) (partsF N) k) := fun k => colsF_succ _ _ _
  have HCL : Hid (∀ k : Nat, (colsF (prOk D s) (partsF N) k).length ≤ 32 * k) := fun k => Nat.le_trans (colsF_len _ _ k) (Nat.mul_le_mul_right _ hpl)
  generalize partsF N = P at *
  obtain ⟨o1, c1, rfl⟩ := hP.shape
  have hPr : P.length ≤ Room := by unfold Room; omega
  go_wp2
  go_loopw [7, 9] (fun v i wr => ∃ r : Nat, i = .int .i64 r ∧ r ≤ N ∧ OwnD wr w.heap.size v (colsF (prOk D s) P r) ∧ OwnI wr w.heap.size (.slice o1 P.length c1) P ∧ Apart (.slice o1 P.length c1) v ∧ Below w.heap.size w wr) (fun _ i _ => N - (intOf i).toNat)
  case atStart => exact ⟨0, rfl, Nat.zero_le _, by simpa [colsF] using hO, hP, ap_PO, hb⟩
  case round =>
    clear hO hP ap_PO hb
    obtain ⟨r, rfl, hr, hO, hP, ap_PO, hb⟩ := hrel
    have hcl := HCL.out r
    by_cases hrt : r < N
    · have HC : Hid (colsF (prOk D s) P (r + 1) = colsF (prOk D s) P r ++ colF (prOk D s) P r) := HGS.out r
      have HCV : Hid (∀ (T : List Int) (x : Int), (∀ y ∈ T, St y) → St x → covF (colsF (prOk D s) P r ++ T.map fun y => (y, (r : Int))) x r = anyIns T x) := fun T x h1 h2 => cov_out h1 h2
      have HNN : Hid (∀ P : List Int, hasc s (r : Int) = false → colF (prOk D s) P r = []) := fun P h => prOk_none h P
      have hcs : Hid (Co (r : Int)) := ⟨by omega, by omega⟩
      generalize colsF (prOk D s) P r = A at *
      cases h3 : hasc s (r : Int)
      · have h3' : (bits BinOp.and .i64 (s / 2 ^ r) 1 == 0) = true := (hasn_eq HSS.out hcs.out).trans (by rw [h3]; rfl)
        go_wp2
        go_roundw
        case rel => exact ⟨r + 1, by go_num, by omega, by rw [HC.out, HNN.out P h3, List.append_nil]; exact hO, hP, ap_PO, hb⟩
        case measure => simp [intOf]; omega
      have h3' : (bits BinOp.and .i64 (s / 2 ^ r) 1 == 0) = false := (hasn_eq HSS.out hcs.out).trans (by rw [h3]; rfl)
      go_wp2
      go_loopw [7, 10] (fun v i wr => ∃ k : Nat, i = .int .i64 k ∧ k ≤ P.length ∧ OwnD wr w.heap.size v (A ++ colF (prOk D s) (P.take k) r) ∧ OwnI wr w.heap.size (.slice o1 P.length c1) P ∧ Apart (.slice o1 P.length c1) v ∧ Below w.heap.size w wr) (fun _ i _ => P.length - (intOf i).toNat)
      case atStart => exact ⟨0, rfl, Nat.zero_le _, by simpa [colF, takenF] using hO, hP, ap_PO, hb⟩
      case round =>
        clear hO hP ap_PO hb
        obtain ⟨k, rfl, hk, hO, hP, ap_PO, hb⟩ := hrel
        by_cases hlk : k < P.length
        · obtain ⟨b2, off2, rfl, hbs2, hca⟩ := (hP.ints rfl hPr).at_ (by omega)
          have hc2 := hca k hlk
          have hst : Hid (St (nth P k)) := HPS.out _ (List.mem_iff_getElem?.2 ⟨k, nth_eq hlk⟩)
          have hTs : Hid (∀ y ∈ takenF (prOk D s) r (P.take k), St y) := fun y hy => HPS.out y (taken_sub _ _ _ k hk y hy)
          have hOl : (A ++ colF (prOk D s) (P.take k) r).length ≤ 300 := by
            have h := colF_len (prOk D s) (P.take k) r
            rw [List.length_take] at h
            rw [List.length_append]
            omega
          have HOs : Hid (A ++ colF (prOk D s) (P.take (k + 1)) r = A ++ (stepM (prOk D s) r (takenF (prOk D s) r (P.take k)) (nth P k)).map fun x => (x, (r : Int))) := by
            show A ++ colF (prOk D s) (P.take (k + 1)) r = A ++ (stepM (prOk D s) r (takenF (prOk D s) r (P.take k)) (nth P k)).map fun x => (x, (r : Int))
            unfold colF; rw [taken_succ _ _ hlk]
          have HOk : Hid (A ++ colF (prOk D s) (P.take k) r = A ++ (takenF (prOk D s) r (P.take k)).map fun x => (x, (r : Int))) := rfl
          have HCX : Hid (covF (A ++ colF (prOk D s) (P.take k) r) (nth P k) r = anyIns (takenF (prOk D s) r (P.take k)) (nth P k)) := by
            show covF (A ++ colF (prOk D s) (P.take k) r) (nth P k) r = _
            rw [HOk.out]; exact HCV.out _ _ hTs.out hst.out
          clear hca
          generalize nth P k = x at *
          generalize takenF (prOk D s) r (P.take k) = T at *
          generalize A ++ colF (prOk D s) (P.take k) r = C at *
          have hCr : C.length ≤ Room := by unfold Room; omega
          have e0 := box_at wr #[.int .i64 x, .int .i64 (r : Int)] 46 0 _ rfl
          have e1 := box_at wr #[.int .i64 x, .int .i64 (r : Int)] 46 1 _ rfl
          obtain ⟨oC, cC, rfl⟩ := hO.shape
          have hcop : Hid (Co (r : Int)) := ⟨by omega, by omega⟩
          have HF0 : Hid (stepM (prOk D s) r T x = if (!hasc x r && !covF C x r) && prOk D s x r then T ++ [x] else T) := by
            show stepM (prOk D s) r T x = _
            unfold stepM; rw [HCX.out]
          replace hO := World.ownsRow.alloc hO (.cells #[.int .i64 x, .int .i64 (r : Int)] 46)
          replace hP := World.ownsRow.alloc hP (.cells #[.int .i64 x, .int .i64 (r : Int)] 46)
          have hB := hb.alloc hb.size (.cells #[.int .i64 x, .int .i64 (r : Int)] 46)
          have hC0 : DepsAt (wr.alloc (.cells #[.int .i64 x, .int .i64 (r : Int)] 46)) oC C := OwnD.deps hO rfl hCr
          have hc3 := cell_al hc2 (.cells #[.int .i64 x, .int .i64 (r : Int)] 46)
          have hDx := fun y : After (wr.alloc (.cells #[.int .i64 x, .int .i64 (r : Int)] 46)) => hD.keep (bel_to hB y.bel)
          have hCx := fun y : After (wr.alloc (.cells #[.int .i64 x, .int .i64 (r : Int)] 46)) => DepsAt.keep hC0 y.bel
          have HPR : Hid (prOk D s x r = ((ins x s && true) && hasc (cloF D x) r)) := by show prOk D s x r = _; unfold prOk impF; rw [h3]
          replace hb := hB
          cases h4 : ins x s
          case false =>
            have h4' : (bits BinOp.and .i64 x s == x) = false := (insA_eq hst.out HSS.out).trans h4
            go_wp2_with fail
            (refine wp_region_after (by kernel_rfl) (by kernel_rfl) ?_; have q_e0 := fun (x : After _) => cell_keep e0 x.bel; have q_e1 := fun (x : After _) => cell_keep e1 x.bel; have q_hc3 := fun (x : After _) => cell_keep hc3 x.bel; (repeat (go_big_quiet_step (fail))); clear q_e0; clear q_e1; clear q_hc3; refine wpQuiet_nil ?_; rintro _ ⟨⟨w1, hbn⟩, rfl⟩; (try simp only [After.w]); replace e0 := cell_keep e0 hbn; replace e1 := cell_keep e1 hbn; replace hc3 := cell_keep hc3 hbn; replace hO := OwnD.keep hO hbn; replace hP := OwnI.keep hP hbn; replace hb := bel_to (w := w) (by first | exact hb | exact hb.alloc hb.size _ | exact (hb.alloc hb.size _).alloc (Nat.le_trans hb.size (by simp)) _ | exact hb.setCell (by simp [hb.size]) _) hbn; clear hbn)
            go_wp2
            go_roundw
            case rel => exact ⟨k + 1, by go_num, by omega, by rw [HOs.out, HF0.out, HPR.out, h4, Bool.false_and, Bool.false_and, Bool.and_false]; simpa [HOk.out] using hO, hP, ap_PO, hb⟩
            case measure => simp [intOf]; omega
          have h4' : (bits BinOp.and .i64 x s == x) = true := (insA_eq hst.out HSS.out).trans h4
          cases h5 : hasc x (r : Int)
          case true =>
            have h5' : (bits BinOp.and .i64 (x / 2 ^ r) 1 == 0) = false := (hasn_eq hst.out hcop.out).trans (by rw [h5]; rfl)
            go_wp2_with fail
            (refine wp_region_after (by kernel_rfl) (by kernel_rfl) ?_; have q_e0 := fun (x : After _) => cell_keep e0 x.bel; have q_e1 := fun (x : After _) => cell_keep e1 x.bel; have q_hc3 := fun (x : After _) => cell_keep hc3 x.bel; (repeat (go_big_quiet_step (fail))); clear q_e0; clear q_e1; clear q_hc3; refine wpQuiet_nil ?_; rintro _ ⟨⟨w1, hbn⟩, rfl⟩; (try simp only [After.w]); replace e0 := cell_keep e0 hbn; replace e1 := cell_keep e1 hbn; replace hc3 := cell_keep hc3 hbn; replace hO := OwnD.keep hO hbn; replace hP := OwnI.keep hP hbn; replace hb := bel_to (w := w) (by first | exact hb | exact hb.alloc hb.size _ | exact (hb.alloc hb.size _).alloc (Nat.le_trans hb.size (by simp)) _ | exact hb.setCell (by simp [hb.size]) _) hbn; clear hbn)
            go_wp2
            go_roundw
            case rel => exact ⟨k + 1, by go_num, by omega, by rw [HOs.out, HF0.out, h5]; simpa [HOk.out] using hO, hP, ap_PO, hb⟩
            case measure => simp [intOf]; omega
          have h5' : (bits BinOp.and .i64 (x / 2 ^ r) 1 == 0) = true := (hasn_eq hst.out hcop.out).trans (by rw [h5]; rfl)
          cases h6 : hasc (cloF D x) (r : Int)
          case false =>
            have h6' : (bits BinOp.and .i64 (cloF D x / 2 ^ r) 1 == 1) = false := h6
            go_wp2_with fail
            (refine wp_region_after (by kernel_rfl) (by kernel_rfl) ?_; have q_e0 := fun (x : After _) => cell_keep e0 x.bel; have q_e1 := fun (x : After _) => cell_keep e1 x.bel; have q_hc3 := fun (x : After _) => cell_keep hc3 x.bel; (repeat (go_big_quiet_step ((first | (go_at_call 164; exact Ans.after (c_l10Close _ _ D x _ (hDx _) hst.out HV.out)))))); clear q_e0; clear q_e1; clear q_hc3; refine wpQuiet_nil ?_; rintro _ ⟨⟨w1, hbn⟩, rfl⟩; (try simp only [After.w]); replace e0 := cell_keep e0 hbn; replace e1 := cell_keep e1 hbn; replace hc3 := cell_keep hc3 hbn; replace hO := OwnD.keep hO hbn; replace hP := OwnI.keep hP hbn; replace hb := bel_to (w := w) (by first | exact hb | exact hb.alloc hb.size _ | exact (hb.alloc hb.size _).alloc (Nat.le_trans hb.size (by simp)) _ | exact hb.setCell (by simp [hb.size]) _) hbn; clear hbn)
            go_wp2
            go_roundw
            case rel => exact ⟨k + 1, by go_num, by omega, by rw [HOs.out, HF0.out, HPR.out, h6, Bool.and_false, Bool.and_false]; simpa [HOk.out] using hO, hP, ap_PO, hb⟩
            case measure => simp [intOf]; omega
          have h6' : (bits BinOp.and .i64 (cloF D x / 2 ^ r) 1 == 1) = true := h6
          cases h7 : covF C x (r : Int)
          case true =>
            skip
            go_wp2_with fail
            (refine wp_region_after (by kernel_rfl) (by kernel_rfl) ?_; have q_e0 := fun (x : After _) => cell_keep e0 x.bel; have q_e1 := fun (x : After _) => cell_keep e1 x.bel; have q_hc3 := fun (x : After _) => cell_keep hc3 x.bel; (repeat (go_big_quiet_step ((first | (go_at_call 164; exact Ans.after (c_l10Close _ _ D x _ (hDx _) hst.out HV.out)) | (go_at_call 170; exact Ans.after (Ans.eqb (c_l8Covered _ _ C x r _ (hCx _)) h7)))))); clear q_e0; clear q_e1; clear q_hc3; refine wpQuiet_nil ?_; rintro _ ⟨⟨w1, hbn⟩, rfl⟩; (try simp only [After.w]); replace e0 := cell_keep e0 hbn; replace e1 := cell_keep e1 hbn; replace hc3 := cell_keep hc3 hbn; replace hO := OwnD.keep hO hbn; replace hP := OwnI.keep hP hbn; replace hb := bel_to (w := w) (by first | exact hb | exact hb.alloc hb.size _ | exact (hb.alloc hb.size _).alloc (Nat.le_trans hb.size (by simp)) _ | exact hb.setCell (by simp [hb.size]) _) hbn; clear hbn)
            go_wp2
            go_roundw
            case rel => exact ⟨k + 1, by go_num, by omega, by rw [HOs.out, HF0.out, h5, h7]; simpa [HOk.out] using hO, hP, ap_PO, hb⟩
            case measure => simp [intOf]; omega
          go_wp2_with fail
          (refine wp_region_after (by kernel_rfl) (by kernel_rfl) ?_; have q_e0 := fun (x : After _) => cell_keep e0 x.bel; have q_e1 := fun (x : After _) => cell_keep e1 x.bel; have q_hc3 := fun (x : After _) => cell_keep hc3 x.bel; (repeat (go_big_quiet_step ((first | (go_at_call 164; exact Ans.after (c_l10Close _ _ D x _ (hDx _) hst.out HV.out)) | (go_at_call 170; exact Ans.after (Ans.eqb (c_l8Covered _ _ C x r _ (hCx _)) h7)))))); clear q_e0; clear q_e1; clear q_hc3; refine wpQuiet_nil ?_; rintro _ ⟨⟨w1, hbn⟩, rfl⟩; (try simp only [After.w]); replace e0 := cell_keep e0 hbn; replace e1 := cell_keep e1 hbn; replace hc3 := cell_keep hc3 hbn; replace hO := OwnD.keep hO hbn; replace hP := OwnI.keep hP hbn; replace hb := bel_to (w := w) (by first | exact hb | exact hb.alloc hb.size _ | exact (hb.alloc hb.size _).alloc (Nat.le_trans hb.size (by simp)) _ | exact hb.setCell (by simp [hb.size]) _) hbn; clear hbn)
          clear hc2 hc3
          go_wp2_with (first | (at_builtin; refine wpList_append_fresh rfl _ _ 30 rfl w.heap.size 46 j0 (.agg #[.int .i64 0, .int .i64 0]) 2 16 Tryz.underlying30 hj hy0 hy1 hy2 rfl (by decide) _ _ _ rfl (World.ownsRow.alloc hO _) _ 1 1 [.int .i64 x, .int .i64 (r : Int)] rfl rfl (World.news_of_block (cs := #[.int .i64 x, .int .i64 (r : Int)]) (t := 46) (fr := (0, 0)) (heap_alloc_new _ _)) (by intro u hu; simp at hu; rcases hu with rfl | rfl <;> rfl) (by unfold maxLen; omega) (by omega) (by have := hb.size; simp; omega) ?_; intro v' w4 hown hgrow hfr; replace hb := (hb.alloc hb.size _).grown hgrow (by have := hb.size; simp; omega) (fun g hg => (World.ownsRow.lt hO g hg).1); obtain ⟨hP, ap_PO⟩ := OwnI.past hP hgrow ap_PO hfr; replace hO := own_snocD hown; clear hown hgrow hfr) | fail)
          go_roundw
          case rel => exact ⟨k + 1, by go_num, by omega, by rw [HOs.out, HF0.out, h5, h7, HPR.out, h4, h6]; simpa [HOk.out] using hO, hP, ap_PO, hb⟩
          case measure => simp [intOf]; omega
        · have hkk2 : k = P.length := by omega
          have HE : Hid (colsF (prOk D s) P (r + 1) = A ++ colF (prOk D s) (P.take k) r) := by
            show colsF (prOk D s) P (r + 1) = A ++ colF (prOk D s) (P.take k) r
            rw [HC.out, hkk2, List.take_length]
          clear hkk2
          go_wp2
          go_roundw
          case rel => exact ⟨r + 1, by go_num, by omega, by rw [HE.out]; exact hO, hP, ap_PO, hb⟩
          case measure => simp [intOf]; omega
    · have hrr : r = N := by omega
      have HE : Hid (colsF (prOk D s) P r = projF N D s) := by show colsF (prOk D s) P r = projF N D s; rw [HM.out, hrr]
      clear hrr
      go_wp2
      go_ret
      exact ⟨_, rfl, by rw [← HE.out]; exact hO, hb⟩
end Go.Proofs.YtjbmpnbfiahdhaaGreat
namespace Go.Proofs.YtjbmpnbfiahdhaaGreat
open Go.RowKit
set_option linter.unusedVariables false
set_option maxRecDepth 100000

theorem val_deps {n : Int} {D : List (Int × Int)} (h : areDepsF n D = true) : Val D := (areDepsF_val h).1
theorem val_all {n : Int} {D : List (Int × Int)} (h : ∀ d ∈ D, isDepF n d.1 d.2 = true) : Val D := fun d hd => (isDepF_val (h d hd)).1
theorem clo_ins {D : List (Int × Int)} {x z : Int} (hv : Val D) (hx : St x) (hz : St z) (h : ins x z = true) (hc : Closed D z) : ins (cloF D x) z = true := cloF_min hv hx hz h hc
theorem imp_closed {D : List (Int × Int)} {l r x : Int} (hv : Val D) (hl : St l) (hr : Co r) (hx : St x) (h : impF D l r = true) (hc : Closed D x) (hi : ins l x = true) : hasc x r = true :=
  (ins_iff (cloF_st hv hl) hx).1 (clo_ins hv hl hx hi hc) r hr h
theorem clo_sub {D E : List (Int × Int)} {x : Int} (hv : Val D) (hw : Val E) (h : ∀ y, St y → Closed E y → Closed D y) (hx : St x) : ins (cloF D x) (cloF E x) = true :=
  cloF_min hv hx (cloF_st hw hx) (cloF_up hw hx) (h _ (cloF_st hw hx) (cloF_closed hw hx))
theorem clo_eq {D E : List (Int × Int)} {x : Int} (hv : Val D) (hw : Val E) (h : ∀ y, St y → (Closed D y ↔ Closed E y)) (hx : St x) : cloF D x = cloF E x :=
  ins_antisymm (cloF_st hv hx) (cloF_st hw hx) (clo_sub hv hw (fun y hy h' => (h y hy).2 h') hx) (clo_sub hw hv (fun y hy h' => (h y hy).1 h') hx)
theorem dif_ins {x c : Int} (hx : St x) (hc : Co c) : ins (dif x (one c)) x = true :=
  (ins_iff (dif_st hx (one_st hc)) hx).2 fun d hd h => by rw [hasc_dif hx (one_st hc) hd, Bool.and_eq_true] at h; exact h.1
theorem dif_mono {x y c : Int} (hx : St x) (hy : St y) (hc : Co c) (h : ins x y = true) : ins (dif x (one c)) (dif y (one c)) = true :=
  (ins_iff (dif_st hx (one_st hc)) (dif_st hy (one_st hc))).2 fun d hd h' => by
    rw [hasc_dif hx (one_st hc) hd, Bool.and_eq_true] at h'
    rw [hasc_dif hy (one_st hc) hd, Bool.and_eq_true]
    exact ⟨(ins_iff hx hy).1 h d hd h'.1, h'.2⟩
theorem redStep_ins {D : List (Int × Int)} {r x c : Int} (hx : St x) (hc : Co c) : ins (redStep D r x c) x = true := by
  unfold redStep; split
  · exact dif_ins hx hc
  · exact ins_refl hx
theorem fold_ins {D : List (Int × Int)} {r : Int} : ∀ (C : List Int) (x : Int), (∀ c ∈ C, Co c) → St x → St (C.foldl (redStep D r) x) ∧ ins (C.foldl (redStep D r) x) x = true
  | [], x, _, hx => ⟨hx, ins_refl hx⟩
  | c :: C, x, hC, hx => by
    have hc := hC c (List.mem_cons_self ..)
    have h1 := redStep_st (D := D) (r := r) hx hc
    have h2 := fold_ins (D := D) (r := r) C (redStep D r x c) (fun d hd => hC d (List.mem_cons_of_mem _ hd)) h1
    exact ⟨h2.1, ins_trans h2.1 h1 hx h2.2 (redStep_ins hx hc)⟩
theorem fold_imp {D : List (Int × Int)} {r : Int} : ∀ (C : List Int) (x : Int), hasc (cloF D x) r = true → hasc (cloF D (C.foldl (redStep D r) x)) r = true
  | [], _, h => h
  | c :: C, x, h => by
    refine fold_imp C (redStep D r x c) ?_
    unfold redStep; split
    · next hh => rw [Bool.and_eq_true] at hh; exact hh.2
    · exact h
theorem fold_min {D : List (Int × Int)} {r : Int} (hv : Val D) (hr : Co r) : ∀ (C : List Int) (x : Int), (∀ c ∈ C, Co c) → St x → ∀ c ∈ C, hasc (C.foldl (redStep D r) x) c = true → hasc (cloF D (dif (C.foldl (redStep D r) x) (one c))) r = false
  | [], _, _, _, c, hc, _ => by cases hc
  | e :: C, x, hC, hx, c, hc, h => by
    have he := hC e (List.mem_cons_self ..)
    have hC' : ∀ d ∈ C, Co d := fun d hd => hC d (List.mem_cons_of_mem _ hd)
    have h1 := redStep_st (D := D) (r := r) hx he
    have h2 := fold_ins (D := D) (r := r) C (redStep D r x e) hC' h1
    rw [List.foldl_cons] at h ⊢
    rcases List.mem_cons.1 hc with rfl | hc
    · have hy : hasc (redStep D r x c) c = true := (ins_iff h2.1 h1).1 h2.2 c he h
      have hxc : hasc x c = true := (ins_iff h1 hx).1 (redStep_ins hx he) c he hy
      cases hq : hasc (cloF D (dif x (one c))) r
      · cases hz : hasc (cloF D (dif (C.foldl (redStep D r) (redStep D r x c)) (one c))) r
        · rfl
        · have m := cloF_mono hv (dif_st h2.1 (one_st he)) (dif_st hx (one_st he)) (dif_mono h2.1 hx he (ins_trans h2.1 h1 hx h2.2 (redStep_ins hx he)))
          have := (ins_iff (cloF_st hv (dif_st h2.1 (one_st he))) (cloF_st hv (dif_st hx (one_st he)))).1 m r hr hz
          rw [hq] at this; cases this
      · exfalso
        have e1 : redStep D r x c = dif x (one c) := by unfold redStep; rw [dif_one_same hx he, hxc, hq]; rfl
        rw [e1, hasc_dif hx (one_st he) he, hasc_one he he] at hy
        simp at hy
    · exact fold_min hv hr C _ hC' h1 c hc h
theorem five_all {c : Int} (h : Co c) : c ∈ fiveI := by
  obtain ⟨k, hk, rfl⟩ := co_nat h
  have : ∀ k < 5, ((k : Nat) : Int) ∈ fiveI := by decide
  exact this k hk
theorem redF_st {D : List (Int × Int)} {l r : Int} (hl : St l) : St (redF D l r) := (fold_ins fiveI l five_co hl).1
theorem redF_ins {D : List (Int × Int)} {l r : Int} (hl : St l) : ins (redF D l r) l = true := (fold_ins fiveI l five_co hl).2
theorem redF_imp {D : List (Int × Int)} {l r : Int} (h : impF D l r = true) : impF D (redF D l r) r = true := fold_imp fiveI l h
theorem redF_min {D : List (Int × Int)} {l r c : Int} (hv : Val D) (hl : St l) (hr : Co r) (hc : Co c) (h : hasc (redF D l r) c = true) : hasc (cloF D (dif (redF D l r) (one c))) r = false := fold_min hv hr fiveI l five_co hl c (five_all hc) h
theorem fold_same {D : List (Int × Int)} {r x : Int} (hx : St x) (h : ∀ c, Co c → hasc x c = true → hasc (cloF D (dif x (one c))) r = false) : ∀ C : List Int, (∀ c ∈ C, Co c) → C.foldl (redStep D r) x = x
  | [], _ => rfl
  | c :: C, hC => by
    have hc := hC c (List.mem_cons_self ..)
    have e : redStep D r x c = x := by
      cases hh : hasc x c
      · exact redStep_no hx hc hh
      · unfold redStep; rw [h c hc hh, Bool.and_false]; rfl
    rw [List.foldl_cons, e]
    exact fold_same hx h C (fun d hd => hC d (List.mem_cons_of_mem _ hd))
theorem redF_idem {D : List (Int × Int)} {l r : Int} (hv : Val D) (hl : St l) (hr : Co r) : redF D (redF D l r) r = redF D l r :=
  fold_same (redF_st hl) (fun c hc h => redF_min hv hl hr hc h) fiveI five_co
theorem deps_imp {D : List (Int × Int)} (hv : Val D) {d : Int × Int} (hd : d ∈ D) : impF D d.1 d.2 = true :=
  cloF_closed hv (hv d hd).1 d hd (cloF_up hv (hv d hd).1)
/-- the reduced ones and the given ones have the same closed sets -/
theorem dst_mem {n : Int} {D : List (Int × Int)} (ha : areDepsF n D = true) : ∀ k, k ≤ D.length → (∀ e ∈ dstF n D k, ∃ d ∈ D, e = (redF D d.1 d.2, d.2)) ∧ (∀ d ∈ D.take k, (redF D d.1 d.2, d.2) ∈ dstF n D k)
  | 0, _ => ⟨fun e he => by simp [dstF] at he, fun d hd => by simp at hd⟩
  | k + 1, hk => by
    obtain ⟨i1, i2⟩ := dst_mem ha k (by omega)
    have hm := nth_mem (D := D) (k := k) (by omega)
    have hr : reduceF n D (nl D k) (nr D k) = redF D (nl D k) (nr D k) := by
      have hi := deps_imp (val_deps ha) hm
      have hd := areDepsF_mem ha hm
      unfold reduceF impliesDepF
      rw [ha, hd, hi]; rfl
    rw [dstF_succ (by omega)]
    unfold addF
    dsimp only
    rw [hr]
    constructor
    · intro e he
      split at he
      · exact i1 e he
      · rcases List.mem_append.1 he with he | he
        · exact i1 e he
        · simp at he; exact ⟨_, hm, he⟩
    · intro d hd
      rw [List.take_add_one, dnth_eq (show k < D.length by omega)] at hd
      rcases List.mem_append.1 hd with hd | hd
      · have := i2 d hd
        split
        · exact this
        · exact List.mem_append.2 (.inl this)
      · simp at hd; subst hd
        split
        · next hh => simpa using hh
        · exact List.mem_append.2 (.inr (by simp))
theorem dst_closed {n : Int} {D : List (Int × Int)} (ha : areDepsF n D = true) {x : Int} (hx : St x) : Closed D x ↔ Closed (dstF n D D.length) x := by
  have hv := val_deps ha
  obtain ⟨i1, i2⟩ := dst_mem ha D.length (Nat.le_refl _)
  constructor
  · intro h e he hi
    obtain ⟨d, hd, rfl⟩ := i1 e he
    exact imp_closed hv (redF_st (hv d hd).1) (hv d hd).2 hx (redF_imp (deps_imp hv hd)) h hi
  · intro h d hd hi
    exact h (redF D d.1 d.2, d.2) (i2 d (by simpa using hd)) (ins_trans (redF_st (hv d hd).1) (hv d hd).1 hx (redF_ins (hv d hd).1) hi)
theorem val_sub {D E : List (Int × Int)} (h : Val D) (hs : ∀ d ∈ E, d ∈ D) : Val E := fun d hd => h d (hs d hd)
theorem eraD_idx (D : List (Int × Int)) (i : Nat) : eraD D i = D.eraseIdx i := (List.eraseIdx_eq_take_drop_succ D i).symm
theorem mem_era_or {D : List (Int × Int)} {i : Nat} (hi : i < D.length) {d : Int × Int} (h : d ∈ D) : d ∈ eraD D i ∨ d = (nl D i, nr D i) := by
  obtain ⟨j, hj, e⟩ := List.mem_iff_getElem.1 h
  by_cases hij : j = i
  · subst hij; right; have := dnth_eq hj; rw [List.getElem?_eq_getElem hj] at this; injection this with this; rw [← e, this]
  · left
    rw [eraD_idx]
    exact List.mem_eraseIdx_iff_getElem.2 ⟨j, hj, hij, e⟩
theorem era_closed {n : Int} {A : List (Int × Int)} {i : Nat} (hd : ∀ d ∈ A, isDepF n d.1 d.2 = true) (hi : i < A.length) (h : impliesDepF n (eraD A i) (nl A i) (nr A i) = true) {x : Int} (hx : St x) : Closed A x ↔ Closed (eraD A i) x := by
  have hv := val_all hd
  have hw : Val (eraD A i) := val_sub hv fun d => mem_eraD
  constructor
  · intro hc d hm; exact hc d (mem_eraD hm)
  · intro hc d hm hin
    rcases mem_era_or hi hm with hm | rfl
    · exact hc d hm hin
    · have hb := (isDepF_val (hd _ hm)).1
      unfold impliesDepF at h
      simp only [Bool.and_eq_true] at h
      exact imp_closed hw hb.1 hb.2 hx h.2.2 hc hin
theorem prune_sub {n : Int} : ∀ (f : Nat) (A : List (Int × Int)) (i : Nat), ∀ d ∈ pruneF n f A i, d ∈ A
  | 0, _, _, _, h => h
  | f + 1, A, i, d, h => by
    unfold pruneF at h
    split at h
    · split at h
      · exact mem_eraD (prune_sub f _ _ d h)
      · exact prune_sub f _ _ d h
    · exact h
theorem prune_closed {n x : Int} (hx : St x) : ∀ (f : Nat) (A : List (Int × Int)) (i : Nat), (∀ d ∈ A, isDepF n d.1 d.2 = true) → (Closed A x ↔ Closed (pruneF n f A i) x)
  | 0, _, _, _ => Iff.rfl
  | f + 1, A, i, hd => by
    unfold pruneF
    split
    · next hi =>
      split
      · next hh => exact (era_closed hd hi hh hx).trans (prune_closed hx f _ _ fun d hm => hd d (mem_eraD hm))
      · exact prune_closed hx f _ _ hd
    · exact Iff.rfl
theorem imp_mono {n l r : Int} {D E : List (Int × Int)} (hD : areDepsF n D = true) (hs : ∀ d ∈ E, d ∈ D) (h : impliesDepF n E l r = true) : impliesDepF n D l r = true := by
  unfold impliesDepF at h ⊢
  simp only [Bool.and_eq_true] at h ⊢
  refine ⟨hD, h.2.1, ?_⟩
  have hv := val_deps hD
  have hb := (isDepF_val h.2.1).1
  exact (ins_iff (cloF_st (val_sub hv hs) hb.1) (cloF_st hv hb.1)).1 (clo_sub (val_sub hv hs) hv (fun y hy hc d hm => hc d (hs d hm)) hb.1) r hb.2 h.2.2
theorem nl_era {A : List (Int × Int)} {i j : Nat} (hi : i < A.length) (hj : j < i) : nl (eraD A i) j = nl A j ∧ nr (eraD A i) j = nr A j := by
  have e : (eraD A i)[j]? = A[j]? := by rw [eraD_idx, List.getElem?_eraseIdx]; simp [hj]
  unfold nl nr List.getD
  rw [e]; exact ⟨rfl, rfl⟩
theorem era_era {A : List (Int × Int)} {i j : Nat} (hj : j < i) : ∀ d ∈ eraD (eraD A i) j, d ∈ eraD A j := by
  intro d h
  simp only [eraD_idx] at h ⊢
  obtain ⟨k, hk, hkj, e⟩ := List.mem_eraseIdx_iff_getElem.1 h
  rw [List.getElem_eraseIdx] at e
  split at e
  · exact List.mem_eraseIdx_iff_getElem.2 ⟨k, _, hkj, e⟩
  · exact List.mem_eraseIdx_iff_getElem.2 ⟨k + 1, _, by omega, e⟩
theorem prune_min {n : Int} : ∀ (f : Nat) (A : List (Int × Int)) (i : Nat), A.length - i ≤ f → areDepsF n A = true → (∀ j, j < i → j < A.length → impliesDepF n (eraD A j) (nl A j) (nr A j) = false) →
    ∀ j, j < (pruneF n f A i).length → impliesDepF n (eraD (pruneF n f A i) j) (nl (pruneF n f A i) j) (nr (pruneF n f A i) j) = false
  | 0, A, i, hf, _, h => fun j hj => by
    have hj' : j < A.length := hj
    exact h j (by omega) hj'
  | f + 1, A, i, hf, ha, h => by
    unfold pruneF
    split
    · next hi =>
      split
      · next hh =>
        have hl := eraD_len hi
        refine prune_min f (eraD A i) i (by omega) (areDepsF_era ha hi) fun j hj hj' => ?_
        obtain ⟨e1, e2⟩ := nl_era hi hj
        rw [e1, e2]
        cases hq : impliesDepF n (eraD (eraD A i) j) (nl A j) (nr A j)
        · rfl
        · have := h j hj (by omega)
          rw [imp_mono (areDepsF_era ha (show j < A.length by omega)) (era_era hj) hq] at this; cases this
      · next hh =>
        refine prune_min f A (i + 1) (by omega) ha fun j hj hj' => ?_
        by_cases e : j = i
        · subst e; simpa using hh
        · exact h j (by omega) hj'
    · next hi => exact fun j hj => h j (by omega) hj
theorem redF_congr {D E : List (Int × Int)} {r : Int} (h : ∀ y, St y → cloF D y = cloF E y) : ∀ (C : List Int) (x : Int), (∀ c ∈ C, Co c) → St x → C.foldl (redStep D r) x = C.foldl (redStep E r) x
  | [], _, _, _ => by rw [List.foldl_nil, List.foldl_nil]
  | c :: C, x, hC, hx => by
    have hc := hC c (List.mem_cons_self ..)
    have e : redStep D r x c = redStep E r x c := by unfold redStep; rw [h _ (dif_st hx (one_st hc))]
    rw [List.foldl_cons, List.foldl_cons, e]
    exact redF_congr h C _ (fun d hd => hC d (List.mem_cons_of_mem _ hd)) (redStep_st hx hc)
theorem cover_law {n : Int} {D : List (Int × Int)} (ha : areDepsF n D = true) : sameMeaningF n D (coverOfF n D) = true ∧ isCoverF n (coverOfF n D) = true ∧ (coverOfF n D).length ≤ D.length := by
  have hv := val_deps ha
  obtain ⟨_, h1, h5, hl20⟩ := areDepsF_val ha
  have hdl := dstF_len n D D.length (Nat.le_refl _)
  have hdd := dstF_dep ha D.length (Nat.le_refl _)
  obtain ⟨i1, i2⟩ := dst_mem ha D.length (Nat.le_refl _)
  have hda : areDepsF n (dstF n D D.length) = true := by
    unfold areDepsF
    simp only [Bool.and_eq_true, List.all_eq_true, decide_eq_true_eq]
    exact ⟨hdd, ⟨h1, h5⟩, by omega⟩
  have hC : coverOfF n D = pruneF n (dstF n D D.length).length (dstF n D D.length) 0 := by unfold coverOfF; rw [ha]; rfl
  have hmin := prune_min (n := n) (dstF n D D.length).length (dstF n D D.length) 0 (by omega) hda (fun j hj => by omega)
  have hsub := prune_sub (n := n) (dstF n D D.length).length (dstF n D D.length) 0
  have hlen := pruneF_len n (dstF n D D.length).length (dstF n D D.length) 0
  have hcl : ∀ x, St x → (Closed D x ↔ Closed (coverOfF n D) x) := fun x hx => by rw [hC]; exact (dst_closed ha hx).trans (prune_closed hx _ _ _ hdd)
  rw [← hC] at hmin hsub hlen
  generalize coverOfF n D = C at *
  have hca : areDepsF n C = true := by
    unfold areDepsF
    simp only [Bool.and_eq_true, List.all_eq_true, decide_eq_true_eq]
    exact ⟨fun d hd => hdd d (hsub d hd), ⟨h1, h5⟩, by omega⟩
  have hw := val_deps hca
  have hce : ∀ y, St y → cloF D y = cloF C y := fun y hy => clo_eq hv hw hcl hy
  refine ⟨?_, ?_, by omega⟩
  · unfold sameMeaningF
    rw [ha, hca]
    simp only [Bool.true_and, decide_eq_true_eq]
    unfold closedSetsF
    rw [ha, hca]
    simp only [if_true]
    unfold flt
    refine List.filter_congr fun x hx => ?_
    obtain ⟨c, hc, rfl⟩ := List.mem_map.1 hx
    have hp := pow_nat (n := n) (by omega) h5
    have hc' := List.mem_range.1 hc
    rw [hce (c : Int) ⟨by omega, by omega⟩]
  · unfold isCoverF
    rw [hca]
    simp only [Bool.true_and, List.all_eq_true, List.mem_range]
    intro j hj
    unfold coverBad
    rw [hmin j hj]
    have hm := nth_mem hj
    obtain ⟨d, hd, e⟩ := i1 _ (hsub _ hm)
    injection e with e1 e2
    have hb := hv d hd
    have : redF C (nl C j) (nr C j) = nl C j := by
      rw [e1, e2]
      show fiveI.foldl (redStep C d.2) (redF D d.1 d.2) = _
      rw [← redF_congr hce fiveI _ five_co (redF_st hb.1)]
      exact redF_idem hv hb.1 hb.2
    have : reduceF n C (nl C j) (nr C j) = nl C j := by unfold reduceF; split; exact this; rfl
    rw [this]; simp
theorem cap_of_ins {x y : Int} (hx : St x) (hy : St y) (h : ins y x = true) : cap x y = y :=
  set_ext (cap_st hx hy) hy fun c hc => by
    rw [hasc_cap hx hy hc]
    cases e : hasc y c
    · simp
    · rw [(ins_iff hy hx).1 h c hc e]; rfl
theorem fold_uni : ∀ (L : List Int) (z : Int), (∀ x ∈ L, St x) → St z → St (L.foldl uni z) ∧ ins z (L.foldl uni z) = true ∧ ∀ k ∈ L, ins k (L.foldl uni z) = true
  | [], z, _, hz => ⟨hz, ins_refl hz, fun k hk => by cases hk⟩
  | x :: L, z, hL, hz => by
    have hx := hL x (List.mem_cons_self ..)
    obtain ⟨h1, h2, h3⟩ := fold_uni L (uni z x) (fun y hy => hL y (List.mem_cons_of_mem _ hy)) (uni_st hz hx)
    have hu := uni_st hz hx
    rw [List.foldl_cons]
    refine ⟨h1, ins_trans hz hu h1 (ins_uni_left hz hx) h2, fun k hk => ?_⟩
    rcases List.mem_cons.1 hk with rfl | hk
    · refine ins_trans hx hu h1 ((ins_iff hx hu).2 fun c hc h => ?_) h2
      rw [hasc_uni hz hx hc, h, Bool.or_true]
    · exact h3 k hk
theorem keys_law {n : Int} {D : List (Int × Int)} {k : Int} (h : k ∈ keysOfF n D) : 1 ≤ n ∧ n ≤ 5 ∧ closureOfF n D k = allM n ∧ cap (primeF n D) k = k := by
  have hst := keysOf_st k h
  have hp : cap (primeF n D) k = k := by
    obtain ⟨h1, _, h3⟩ := fold_uni (keysOfF n D) 0 keysOf_st ⟨by decide, by decide⟩
    exact cap_of_ins h1 hst (h3 k h)
  unfold keysOfF at h
  split at h
  · next ha =>
    obtain ⟨_, h1, h5, _⟩ := areDepsF_val ha
    have hpw := pow_nat (n := n) (by omega) h5
    have hS : setsF (flt (supF n D) (2 ^ n.toNat)) = true := by
      unfold setsF
      rw [List.all_eq_true]
      intro x hx
      have := (flt_mem.1 hx).1
      exact decide_eq_true (show St x from ⟨by omega, by omega⟩)
    rw [minF_sets hS (Nat.le_trans (flt_le _ _) (by omega))] at h
    have h' := (flt_mem.1 h).2
    rw [Bool.and_eq_true] at h'
    have hm : k ∈ flt (supF n D) (2 ^ n.toNat) := by have := h'.1; unfold inB' at this; simpa using this
    obtain ⟨hb, hs⟩ := flt_mem.1 hm
    refine ⟨h1, h5, ?_, hp⟩
    unfold closureOfF
    have hat : isAttr n k = true := by
      unfold isAttr
      simp only [Bool.and_eq_true, decide_eq_true_eq]
      have := hpw.1
      omega
    rw [ha, hat]
    unfold supF at hs
    simpa using hs
  · cases h
theorem taken_mem {p : Int → Int → Bool} {r : Int} : ∀ (P T : List Int) {x : Int}, x ∈ P.foldl (stepM p r) T → x ∈ T ∨ (x ∈ P ∧ p x r = true)
  | [], _, _, h => .inl h
  | y :: P, T, x, h => by
    rw [List.foldl_cons] at h
    rcases taken_mem P _ h with h | ⟨h1, h2⟩
    · unfold stepM at h
      split at h
      · next hh =>
        rcases List.mem_append.1 h with h | h
        · exact .inl h
        · simp at h; subst h
          rw [Bool.and_eq_true] at hh
          exact .inr ⟨List.mem_cons_self .., hh.2⟩
      · exact .inl h
    · exact .inr ⟨List.mem_cons_of_mem _ h1, h2⟩
theorem cols_mem {p : Int → Int → Bool} {P : List Int} {N : Nat} {d : Int × Int} (h : d ∈ colsF p P N) : d.1 ∈ P ∧ (∃ r : Nat, r < N ∧ d.2 = r) ∧ p d.1 d.2 = true := by
  unfold colsF at h
  obtain ⟨r, hr, h⟩ := List.mem_flatMap.1 h
  unfold colF at h
  obtain ⟨x, hx, rfl⟩ := List.mem_map.1 h
  rcases taken_mem P [] hx with hx | hx
  · cases hx
  · exact ⟨hx.1, ⟨r, List.mem_range.1 hr, rfl⟩, hx.2⟩
theorem proj_law {n s : Int} {D : List (Int × Int)} {d : Int × Int} (h : d ∈ projF n D s) : St s ∧ St d.1 ∧ Co d.2 ∧ cap d.1 s = d.1 ∧ hasc s d.2 = true ∧ impliesDepF n D d.1 d.2 = true := by
  unfold projF at h
  split at h
  · next hh =>
    rw [Bool.and_eq_true] at hh
    obtain ⟨_, h1, h5, _⟩ := areDepsF_val hh.1
    have hpw := pow_nat (n := n) (by omega) h5
    have hs : St s := by
      have := hh.2
      unfold isAttr at this
      simp only [Bool.and_eq_true, decide_eq_true_eq] at this
      have := hpw.1
      unfold St
      omega
    obtain ⟨hm, ⟨r, hr, e⟩, hp⟩ := cols_mem h
    have hx := (partsF_mem (by omega) h5).1 hm
    have hst : St d.1 := ⟨hx.1, by omega⟩
    have hco : Co d.2 := by unfold Co; omega
    unfold prOk at hp
    simp only [Bool.and_eq_true] at hp
    refine ⟨hs, hst, hco, ?_, hp.1.2, ?_⟩
    · refine set_ext (cap_st hst hs) hst fun c hc => ?_
      rw [hasc_cap hst hs hc]
      cases e : hasc d.1 c
      · rfl
      · rw [(ins_iff hst hs).1 hp.1.1 c hc e]; rfl
    · unfold impliesDepF
      rw [hh.1, hp.2, Bool.and_true, Bool.true_and]
      unfold isDepF isAttr
      simp only [Bool.and_eq_true, decide_eq_true_eq]
      have := hpw.1
      omega
  · cases h
end Go.Proofs.YtjbmpnbfiahdhaaGreat
namespace Go.Proofs.YtjbmpnbfiahdhaaGreat
open Go.ChangeShapes Go.WideShapes Go.ChangeAt Go.RowKit
set_option linter.unusedVariables false
set_option maxRecDepth 100000

/-- n bytes that can be read. -/
structure BytesAt (w : World) (oa : Option Addr) (n : Nat) : Prop where
  at_ : 0 < n → ∃ b off, oa = some ⟨b, off, none⟩ ∧ b < w.heap.size ∧ ∀ k, k < n → ∃ x : Int, w.cell? ⟨b, off + k, none⟩ = some (.int .u8 x) ∧ 0 ≤ x ∧ x < 256
theorem BytesAt.keep {w w' : World} {oa : Option Addr} {n : Nat} (h : BytesAt w oa n) (hb : Below w.heap.size w w') : BytesAt w' oa n :=
  ⟨fun h0 => by
    obtain ⟨b, off, e, hlt, hc⟩ := h.at_ h0
    exact ⟨b, off, e, Nat.lt_of_lt_of_le hlt hb.size, fun k hk => by rw [hb.cell (p := ⟨b, off + k, none⟩) hlt]; exact hc k hk⟩⟩
def InBytes (w : World) (v : Value) : Prop := ∃ (oa : Option Addr) (len cap : Nat), v = .slice oa len cap ∧ len ≤ maxLen ∧ BytesAt w oa len
theorem open_bytes {H : Type} {enc : TypeId × Value → H} {W : World} {base : Nat} {held : Bool} {v : Value} {d : DataW H} {ps : List MemPlace} (hok : Value.okWide Tryz.prog W .any base 39 v)
    (h : DataW.Trod enc Tryz.prog W 0 (fun _ => true) held 39 v d ps) : InBytes W v := by
  obtain ⟨a0, len0, cap0, rfl⟩ := okWide_slice Tryz.underlying39 hok
  obtain ⟨fuel, hf⟩ := h
  rcases Go.ChangeShapes.open_ints Tryz.underlying39 Tryz.underlying5 (by kernel_rfl) hf with ⟨hcs, _⟩ | ⟨x, l, c, zs, hcs, _, hl, hm, hz, _, hcell, hwz⟩
  · simp [Value.cells] at hcs
    obtain ⟨rfl, rfl, rfl⟩ := hcs
    exact ⟨_, _, _, rfl, Nat.zero_le _, ⟨fun h => absurd h (by simp)⟩⟩
  · simp [Value.cells] at hcs
    obtain ⟨rfl, rfl, rfl⟩ := hcs
    refine ⟨_, _, _, rfl, Nat.le_trans hl hm, ⟨fun h0 => ?_⟩⟩
    have hz' : zs.length = cap0 := by simpa using hz
    obtain ⟨b, off, spot⟩ := x
    have hc := hcell 0 (by omega)
    have hspot : spot = none := by simpa [Addr.add] using World.cell?_spot hc
    subst hspot
    refine ⟨b, off, rfl, World.block_lt_of_cell? W ⟨b, off, none⟩ (by simpa [Addr.add] using hc), fun k hk => ?_⟩
    have hk' : k < zs.length := by omega
    have := hcell k hk'
    have e : (⟨b, off, none⟩ : Addr).add k = ⟨b, off + k, none⟩ := by unfold Addr.add; split <;> simp_all
    rw [e] at this
    have hw := hwz (zs.getD k 0) (by rw [List.getD_eq_getElem?_getD, List.getElem?_eq_getElem hk']; exact List.getElem_mem hk')
    refine ⟨_, this, ?_⟩
    generalize zs.getD k 0 = z at *
    have hw' : (decide (IntKind.u8.min ≤ z) && decide (z ≤ IntKind.u8.max)) = true := hw
    rw [show IntKind.u8.min = 0 from rfl, show IntKind.u8.max = 255 from rfl, Bool.and_eq_true, decide_eq_true_eq, decide_eq_true_eq] at hw'
    omega
end Go.Proofs.YtjbmpnbfiahdhaaGreat
namespace Go.Proofs.YtjbmpnbfiahdhaaGreat
open Go.RowKit
set_option linter.unusedVariables false
set_option maxRecDepth 100000

/-- Block g is a cursor. -/
def Cur (w : World) (g : Nat) : Prop := ∃ (oa : Option Addr) (n cap i : Nat) (h : Int), Blk w g #[.slice oa n cap, .int .i64 i, .int .i64 h] 139 ∧ i ≤ n ∧ n ≤ 1048576 ∧ BytesAt w oa n ∧ (0 < n → ∀ a, oa = some a → a.block < g)
theorem Cur.lt {w : World} {g : Nat} (h : Cur w g) : g < w.heap.size := by obtain ⟨_, _, _, _, _, h, _⟩ := h; exact h.lt
theorem BytesAt.grown {w w' : World} {oa : Option Addr} {n : Nat} {row : Option Nat} (h : BytesAt w oa n) (hg : w.grownBy w' row) (hne : 0 < n → ∀ a, oa = some a → some a.block ≠ row) : BytesAt w' oa n :=
  ⟨fun h0 => by
    obtain ⟨b, off, e, hlt, hc⟩ := h.at_ h0
    exact ⟨b, off, e, Nat.lt_of_lt_of_le hlt hg.size, fun k hk => by rw [World.cell?_of_block (hg.block b hlt (hne h0 _ e))]; exact hc k hk⟩⟩
theorem Cur.keep {w w' : World} {g : Nat} (h : Cur w g) (hb : Below w.heap.size w w') : Cur w' g := by
  obtain ⟨oa, n, cap, i, x, h1, h2, h3, h4, h5⟩ := h
  exact ⟨oa, n, cap, i, x, h1.keep hb, h2, h3, h4.keep hb, h5⟩
theorem Blk.gr {a b : World} {g : Nat} {c : Array Value} {T : TypeId} {row : Option Nat} (h : Blk a g c T) (hg : a.grownBy b row) (hne : some g ≠ row) : Blk b g c T := (hg.block g h.lt hne).trans h
/-- What the call made behind the cursor may turn. -/
theorem Cur.grown {w w' : World} {g : Nat} {row : Option Nat} (h : Cur w g) (hg : w.grownBy w' row) (hr : ∀ k, row = some k → g < k) : Cur w' g := by
  obtain ⟨oa, n, cap, i, x, h1, h2, h3, h4, h5⟩ := h
  refine ⟨oa, n, cap, i, x, h1.gr hg (fun e => by have := hr g e.symm; omega), h2, h3, h4.grown hg (fun h0 a e e' => ?_), h5⟩
  have := h5 h0 a e
  have := hr _ e'.symm
  omega
theorem and255 (x : Int) : 0 ≤ bits BinOp.and .i64 x 255 ∧ bits BinOp.and .i64 x 255 < 256 := by
  unfold bits
  have h : ∀ b : BitVec 64, (b &&& BitVec.ofInt 64 255).toNat < 256 := fun b => by
    rw [BitVec.toNat_and]
    exact Nat.lt_of_le_of_lt Nat.and_le_right (by decide)
  have := h (BitVec.ofInt 64 x)
  have e : ∀ n : Nat, n < 256 → IntKind.i64.wrap (n : Int) = n := fun n hn => by
    unfold IntKind.wrap
    simp [IntKind.bits, IntKind.signed]
    omega
  show 0 ≤ IntKind.i64.wrap ((BitVec.ofInt 64 x &&& BitVec.ofInt 64 255).toNat : Int) ∧ IntKind.i64.wrap ((BitVec.ofInt 64 x &&& BitVec.ofInt 64 255).toNat : Int) < 256
  rw [e _ this]
  omega
set_option maxHeartbeats 800000 in
theorem c_l1Byte (g : Nat) (w : World) (hc : Cur w g) :
    Calls Tryz.prog 188 #[.pointer (some ⟨g, 0, none⟩)] w fun e w' => ∃ x : Int, e = .returned (.int .i64 x) ∧ 0 ≤ x ∧ x < 256 ∧ Cur w' g ∧ w.grownBy w' (some g) := by
  obtain ⟨oa, n, cap, i, h, k, hi, hn, hB, hlo⟩ := hc
  have k2 := k.cell 2 (.int .i64 h) rfl
  have f2 := k.free 2
  have HI : Hid (i ≤ n) := hi
  clear hi
  go_enter Tryz.func188, Tryz.ntmps188
  go_wp2_with fail
  have kk : Blk _ g #[.slice oa n cap, .int .i64 i, .int .i64 (wrap64 (wrap64 (h * 6364136223846793005) + 1442695040888963407))] 139 := k.set 2 (.int .i64 (wrap64 (wrap64 (h * 6364136223846793005) + 1442695040888963407)))
  have hg := grown_set w g 2 (.int .i64 (wrap64 (wrap64 (h * 6364136223846793005) + 1442695040888963407)))
  clear k k2 f2
  generalize wrap64 (wrap64 (h * 6364136223846793005) + 1442695040888963407) = h2 at *
  have s2 := kk.cell 2 (.int .i64 h2) rfl
  (refine wp_region_after (by kernel_rfl) (by kernel_rfl) ?_; have q_s2 := fun (x : After _) => cell_keep s2 x.bel; (repeat (go_big_quiet_step (fail))); clear q_s2; refine wpQuiet_nil ?_; rintro _ ⟨⟨w1, hbn⟩, rfl⟩; (try simp only [After.w]))
  replace kk := kk.keep hbn
  replace hg := grown_trans hg (grown_of_below hbn _)
  clear hbn s2
  have hx := and255 (bits BinOp.xor IntKind.i64 (h2 / 8589934592) (h2 / 35184372088832))
  generalize bits BinOp.and IntKind.i64 (bits BinOp.xor IntKind.i64 (h2 / 8589934592) (h2 / 35184372088832)) 255 = x at *
  obtain ⟨hx0, hx1⟩ := hx
  go_wp2_with fail
  have s0 := kk.cell 0 (.slice oa n cap) rfl
  have s1 := kk.cell 1 (.int .i64 i) rfl
  (refine wp_region_after (by kernel_rfl) (by kernel_rfl) ?_; have q_s0 := fun (x : After _) => cell_keep s0 x.bel; have q_s1 := fun (x : After _) => cell_keep s1 x.bel; (repeat (go_big_quiet_step (fail))); clear q_s0; clear q_s1; refine wpQuiet_nil ?_; rintro _ ⟨⟨w1, hbn⟩, rfl⟩; (try simp only [After.w]))
  replace kk := kk.keep hbn
  replace hg := grown_trans hg (grown_of_below hbn _)
  clear hbn s0 s1
  by_cases hlt : i < n
  · have hB' := hB.grown hg (fun h0 a e e' => by injection e' with e'; have := hlo h0 a e; omega)
    obtain ⟨b, off, rfl, hbs, hcell⟩ := hB'.at_ (by omega)
    obtain ⟨y, hy, hy0, hy1⟩ := hcell i hlt
    have s0 := kk.cell 0 (.slice (some ⟨b, off, none⟩) n cap) rfl
    have s1 := kk.cell 1 (.int .i64 i) rfl
    clear hcell
    go_wp2_with fail
    (refine wp_region_after (by kernel_rfl) (by kernel_rfl) ?_; have q_s0 := fun (x : After _) => cell_keep s0 x.bel; have q_s1 := fun (x : After _) => cell_keep s1 x.bel; have q_hy := fun (x : After _) => cell_keep hy x.bel; (repeat (go_big_quiet_step (fail))); clear q_s0; clear q_s1; clear q_hy; refine wpQuiet_nil ?_; rintro _ ⟨⟨w1, hbn⟩, rfl⟩; (try simp only [After.w]))
    replace kk := kk.keep hbn
    replace hg := grown_trans hg (grown_of_below hbn _)
    clear hbn s0 s1 hy
    have hz := and255 (x + y)
    generalize bits BinOp.and IntKind.i64 (x + y) 255 = z at *
    obtain ⟨hz0, hz1⟩ := hz
    have s1 := kk.cell 1 (.int .i64 i) rfl
    have f1 := kk.free 1
    have k2 : Blk _ g #[.slice (some ⟨b, off, none⟩) n cap, .int .i64 ((i : Int) + 1), .int .i64 h2] 139 := kk.set 1 (.int .i64 ((i : Int) + 1))
    have hg2 := grown_trans hg (grown_set _ g 1 (.int .i64 ((i : Int) + 1)))
    have hB2 := hB.grown hg2 (fun h0 a e e' => by injection e' with e'; have := hlo h0 a e; omega)
    clear hB' hg kk
    go_wp2
    go_ret
    exact ⟨z, rfl, hz0, hz1, ⟨_, n, cap, i + 1, h2, k2, by omega, hn, hB2, hlo⟩, hg2⟩
  · have HE : Hid (i = n) := by have := HI.out; show i = n; omega
    go_wp2
    go_ret
    exact ⟨x, rfl, hx0, hx1, ⟨oa, n, cap, i, h2, kk, HI.out, hn, hB.grown hg (fun h0 a e e' => by injection e' with e'; have := hlo h0 a e; omega), hlo⟩, hg⟩
end Go.Proofs.YtjbmpnbfiahdhaaGreat
namespace Go.Proofs.YtjbmpnbfiahdhaaGreat
open Go.RowKit
set_option linter.unusedVariables false
set_option maxRecDepth 100000

theorem tmod_in {x n : Int} (h0 : 0 ≤ x) (hn : 0 < n) : 0 ≤ x.tmod n ∧ x.tmod n < n := by
  rw [Int.tmod_eq_emod_of_nonneg h0]
  exact ⟨Int.emod_nonneg _ (by omega), Int.emod_lt_of_pos _ hn⟩
set_option maxHeartbeats 800000 in
theorem c_l1Below (g : Nat) (n : Int) (hn : n ≤ 256) (w : World) (hc : Cur w g) :
    Calls Tryz.prog 116 #[.pointer (some ⟨g, 0, none⟩), .int .i64 n] w fun e w' => ∃ x : Int, e = .returned (.int .i64 x) ∧ 0 ≤ x ∧ (0 < n → x < n) ∧ (n ≤ 0 → x = 0) ∧ Cur w' g ∧ w.grownBy w' (some g) := by
  by_cases h0 : n ≤ 0
  · go_enter Tryz.func116, Tryz.ntmps116
    go_wp2
    go_ret
    exact ⟨0, rfl, by omega, by omega, fun _ => rfl, hc, grown_refl _ _⟩
  · have hne : n ≠ 0 := by omega
    have hne1 : n ≠ -1 := by omega
    go_enter Tryz.func116, Tryz.ntmps116
    go_wp2_with fail
    refine (c_l1Byte g _ hc).mono ?_
    rintro e w1 ⟨x, rfl, hx0, hx1, hc1, hg⟩
    have hm0 := Int.emod_nonneg x hne
    have hm1 := Int.emod_lt_of_pos x (show 0 < n by omega)
    clear hc
    go_wp2
    go_ret
    exact ⟨x % n, rfl, hm0, fun _ => hm1, fun h => by omega, hc1, hg⟩
theorem c_l1Once (g : Nat) (n : Int) (hn : n ≤ 256) (w : World) (hc : Cur w g) :
    Calls Tryz.prog 110 #[.pointer (some ⟨g, 0, none⟩), .int .i64 n] w fun e w' => ∃ b : Bool, e = .returned (.bool b) ∧ Cur w' g ∧ w.grownBy w' (some g) := by
  go_enter Tryz.func110, Tryz.ntmps110
  go_wp2_with fail
  refine (c_l1Below g n hn _ hc).mono ?_
  rintro e w1 ⟨x, rfl, _, _, _, hc1, hg⟩
  clear hc
  go_wp2
  go_ret
  exact ⟨_, rfl, hc1, hg⟩
theorem IntsAt.grown {w w' : World} {oa : Option Addr} {L : List Int} {row : Option Nat} (h : IntsAt w oa L) (hg : w.grownBy w' row) (hne : ∀ a, oa = some a → some a.block ≠ row) : IntsAt w' oa L :=
  ⟨h.len, fun h0 => by
    obtain ⟨b, off, e, hlt, hc⟩ := h.at_ h0
    exact ⟨b, off, e, Nat.lt_of_lt_of_le hlt hg.size, fun k hk => by rw [World.cell?_of_block (hg.block b hlt (hne _ e))]; exact hc k hk⟩⟩
theorem c_l1PickInt (g : Nat) (oa) (cap : Nat) (L : List Int) (h0 : 0 < L.length) (hl : L.length ≤ 256) (w : World) (hc : Cur w g) (hL : IntsAt w oa L) (hne : ∀ a, oa = some a → a.block ≠ g) :
    Calls Tryz.prog 98 #[.pointer (some ⟨g, 0, none⟩), .slice oa L.length cap] w fun e w' => ∃ x : Int, e = .returned (.int .i64 x) ∧ x ∈ L ∧ Cur w' g ∧ w.grownBy w' (some g) := by
  go_enter Tryz.func98, Tryz.ntmps98
  go_wp2_with fail
  refine (c_l1Below g L.length (by omega) _ hc).mono ?_
  rintro e w1 ⟨x, rfl, hx0, hx1, _, hc1, hg⟩
  obtain ⟨k, rfl⟩ := Int.eq_ofNat_of_zero_le hx0
  have hk : k < L.length := by have := hx1 (by omega); omega
  replace hL := hL.grown hg (fun a e e' => hne a e (by injection e'))
  obtain ⟨b, off, rfl, hbs, hcell⟩ := hL.at_ (by omega)
  have h1 := hcell k hk
  have HM : Hid (nth L k ∈ L) := List.mem_iff_getElem?.2 ⟨k, nth_eq hk⟩
  clear hcell hx1 hc hne hL
  go_wp2
  go_ret
  exact ⟨_, rfl, HM.out, hc1, hg⟩
/-- A literal list of ints behind the cursor. -/
theorem lit_ints (w : World) (cs : Array Value) (L : List Int) (hl : L.length ≤ 100) (hcs : ∀ k, k < L.length → cs[k]? = some (.int .i64 (nth L k))) (T : TypeId) : IntsAt (w.alloc (.cells cs T)) (some ⟨w.heap.size, 0, none⟩) L :=
  ⟨by unfold Room; omega, fun _ => ⟨w.heap.size, 0, rfl, by simp, fun k hk => by rw [Nat.zero_add]; simp only [World.cell?, heap_alloc_new]; exact hcs k hk⟩⟩
theorem cur_alloc {w : World} {g : Nat} (h : Cur w g) (o : Obj) : Cur (w.alloc o) g := h.keep ((Below.refl _ _).alloc (Nat.le_refl _) o)
theorem grown_alloc {w w' : World} {row : Option Nat} {o : Obj} (h : (w.alloc o).grownBy w' row) : w.grownBy w' row := grown_trans (grown_of_below ((Below.refl _ _).alloc (Nat.le_refl _) o) row) h
theorem c_l2Any (g : Nat) (w : World) (hc : Cur w g) :
    Calls Tryz.prog 145 #[.pointer (some ⟨g, 0, none⟩)] w fun e w' => ∃ x : Int, e = .returned (.int .i64 x) ∧ -1 ≤ x ∧ x ≤ 33 ∧ Cur w' g ∧ w.grownBy w' (some g) := by
  go_enter Tryz.func145, Tryz.ntmps145
  go_wp2_with fail
  refine (c_l1Once g 8 (by omega) _ hc).mono ?_
  rintro e w1 ⟨t, rfl, hc1, hg⟩
  clear hc
  cases t
  · go_wp2_with fail
    refine (c_l1Below g 32 (by omega) _ hc1).mono ?_
    rintro e w2 ⟨x, rfl, hx0, hx1, _, hc2, hg2⟩
    have h32 := hx1 (by omega)
    replace hg := grown_trans hg hg2
    clear hc1 hg2 hx1
    go_wp2
    go_ret
    exact ⟨x, rfl, by omega, by omega, hc2, hg⟩
  · have hL := fun T => lit_ints w1 #[.int .i64 (-1), .int .i64 31, .int .i64 32, .int .i64 33] [-1, 31, 32, 33] (by simp) (fun k hk => by match k, hk with | 0, _ => rfl | 1, _ => rfl | 2, _ => rfl | 3, _ => rfl) T
    have hlt := hc1.lt
    go_wp2_with fail
    refine (c_l1PickInt g _ 4 [-1, 31, 32, 33] (by simp) (by simp) _ (cur_alloc hc1 _) (hL _) (fun a e => by injection e with e; subst e; simp; omega)).mono ?_
    rintro e w2 ⟨x, rfl, hx, hc2, hg2⟩
    replace hg := grown_trans hg (grown_alloc hg2)
    have hx2 : -1 ≤ x ∧ x ≤ 33 := by simp at hx; omega
    clear hc1 hg2 hL hx
    go_wp2
    go_ret
    exact ⟨x, rfl, hx2.1, hx2.2, hc2, hg⟩
end Go.Proofs.YtjbmpnbfiahdhaaGreat
namespace Go.Proofs.YtjbmpnbfiahdhaaGreat
open Go.RowKit
set_option linter.unusedVariables false
set_option maxRecDepth 100000

set_option maxHeartbeats 800000 in
theorem c_l1New (oa) (n cap : Nat) (hn : n ≤ 1048576) (w : World) (hB : BytesAt w oa n) :
    Calls Tryz.prog 96 #[.slice oa n cap] w fun e w' => e = .returned (.pointer (some ⟨w.heap.size, 0, none⟩)) ∧ Cur w' w.heap.size ∧ Below w.heap.size w w' := by
  go_enter Tryz.func96, Tryz.ntmps96
  go_wp2
  go_loop [3, 4] (fun h i => ∃ (x : Int) (k : Nat), h = .int .i64 x ∧ i = .int .i64 k ∧ k ≤ n) (fun _ i => n - (intOf i).toNat)
  case atStart => exact ⟨_, 0, rfl, rfl, Nat.zero_le _⟩
  case round =>
    obtain ⟨x, k, rfl, rfl, hk⟩ := hrel
    by_cases hlt : k < n
    · by_cases h4 : (k : Int) < 4000
      · obtain ⟨b, off, rfl, hbs, hc⟩ := hB.at_ (by omega)
        obtain ⟨y, hy, hy0, hy1⟩ := hc k hlt
        clear hc hB
        go_wp2
        go_round
        case rel => exact ⟨_, k + 1, rfl, by go_num, by omega⟩
        case measure => simp [intOf]; omega
      · go_wp2
        go_ret
        exact ⟨rfl, ⟨oa, n, cap, 0, x, Blk.new w _ _, Nat.zero_le _, hn, hB.keep ((Below.refl _ _).alloc (Nat.le_refl _) _), fun h0 a e => by obtain ⟨b, off, e', hlt, _⟩ := hB.at_ h0; rw [e] at e'; injection e' with e'; rw [e']; exact hlt⟩, (Below.refl _ _).alloc (Nat.le_refl _) _⟩
    · have hkk : k = n := by omega
      have HK : Hid (k = n) := hkk
      clear hkk
      go_wp2
      go_ret
      exact ⟨rfl, ⟨oa, n, cap, 0, x, Blk.new w _ _, Nat.zero_le _, hn, hB.keep ((Below.refl _ _).alloc (Nat.le_refl _) _), fun h0 a e => by obtain ⟨b, off, e', hlt, _⟩ := hB.at_ h0; rw [e] at e'; injection e' with e'; rw [e']; exact hlt⟩, (Below.refl _ _).alloc (Nat.le_refl _) _⟩
/-- Whatever was made before the cursor's own turns lies as it lay. -/
theorem Blk.cur {w w' : World} {k g : Nat} {c : Array Value} {T : TypeId} (h : Blk w k c T) (hg : w.grownBy w' (some g)) (hne : k ≠ g) : Blk w' k c T := h.gr hg (fun e => hne (by injection e))
theorem grown_new {w w2 : World} {g k j : Nat} {v : Value} (hG : w.grownBy w2 (some g)) (hk : w.heap.size ≤ k) : w.grownBy (w2.setCell ⟨k, j, none⟩ v) (some g) :=
  ⟨hG.os, hG.tape, hG.output, by have := hG.size; simpa using this, fun i hi hne => (Below.heap_setCell w2 ⟨k, j, none⟩ v i (by show i ≠ k; omega)).trans (hG.block i hi hne)⟩
theorem Cur.set {w : World} {g k j : Nat} {v : Value} (h : Cur w g) (hk : g < k) : Cur (w.setCell ⟨k, j, none⟩ v) g := h.grown (grown_set w k j v) (fun i e => by injection e with e; omega)
set_option maxHeartbeats 800000 in
theorem c_l6Dep (g : Nat) (N : Nat) (h5 : N ≤ 5) (w : World) (hc : Cur w g) :
    Calls Tryz.prog 182 #[.pointer (some ⟨g, 0, none⟩), .int .i64 N] w fun e w' => ∃ l r : Int, e = .returned (.agg #[.int .i64 l, .int .i64 r]) ∧ Cur w' g ∧ w.grownBy w' (some g) := by
  have hp := pow_wrap (n := (N : Int)) (by omega) (by omega)
  simp only [Int.toNat_natCast] at hp
  have hp1 := hp.1
  have hp2 := hp.2.1
  clear hp
  have hlt := hc.lt
  have kZ := Blk.new w #[.int .i64 0, .int .i64 0] 46
  have hG := grown_of_below ((Below.refl w.heap.size w).alloc (Nat.le_refl _) (.cells #[.int .i64 0, .int .i64 0] 46)) (some g)
  replace hc := cur_alloc hc (.cells #[.int .i64 0, .int .i64 0] 46)
  go_enter Tryz.func182, Tryz.ntmps182
  go_wp2_with fail
  refine (c_l1Below g (2 ^ N) (by omega) _ hc).mono ?_
  rintro e w1 ⟨x, rfl, _, _, _, hc1, hg⟩
  replace kZ := kZ.cur hg (by omega)
  replace hG := grown_trans hG hg
  clear hc hg
  go_wp2_with fail
  refine (c_l1Below g N (by omega) _ hc1).mono ?_
  rintro e w2 ⟨y, rfl, _, _, _, hc2, hg⟩
  replace kZ := kZ.cur hg (by omega)
  replace hG := grown_trans hG hg
  clear hc1 hg
  have z0 := kZ.cell 0 (.int .i64 0) rfl
  have z1 := kZ.cell 1 (.int .i64 0) rfl
  have f0 := kZ.free 0
  have f1 := kZ.free 1
  go_wp2
  exact bodyPost_ret (v := .agg #[.int .i64 x, .int .i64 y]) (by simp [results, Tryz.results182, go_sem, z0, z1]) rfl ⟨x, y, rfl, (hc2.set hlt).set hlt, grown_new (grown_new hG (Nat.le_refl _)) (Nat.le_refl _)⟩
set_option maxHeartbeats 1600000 in
theorem c_l6Any (g : Nat) (n : Int) (w : World) (hc : Cur w g) :
    Calls Tryz.prog 130 #[.pointer (some ⟨g, 0, none⟩), .int .i64 n] w fun e w' => ∃ l r : Int, e = .returned (.agg #[.int .i64 l, .int .i64 r]) ∧ Cur w' g ∧ w.grownBy w' (some g) := by
  have hlt := hc.lt
  have kZ := Blk.new w #[.int .i64 0, .int .i64 0] 46
  have hG := grown_of_below ((Below.refl w.heap.size w).alloc (Nat.le_refl _) (.cells #[.int .i64 0, .int .i64 0] 46)) (some g)
  replace hc := cur_alloc hc (.cells #[.int .i64 0, .int .i64 0] 46)
  cases hin : inB n 1 5
  · go_enter Tryz.func130, Tryz.ntmps130
    go_wp2_with fail
    refine Calls.mono (Ans.eqb (c_l1In _ _ _ _) hin) ?_
    rintro e w1 ⟨rfl, hbn⟩
    replace kZ := kZ.keep hbn
    replace hc := hc.keep hbn
    replace hG := grown_trans hG (grown_of_below hbn _)
    clear hbn
    go_wp2_with fail
    refine (c_l6Dep g 3 (by omega) _ hc).mono ?_
    rintro e w2 ⟨l, r, rfl, hc2, hg⟩
    replace kZ := kZ.cur hg (by omega)
    replace hG := grown_trans hG hg
    clear hc hg
    have kD := Blk.new w2 #[.int .i64 l, .int .i64 r] 46
    have hl2 := kZ.lt
    replace kZ := kZ.alloc (.cells #[.int .i64 l, .int .i64 r] 46)
    replace hc2 := cur_alloc hc2 (.cells #[.int .i64 l, .int .i64 r] 46)
    replace hG := grown_trans hG (grown_of_below ((Below.refl w2.heap.size w2).alloc (Nat.le_refl _) (.cells #[.int .i64 l, .int .i64 r] 46)) (some g))
    go_wp2_with fail
    refine (c_l1Below g 14 (by omega) _ hc2).mono ?_
    rintro e w3 ⟨q, rfl, _, _, _, hc3, hg⟩
    replace kZ := kZ.cur hg (by omega)
    replace kD := kD.cur hg (by omega)
    replace hG := grown_trans hG hg
    clear hc2 hg
    by_cases e0 : q = 0
    · go_wp2_with fail
      refine (c_l2Any g _ hc3).mono ?_
      rintro e w4 ⟨x, rfl, _, _, hc4, hg⟩
      replace kZ := kZ.cur hg (by omega)
      replace kD := kD.cur hg (by omega)
      replace hG := grown_trans hG hg
      clear hc3 hg
      have d0 := kD.cell 0 (.int .i64 l) rfl
      have d1 := kD.cell 1 (.int .i64 r) rfl
      have e0' := kD.free 0
      have z0 := kZ.cell 0 (.int .i64 0) rfl
      have z1 := kZ.cell 1 (.int .i64 0) rfl
      have f0 := kZ.free 0
      have f1 := kZ.free 1
      have kD2 : Blk _ w2.heap.size #[.int .i64 x, .int .i64 r] 46 := kD.set 0 (.int .i64 x)
      have kZ2 := kZ.far ⟨w2.heap.size, 0, none⟩ (.int .i64 x) (by simp; omega)
      have y0 := kD2.cell 0 (.int .i64 x) rfl
      have y1 := kD2.cell 1 (.int .i64 r) rfl
      have v0 := kZ2.cell 0 (.int .i64 0) rfl
      have v1 := kZ2.cell 1 (.int .i64 0) rfl
      have g0 := kZ2.free 0
      have g1 := kZ2.free 1
      have hc5 := Cur.set (j := 0) (v := .int .i64 x) hc4 (show g < w2.heap.size by omega)
      have hG5 := grown_new (j := 0) (v := .int .i64 x) hG (show w.heap.size ≤ w2.heap.size by omega)
      go_wp2
      exact bodyPost_ret (v := .agg #[.int .i64 x, .int .i64 r]) (by simp [results, Tryz.results130, go_sem, v0, v1]) rfl ⟨x, r, rfl, (hc5.set hlt).set hlt, grown_new (grown_new hG5 (Nat.le_refl _)) (Nat.le_refl _)⟩
    · by_cases e1 : q = 1
      · have hL := fun T => lit_ints w3 #[.int .i64 (-1), .int .i64 4, .int .i64 5] [-1, 4, 5] (by simp) (fun k hk => by match k, hk with | 0, _ => rfl | 1, _ => rfl | 2, _ => rfl) T
        have hlt3 := hc3.lt
        go_wp2_with fail
        refine (c_l1PickInt g _ 3 [-1, 4, 5] (by simp) (by simp) _ (cur_alloc hc3 _) (hL _) (fun a e => by injection e with e; subst e; simp; omega)).mono ?_
        rintro e w4 ⟨x, rfl, _, hc4, hg⟩
        replace hg := grown_alloc hg
        replace kZ := kZ.cur hg (by omega)
        replace kD := kD.cur hg (by omega)
        replace hG := grown_trans hG hg
        clear hc3 hg hL
        have d0 := kD.cell 0 (.int .i64 l) rfl
        have d1 := kD.cell 1 (.int .i64 r) rfl
        have e0' := kD.free 1
        have kD2 : Blk _ w2.heap.size #[.int .i64 l, .int .i64 x] 46 := kD.set 1 (.int .i64 x)
        have kZ2 := kZ.far ⟨w2.heap.size, 1, none⟩ (.int .i64 x) (by simp; omega)
        have y0 := kD2.cell 0 (.int .i64 l) rfl
        have y1 := kD2.cell 1 (.int .i64 x) rfl
        have v0 := kZ2.cell 0 (.int .i64 0) rfl
        have v1 := kZ2.cell 1 (.int .i64 0) rfl
        have g0 := kZ2.free 0
        have g1 := kZ2.free 1
        have hc5 := Cur.set (j := 1) (v := .int .i64 x) hc4 (show g < w2.heap.size by omega)
        have hG5 := grown_new (j := 1) (v := .int .i64 x) hG (show w.heap.size ≤ w2.heap.size by omega)
        go_wp2
        exact bodyPost_ret (v := .agg #[.int .i64 l, .int .i64 x]) (by simp [results, Tryz.results130, go_sem, v0, v1]) rfl ⟨l, x, rfl, (hc5.set hlt).set hlt, grown_new (grown_new hG5 (Nat.le_refl _)) (Nat.le_refl _)⟩
      · have d0 := kD.cell 0 (.int .i64 l) rfl
        have d1 := kD.cell 1 (.int .i64 r) rfl
        have z0 := kZ.cell 0 (.int .i64 0) rfl
        have z1 := kZ.cell 1 (.int .i64 0) rfl
        have f0 := kZ.free 0
        have f1 := kZ.free 1
        go_wp2
        exact bodyPost_ret (v := .agg #[.int .i64 l, .int .i64 r]) (by simp [results, Tryz.results130, go_sem, z0, z1]) rfl ⟨l, r, rfl, (hc3.set hlt).set hlt, grown_new (grown_new hG (Nat.le_refl _)) (Nat.le_refl _)⟩
  · obtain ⟨N, rfl⟩ := Int.eq_ofNat_of_zero_le (show 0 ≤ n by unfold inB at hin; simp at hin; omega)
    have hN : N ≤ 5 := by unfold inB at hin; simp at hin; omega
    go_enter Tryz.func130, Tryz.ntmps130
    go_wp2_with fail
    refine Calls.mono (Ans.eqb (c_l1In _ _ _ _) hin) ?_
    rintro e w1 ⟨rfl, hbn⟩
    replace kZ := kZ.keep hbn
    replace hc := hc.keep hbn
    replace hG := grown_trans hG (grown_of_below hbn _)
    clear hbn
    go_wp2_with fail
    refine (c_l6Dep g N (by omega) _ hc).mono ?_
    rintro e w2 ⟨l, r, rfl, hc2, hg⟩
    replace kZ := kZ.cur hg (by omega)
    replace hG := grown_trans hG hg
    clear hc hg
    have kD := Blk.new w2 #[.int .i64 l, .int .i64 r] 46
    have hl2 := kZ.lt
    replace kZ := kZ.alloc (.cells #[.int .i64 l, .int .i64 r] 46)
    replace hc2 := cur_alloc hc2 (.cells #[.int .i64 l, .int .i64 r] 46)
    replace hG := grown_trans hG (grown_of_below ((Below.refl w2.heap.size w2).alloc (Nat.le_refl _) (.cells #[.int .i64 l, .int .i64 r] 46)) (some g))
    go_wp2_with fail
    refine (c_l1Below g 14 (by omega) _ hc2).mono ?_
    rintro e w3 ⟨q, rfl, _, _, _, hc3, hg⟩
    replace kZ := kZ.cur hg (by omega)
    replace kD := kD.cur hg (by omega)
    replace hG := grown_trans hG hg
    clear hc2 hg
    by_cases e0 : q = 0
    · go_wp2_with fail
      refine (c_l2Any g _ hc3).mono ?_
      rintro e w4 ⟨x, rfl, _, _, hc4, hg⟩
      replace kZ := kZ.cur hg (by omega)
      replace kD := kD.cur hg (by omega)
      replace hG := grown_trans hG hg
      clear hc3 hg
      have d0 := kD.cell 0 (.int .i64 l) rfl
      have d1 := kD.cell 1 (.int .i64 r) rfl
      have e0' := kD.free 0
      have z0 := kZ.cell 0 (.int .i64 0) rfl
      have z1 := kZ.cell 1 (.int .i64 0) rfl
      have f0 := kZ.free 0
      have f1 := kZ.free 1
      have kD2 : Blk _ w2.heap.size #[.int .i64 x, .int .i64 r] 46 := kD.set 0 (.int .i64 x)
      have kZ2 := kZ.far ⟨w2.heap.size, 0, none⟩ (.int .i64 x) (by simp; omega)
      have y0 := kD2.cell 0 (.int .i64 x) rfl
      have y1 := kD2.cell 1 (.int .i64 r) rfl
      have v0 := kZ2.cell 0 (.int .i64 0) rfl
      have v1 := kZ2.cell 1 (.int .i64 0) rfl
      have g0 := kZ2.free 0
      have g1 := kZ2.free 1
      have hc5 := Cur.set (j := 0) (v := .int .i64 x) hc4 (show g < w2.heap.size by omega)
      have hG5 := grown_new (j := 0) (v := .int .i64 x) hG (show w.heap.size ≤ w2.heap.size by omega)
      go_wp2
      exact bodyPost_ret (v := .agg #[.int .i64 x, .int .i64 r]) (by simp [results, Tryz.results130, go_sem, v0, v1]) rfl ⟨x, r, rfl, (hc5.set hlt).set hlt, grown_new (grown_new hG5 (Nat.le_refl _)) (Nat.le_refl _)⟩
    · by_cases e1 : q = 1
      · have hL := fun T => lit_ints w3 #[.int .i64 (-1), .int .i64 4, .int .i64 5] [-1, 4, 5] (by simp) (fun k hk => by match k, hk with | 0, _ => rfl | 1, _ => rfl | 2, _ => rfl) T
        have hlt3 := hc3.lt
        go_wp2_with fail
        refine (c_l1PickInt g _ 3 [-1, 4, 5] (by simp) (by simp) _ (cur_alloc hc3 _) (hL _) (fun a e => by injection e with e; subst e; simp; omega)).mono ?_
        rintro e w4 ⟨x, rfl, _, hc4, hg⟩
        replace hg := grown_alloc hg
        replace kZ := kZ.cur hg (by omega)
        replace kD := kD.cur hg (by omega)
        replace hG := grown_trans hG hg
        clear hc3 hg hL
        have d0 := kD.cell 0 (.int .i64 l) rfl
        have d1 := kD.cell 1 (.int .i64 r) rfl
        have e0' := kD.free 1
        have kD2 : Blk _ w2.heap.size #[.int .i64 l, .int .i64 x] 46 := kD.set 1 (.int .i64 x)
        have kZ2 := kZ.far ⟨w2.heap.size, 1, none⟩ (.int .i64 x) (by simp; omega)
        have y0 := kD2.cell 0 (.int .i64 l) rfl
        have y1 := kD2.cell 1 (.int .i64 x) rfl
        have v0 := kZ2.cell 0 (.int .i64 0) rfl
        have v1 := kZ2.cell 1 (.int .i64 0) rfl
        have g0 := kZ2.free 0
        have g1 := kZ2.free 1
        have hc5 := Cur.set (j := 1) (v := .int .i64 x) hc4 (show g < w2.heap.size by omega)
        have hG5 := grown_new (j := 1) (v := .int .i64 x) hG (show w.heap.size ≤ w2.heap.size by omega)
        go_wp2
        exact bodyPost_ret (v := .agg #[.int .i64 l, .int .i64 x]) (by simp [results, Tryz.results130, go_sem, v0, v1]) rfl ⟨l, x, rfl, (hc5.set hlt).set hlt, grown_new (grown_new hG5 (Nat.le_refl _)) (Nat.le_refl _)⟩
      · have d0 := kD.cell 0 (.int .i64 l) rfl
        have d1 := kD.cell 1 (.int .i64 r) rfl
        have z0 := kZ.cell 0 (.int .i64 0) rfl
        have z1 := kZ.cell 1 (.int .i64 0) rfl
        have f0 := kZ.free 0
        have f1 := kZ.free 1
        go_wp2
        exact bodyPost_ret (v := .agg #[.int .i64 l, .int .i64 r]) (by simp [results, Tryz.results130, go_sem, z0, z1]) rfl ⟨l, r, rfl, (hc3.set hlt).set hlt, grown_new (grown_new hG (Nat.le_refl _)) (Nat.le_refl _)⟩
end Go.Proofs.YtjbmpnbfiahdhaaGreat
namespace Go.Proofs.YtjbmpnbfiahdhaaGreat
open Go.RowKit
theorem heap_two (w : World) (o1 o2 : Obj) : ((w.alloc o1).alloc o2).heap[w.heap.size + 1]? = some o2 := by
  have := heap_alloc_new (w.alloc o1) o2
  rwa [World.size_alloc] at this
end Go.Proofs.YtjbmpnbfiahdhaaGreat
namespace Go.Proofs.YtjbmpnbfiahdhaaGreat
open Go.RowKit
set_option linter.unusedVariables false
set_option maxRecDepth 100000

theorem grown_more {w a b : World} {g : Nat} {row : Option Nat} (hG : w.grownBy a (some g)) (hg : a.grownBy b row) (hr : ∀ k, row = some k → w.heap.size ≤ k) : w.grownBy b (some g) :=
  ⟨hg.os.trans hG.os, hg.tape.trans hG.tape, hg.output.trans hG.output, Nat.le_trans hG.size hg.size, fun i hi hne => (hg.block i (Nat.lt_of_lt_of_le hi hG.size) (fun e => by have := hr i e.symm; omega)).trans (hG.block i hi hne)⟩
theorem owns_cur {w w' : World} {B size n g : Nat} {e : TypeId} {v : Value} {xs : List Value} (h : w.ownsRow B e size v n xs) (hg : w.grownBy w' (some g)) (hB : g < B) : w'.ownsRow B e size v n xs :=
  World.ownsRow.kept h hg (.inr fun e => by have := (World.ownsRow.lt h g e).1; omega)
theorem OwnD.cur {w w' : World} {B g : Nat} {v : Value} {D : List (Int × Int)} (h : OwnD w B v D) (hg : w.grownBy w' (some g)) (hB : g < B) : OwnD w' B v D := owns_cur h hg hB
/-- What the cursor has turned lies behind the base. -/
theorem below_cur {w a b : World} {g : Nat} (hb : Below w.heap.size w a) (hg : a.grownBy b (some g)) (hB : w.heap.size ≤ g) : Below w.heap.size w b := hb.grown hg hb.size (fun k e => by injection e with e; omega)
set_option maxHeartbeats 1600000 in
theorem c_l6Deps (g : Nat) (N : Nat) (h5 : N ≤ 5) (w : World) (hc : Cur w g) :
    Calls Tryz.prog 203 #[.pointer (some ⟨g, 0, none⟩), .int .i64 N] w fun e w' => ∃ o c D, e = .returned (.slice o (D.length : Nat) c) ∧ OwnD w' w.heap.size (.slice o D.length c) D ∧ D.length ≤ 4 ∧ Cur w' g ∧ w.grownBy w' (some g) := by
  obtain ⟨i0, hi0, hz0, hz1, hz2⟩ := info_parts info_dep
  have hlt := hc.lt
  have hI := OwnD.empty w w.heap.size (Nat.le_refl _)
  have hG := grown_of_below ((Below.refl w.heap.size w).alloc (Nat.le_refl _) (.cells #[] 46)) (some g)
  replace hc := cur_alloc hc (.cells #[] 46)
  go_enter Tryz.func203, Tryz.ntmps203
  go_wp2_with fail
  refine (c_l1Below g 5 (by omega) _ hc).mono ?_
  rintro e w1 ⟨q, rfl, hq0, hq1, _, hc1, hg⟩
  replace hI := hI.cur hg hlt
  replace hG := grown_trans hG hg
  obtain ⟨k0, rfl⟩ := Int.eq_ofNat_of_zero_le hq0
  have hk0 : k0 ≤ 4 := by have := hq1 (by omega); omega
  clear hc hg hq0 hq1
  go_wp2_with fail
  go_loopw [5, 6] (fun v i wr => ∃ (k : Nat) (D : List (Int × Int)), i = .int .i64 k ∧ D.length + k ≤ 4 ∧ OwnD wr w.heap.size v D ∧ Cur wr g ∧ w.grownBy wr (some g)) (fun _ i _ => (intOf i).toNat)
  case atStart => exact ⟨k0, [], rfl, by simpa using hk0, hI, hc1, hG⟩
  case round =>
    clear hI hc1 hG
    obtain ⟨k, D, rfl, hk, hI, hc, hG⟩ := hrel
    have hi := hi0
    have HDL : D.length ≤ 4 := by omega
    by_cases hlt0 : 0 < k
    · go_wp2_with fail
      refine (c_l6Dep g N h5 _ hc).mono ?_
      rintro e w2 ⟨l, r, rfl, hc2, hg⟩
      replace hI := hI.cur hg hlt
      replace hG := grown_trans hG hg
      clear hc hg
      have d0 := box_at w2 #[.int .i64 l, .int .i64 r] 46 0 _ rfl
      have d1 := box_at w2 #[.int .i64 l, .int .i64 r] 46 1 _ rfl
      have hba := (Below.refl w2.heap.size w2).alloc (Nat.le_refl _) (.cells #[.int .i64 l, .int .i64 r] 46)
      replace hI := hI.keep hba
      replace hG := grown_trans hG (grown_of_below hba _)
      replace hc2 := hc2.keep hba
      clear hba
      go_wp2_with (first | (at_builtin; refine wpList_append_own _ rfl _ _ 30 rfl w.heap.size 46 i0 (.agg #[.int .i64 0, .int .i64 0]) 2 16 Tryz.underlying30 hi hz0 hz1 hz2 rfl (by decide) _ _ _ rfl (World.ownsRow.alloc hI _) _ 1 1 [.int .i64 l, .int .i64 r] rfl rfl (World.news_of_block (cs := #[.int .i64 l, .int .i64 r]) (t := 46) (fr := (0, 0)) (heap_two _ _ _)) (by intro u hu; simp at hu; rcases hu with rfl | rfl <;> rfl) (by unfold maxLen; omega) (by omega) (by have := hG.size; simp at this ⊢; omega) ?_; intro v' w3 hown hgrow _; have hc3 := Cur.grown (cur_alloc hc2 _) hgrow (fun k e => by have := (World.ownsRow.lt hI k e).1; omega); have hG3 := grown_more (grown_trans hG (grown_of_below ((Below.refl _ _).alloc (Nat.le_refl _) _) _)) hgrow (fun k e => (World.ownsRow.lt hI k e).1); replace hI := OwnD.snoc hown; clear hown hgrow hG hc2) | fail)
      go_roundw
      case rel => exact ⟨k - 1, D ++ [(l, r)], by go_num, by simp; omega, hI, hc3, hG3⟩
      case measure => simp [intOf]; omega
    · have HK : Hid (k = 0) := by show k = 0; omega
      obtain ⟨o, c, rfl⟩ := hI.shape
      go_wp2
      go_ret
      exact ⟨o, c, D, rfl, hI, HDL, hc, hG⟩
end Go.Proofs.YtjbmpnbfiahdhaaGreat
