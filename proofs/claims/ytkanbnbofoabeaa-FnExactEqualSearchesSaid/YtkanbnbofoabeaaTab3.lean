/- IsTable, the modes, equal cells, the set of the columns in which two rows agree. -/
import Derived.Test.YtkanbnbofoabeaaTab
import Derived.Test.YtkanbnbofoabeaaImplies
import Derived.Test.YtkanbnbofoabeaaHits
namespace Go.Proofs.Ytkanbnbofoabeaa
open Go.RowKit
set_option linter.unusedVariables false
set_option maxRecDepth 100000

def rowOk (n : Int) (L : List Int) : Bool := L.all (fun v => inB v (-1) 40) && ((L.length : Int) == n)
def isTabF (n : Int) (R : List (List Int)) : Bool := R.all (rowOk n) && (decide (1 ≤ n) && decide (n ≤ 5) && decide (R.length ≤ 40))
def modeF (m : Int) : Bool := (m == 0) || (m == 1)
def eqCellF (m a b : Int) : Bool := modeF m && ((a == b) && ((m == 0) || (a != -1)))
def agreeStep (m : Int) (A B : List Int) (x : Int) (c : Nat) : Int := if eqCellF m (nth A c) (nth B c) then uni x (one c) else x
def agreeF (m : Int) (A B : List Int) : Int := (List.range A.length).foldl (agreeStep m A B) 0
theorem rall_take_succ (p : List Int → Bool) (R : List (List Int)) (k : Nat) (hk : k < R.length) : (R.take (k + 1)).all p = ((R.take k).all p && p (row R k)) := by
  rw [List.take_add_one, row_eq hk]; simp
theorem rall_false (p : List Int → Bool) (R : List (List Int)) (k : Nat) (hk : k < R.length) (h : p (row R k) = false) : R.all p = false := by
  rw [List.all_eq_false]
  exact ⟨row R k, row_mem hk, by simp [h]⟩
theorem range_succ_fold {α : Type} (f : α → Nat → α) (z : α) (k : Nat) : (List.range (k + 1)).foldl f z = f ((List.range k).foldl f z) k := by
  rw [List.range_succ, List.foldl_append]; rfl

theorem c_isRow (oa) (cap : Nat) (L : List Int) (n : Int) (w : World) (hL : IntsAt w oa L) :
    Ans Try.prog 124 #[.slice oa L.length cap, .int .i64 n] w (.bool (rowOk n L)) := by
  unfold Ans
  have hn : L.length ≤ 1073741824 := hL.len
  go_enter Try.func124, Try.ntmps124
  go_wp2
  go_loop [9] (fun i => ∃ k : Nat, i = .int .i64 k ∧ k ≤ L.length ∧ (L.take k).all (fun v => inB v (-1) 40) = true) (fun i => L.length - (intOf i).toNat)
  case atStart => exact ⟨0, rfl, Nat.zero_le _, by simp⟩
  case round =>
    obtain ⟨k, rfl, hk, hall⟩ := hrel
    have HA : Hid ((L.take k).all (fun v => inB v (-1) 40) = true) := hall
    clear hall
    by_cases hlt : k < L.length
    · obtain ⟨b, off, rfl, hbs, hc⟩ := hL.at_ (by omega)
      have hc1 := hc k hlt
      have HT : Hid ((L.take (k + 1)).all (fun v => inB v (-1) 40) = ((L.take k).all (fun v => inB v (-1) 40) && inB (nth L k) (-1) 40)) := all_take_succ _ L k hlt
      have HF : Hid (inB (nth L k) (-1) 40 = false → L.all (fun v => inB v (-1) 40) = false) := all_false (fun v => inB v (-1) 40) L k hlt
      clear hc
      generalize nth L k = v at *
      by_cases h1 : v < -1
      · have HX : Hid (inB v (-1) 40 = false) := by show inB v (-1) 40 = false; simp [inB]; omega
        go_wp2
        go_ret
        exact ⟨ret_bool (by unfold rowOk; rw [HF.out HX.out]; rfl), Below.refl _ _⟩
      by_cases h2 : 40 < v
      · have HX : Hid (inB v (-1) 40 = false) := by show inB v (-1) 40 = false; simp [inB]; omega
        go_wp2
        go_ret
        exact ⟨ret_bool (by unfold rowOk; rw [HF.out HX.out]; rfl), Below.refl _ _⟩
      · have HX : Hid (inB v (-1) 40 = true) := by show inB v (-1) 40 = true; simp [inB]; omega
        go_wp2
        go_round
        case rel => exact ⟨k + 1, by go_num, by omega, by rw [HT.out, HA.out, HX.out]; rfl⟩
        case measure => simp [intOf]; omega
    · have hkk : k = L.length := by omega
      have HS : Hid (L.all (fun v => inB v (-1) 40) = true) := by have := HA.out; rw [hkk, List.take_length] at this; exact this
      clear hkk
      go_wp2
      go_ret
      exact ⟨ret_bool (by unfold rowOk; rw [HS.out]; rfl), Below.refl _ _⟩
theorem c_l3Row (oa) (cap : Nat) (L : List Int) (n : Int) (w : World) (hL : IntsAt w oa L) :
    Ans Try.prog 151 #[.slice oa L.length cap, .int .i64 n] w (.bool (rowOk n L)) := by
  unfold Ans
  have hn : L.length ≤ 1073741824 := hL.len
  go_enter Try.func151, Try.ntmps151
  go_wp2
  go_loopw [5] (fun i wr => ∃ k : Nat, i = .int .i64 k ∧ k ≤ L.length ∧ (L.take k).all (fun v => inB v (-1) 40) = true ∧ Below w.heap.size w wr) (fun i _ => L.length - (intOf i).toNat)
  case atStart => exact ⟨0, rfl, Nat.zero_le _, by simp, Below.refl _ _⟩
  case round =>
    obtain ⟨k, rfl, hk, hall, hb⟩ := hrel
    have HA : Hid ((L.take k).all (fun v => inB v (-1) 40) = true) := hall
    clear hall
    by_cases hlt : k < L.length
    · obtain ⟨b, off, rfl, hbs, hc⟩ := hL.at_ (by omega)
      have hc1 := cell_keep (hc k hlt) hb
      have HT : Hid ((L.take (k + 1)).all (fun v => inB v (-1) 40) = ((L.take k).all (fun v => inB v (-1) 40) && inB (nth L k) (-1) 40)) := all_take_succ _ L k hlt
      have HF : Hid (inB (nth L k) (-1) 40 = false → L.all (fun v => inB v (-1) 40) = false) := all_false (fun v => inB v (-1) 40) L k hlt
      clear hc
      generalize nth L k = v at *
      cases hin : inB v (-1) 40
      · go_wp2_with (first | (go_at_call 95; refine Calls.mono (Ans.eqb (c_l1In _ _ _ _) hin) ?_; rintro e w1 ⟨rfl, hbn⟩; replace hb := bel_to (w := w) (by first | exact hb | exact hb.alloc hb.size _ | exact (hb.alloc hb.size _).alloc (Nat.le_trans hb.size (by simp)) _ | exact hb.setCell (by simp [hb.size]) _) hbn; clear hbn))
        go_ret
        exact ⟨ret_bool (by unfold rowOk; rw [HF.out hin]; rfl), hb⟩
      · go_wp2_with (first | (go_at_call 95; refine Calls.mono (Ans.eqb (c_l1In _ _ _ _) hin) ?_; rintro e w1 ⟨rfl, hbn⟩; replace hb := bel_to (w := w) (by first | exact hb | exact hb.alloc hb.size _ | exact (hb.alloc hb.size _).alloc (Nat.le_trans hb.size (by simp)) _ | exact hb.setCell (by simp [hb.size]) _) hbn; clear hbn))
        go_roundw
        case rel => exact ⟨k + 1, by go_num, by omega, by rw [HT.out, HA.out, hin]; rfl, hb⟩
        case measure => simp [intOf]; omega
    · have hkk : k = L.length := by omega
      have HS : Hid (L.all (fun v => inB v (-1) 40) = true) := by have := HA.out; rw [hkk, List.take_length] at this; exact this
      clear hkk
      go_wp2
      go_ret
      exact ⟨ret_bool (by unfold rowOk; rw [HS.out]; rfl), hb⟩
theorem c_isMode (m : Int) (w : World) : Ans Try.prog 80 #[.int .i64 m] w (.bool (modeF m)) := by
  unfold Ans modeF
  go_enter Try.func80, Try.ntmps80
  cases h0 : (m == 0)
  · go_wp2
    go_ret
    exact ⟨rfl, Below.refl _ _⟩
  · go_wp2
    go_ret
    exact ⟨rfl, Below.refl _ _⟩
theorem c_l4Mode (m : Int) (w : World) : Ans Try.prog 122 #[.int .i64 m] w (.bool (modeF m)) := by
  unfold Ans modeF
  go_enter Try.func122, Try.ntmps122
  cases h0 : (m == 0)
  · go_wp2
    go_ret
    exact ⟨rfl, Below.refl _ _⟩
  · go_wp2
    go_ret
    exact ⟨rfl, Below.refl _ _⟩
theorem c_EqualCells (m a b : Int) (w : World) : Ans Try.prog 92 #[.int .i64 m, .int .i64 a, .int .i64 b] w (.bool (eqCellF m a b)) := by
  unfold Ans eqCellF
  have hb := Below.refl w.heap.size w
  go_enter Try.func92, Try.ntmps92
  cases hm : modeF m
  · go_wp2_with (first | (go_at_call 80; refine Calls.mono (Ans.eqb (c_isMode _ _) hm) ?_; rintro e w1 ⟨rfl, hbn⟩; replace hb := bel_to (w := w) (by first | exact hb | exact hb.alloc hb.size _ | exact (hb.alloc hb.size _).alloc (Nat.le_trans hb.size (by simp)) _ | exact hb.setCell (by simp [hb.size]) _) hbn; clear hbn))
    go_ret
    exact ⟨rfl, hb⟩
  · cases hab : (a == b)
    · go_wp2_with (first | (go_at_call 80; refine Calls.mono (Ans.eqb (c_isMode _ _) hm) ?_; rintro e w1 ⟨rfl, hbn⟩; replace hb := bel_to (w := w) (by first | exact hb | exact hb.alloc hb.size _ | exact (hb.alloc hb.size _).alloc (Nat.le_trans hb.size (by simp)) _ | exact hb.setCell (by simp [hb.size]) _) hbn; clear hbn))
      go_ret
      exact ⟨rfl, hb⟩
    · cases h0 : (m == 0)
      · go_wp2_with (first | (go_at_call 80; refine Calls.mono (Ans.eqb (c_isMode _ _) hm) ?_; rintro e w1 ⟨rfl, hbn⟩; replace hb := bel_to (w := w) (by first | exact hb | exact hb.alloc hb.size _ | exact (hb.alloc hb.size _).alloc (Nat.le_trans hb.size (by simp)) _ | exact hb.setCell (by simp [hb.size]) _) hbn; clear hbn))
        go_ret
        exact ⟨rfl, hb⟩
      · go_wp2_with (first | (go_at_call 80; refine Calls.mono (Ans.eqb (c_isMode _ _) hm) ?_; rintro e w1 ⟨rfl, hbn⟩; replace hb := bel_to (w := w) (by first | exact hb | exact hb.alloc hb.size _ | exact (hb.alloc hb.size _).alloc (Nat.le_trans hb.size (by simp)) _ | exact hb.setCell (by simp [hb.size]) _) hbn; clear hbn))
        go_ret
        exact ⟨rfl, hb⟩
theorem c_specEqualCells (m a b : Int) (w : World) : Ans Try.prog 131 #[.int .i64 m, .int .i64 a, .int .i64 b] w (.bool (eqCellF m a b)) := by
  unfold Ans eqCellF
  have hb := Below.refl w.heap.size w
  go_enter Try.func131, Try.ntmps131
  cases hm : modeF m
  · go_wp2_with (first | (go_at_call 122; refine Calls.mono (Ans.eqb (c_l4Mode _ _) hm) ?_; rintro e w1 ⟨rfl, hbn⟩; replace hb := bel_to (w := w) (by first | exact hb | exact hb.alloc hb.size _ | exact (hb.alloc hb.size _).alloc (Nat.le_trans hb.size (by simp)) _ | exact hb.setCell (by simp [hb.size]) _) hbn; clear hbn))
    go_ret
    exact ⟨rfl, hb⟩
  · cases hab : (a == b)
    · go_wp2_with (first | (go_at_call 122; refine Calls.mono (Ans.eqb (c_l4Mode _ _) hm) ?_; rintro e w1 ⟨rfl, hbn⟩; replace hb := bel_to (w := w) (by first | exact hb | exact hb.alloc hb.size _ | exact (hb.alloc hb.size _).alloc (Nat.le_trans hb.size (by simp)) _ | exact hb.setCell (by simp [hb.size]) _) hbn; clear hbn))
      go_ret
      exact ⟨rfl, hb⟩
    · cases h0 : (m == 0)
      · go_wp2_with (first | (go_at_call 122; refine Calls.mono (Ans.eqb (c_l4Mode _ _) hm) ?_; rintro e w1 ⟨rfl, hbn⟩; replace hb := bel_to (w := w) (by first | exact hb | exact hb.alloc hb.size _ | exact (hb.alloc hb.size _).alloc (Nat.le_trans hb.size (by simp)) _ | exact hb.setCell (by simp [hb.size]) _) hbn; clear hbn))
        go_ret
        exact ⟨rfl, hb⟩
      · go_wp2_with (first | (go_at_call 122; refine Calls.mono (Ans.eqb (c_l4Mode _ _) hm) ?_; rintro e w1 ⟨rfl, hbn⟩; replace hb := bel_to (w := w) (by first | exact hb | exact hb.alloc hb.size _ | exact (hb.alloc hb.size _).alloc (Nat.le_trans hb.size (by simp)) _ | exact hb.setCell (by simp [hb.size]) _) hbn; clear hbn))
        go_ret
        exact ⟨rfl, hb⟩
end Go.Proofs.Ytkanbnbofoabeaa
