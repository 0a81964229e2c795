/- Whether a dependency holds in a table, of the program and of the reference. -/
import Derived.Test.YtkanbnbofoabeaaTab4
namespace Go.Proofs.Ytkanbnbofoabeaa
open Go.RowKit
set_option linter.unusedVariables false
set_option maxRecDepth 100000

theorem two_a (w : World) (c1 : Array Value) (T1 : TypeId) (c2 : Array Value) (T2 : TypeId) (j : Nat) (v : Value) (h : c1[j]? = some v) : ((w.alloc (.cells c1 T1)).alloc (.cells c2 T2)).cell? ⟨w.heap.size, j, none⟩ = some v :=
  cell_keep (box_at w c1 T1 j v h) ((Below.refl _ _).alloc (Nat.le_refl _) _)
theorem two_b (w : World) (c1 : Array Value) (T1 : TypeId) (c2 : Array Value) (T2 : TypeId) (j : Nat) (v : Value) (h : c2[j]? = some v) : ((w.alloc (.cells c1 T1)).alloc (.cells c2 T2)).cell? ⟨w.heap.size + 1, j, none⟩ = some v := by
  have := box_at (w.alloc (.cells c1 T1)) c2 T2 j v h
  simpa using this
theorem bel2 (w : World) (o1 o2 : Obj) : Below w.heap.size w ((w.alloc o1).alloc o2) := ((Below.refl w.heap.size w).alloc (Nat.le_refl _) o1).alloc (by simp) o2

def askF (n : Int) (R : List (List Int)) (m l r : Int) : Bool := (isTabF n R && modeF m) && isDepF n l r
def violF (R : List (List Int)) (m l r : Int) (i k : Nat) : Bool := ins l (agreeF m (row R i) (row R k)) && !hasc (agreeF m (row R i) (row R k)) r
def holdsF (R : List (List Int)) (m l r : Int) : Bool := decide (∀ i, i < R.length → ∀ k, k < R.length → i < k → violF R m l r i k = false)
theorem holdsF_no {R : List (List Int)} {m l r : Int} {i k : Nat} (hik : i < k) (hk : k < R.length) (h : violF R m l r i k = true) : holdsF R m l r = false := by
  unfold holdsF
  rw [decide_eq_false_iff_not]
  intro H
  have := H i (by omega) k hk hik
  rw [h] at this
  cases this
theorem dep_of {n l r : Int} (h : isDepF n l r = true) (h5 : n ≤ 5) : St l ∧ Co r := by
  unfold isDepF at h
  simp only [Bool.and_eq_true, decide_eq_true_eq] at h
  obtain ⟨⟨⟨h1, h2⟩, h3⟩, h4⟩ := h
  unfold isAttr at h2
  simp only [Bool.and_eq_true, decide_eq_true_eq] at h2
  have hp := (pow_wrap (n := n) (by omega) h5).2.1
  exact ⟨⟨h2.1.2, by omega⟩, ⟨h3, by omega⟩⟩
theorem agreeStep_st {m : Int} {A B : List Int} {x : Int} {c : Nat} (hx : St x) (hc : c < 5) : St (agreeStep m A B x c) := by
  unfold agreeStep
  split
  · exact uni_st hx (one_st ⟨by omega, by omega⟩)
  · exact hx
theorem agreeF_st {m : Int} {A B : List Int} (h : A.length ≤ 5) : St (agreeF m A B) := by
  have : ∀ k, k ≤ 5 → St ((List.range k).foldl (agreeStep m A B) 0) := by
    intro k
    induction k with
    | zero => intro _; exact ⟨by simp, by simp⟩
    | succ k ih => intro hk; rw [range_succ_fold]; exact agreeStep_st (ih (by omega)) (by omega)
  exact this _ h

theorem c_asked (n : Int) (oa) (cap : Nat) (R : List (List Int)) (m l r : Int) (w : World) (hR : RowsAt w oa R) :
    Ans Try.prog 91 #[.agg #[.int .i64 n, .slice oa R.length cap], .int .i64 m, .agg #[.int .i64 l, .int .i64 r]] w (.bool (askF n R m l r)) := by
  unfold Ans askF
  have hb := bel2 w (.cells #[.int .i64 n, .slice oa R.length cap] 28) (.cells #[.int .i64 l, .int .i64 r] 33)
  have a0 := two_a w #[.int .i64 n, .slice oa R.length cap] 28 #[.int .i64 l, .int .i64 r] 33 0 _ rfl
  have d0 := two_b w #[.int .i64 n, .slice oa R.length cap] 28 #[.int .i64 l, .int .i64 r] 33 0 _ rfl
  have d1 := two_b w #[.int .i64 n, .slice oa R.length cap] 28 #[.int .i64 l, .int .i64 r] 33 1 _ rfl
  go_enter Try.func91, Try.ntmps91
  cases ht : isTabF n R
  · go_wp2_with (first | (go_at_call 79; refine Calls.mono (Ans.eqb (c_IsTable _ _ _ _ _ (hR.keep hb)) ht) ?_; rintro e w1 ⟨rfl, hbn⟩; replace a0 := cell_keep a0 hbn; replace d0 := cell_keep d0 hbn; replace d1 := cell_keep d1 hbn; replace hb := bel_to (w := w) (by first | exact hb | exact hb.alloc hb.size _ | exact (hb.alloc hb.size _).alloc (Nat.le_trans hb.size (by simp)) _ | exact hb.setCell (by simp [hb.size]) _) hbn; clear hbn))
    go_ret
    exact ⟨rfl, hb⟩
  · cases hm : modeF m
    · go_wp2_with (first | (go_at_call 79; refine Calls.mono (Ans.eqb (c_IsTable _ _ _ _ _ (hR.keep hb)) ht) ?_; rintro e w1 ⟨rfl, hbn⟩; replace a0 := cell_keep a0 hbn; replace d0 := cell_keep d0 hbn; replace d1 := cell_keep d1 hbn; replace hb := bel_to (w := w) (by first | exact hb | exact hb.alloc hb.size _ | exact (hb.alloc hb.size _).alloc (Nat.le_trans hb.size (by simp)) _ | exact hb.setCell (by simp [hb.size]) _) hbn; clear hbn) | (go_at_call 80; refine Calls.mono (Ans.eqb (c_isMode _ _) hm) ?_; rintro e w1 ⟨rfl, hbn⟩; replace a0 := cell_keep a0 hbn; replace d0 := cell_keep d0 hbn; replace d1 := cell_keep d1 hbn; replace hb := bel_to (w := w) (by first | exact hb | exact hb.alloc hb.size _ | exact (hb.alloc hb.size _).alloc (Nat.le_trans hb.size (by simp)) _ | exact hb.setCell (by simp [hb.size]) _) hbn; clear hbn))
      go_ret
      exact ⟨rfl, hb⟩
    · go_wp2_with (first | (go_at_call 79; refine Calls.mono (Ans.eqb (c_IsTable _ _ _ _ _ (hR.keep hb)) ht) ?_; rintro e w1 ⟨rfl, hbn⟩; replace a0 := cell_keep a0 hbn; replace d0 := cell_keep d0 hbn; replace d1 := cell_keep d1 hbn; replace hb := bel_to (w := w) (by first | exact hb | exact hb.alloc hb.size _ | exact (hb.alloc hb.size _).alloc (Nat.le_trans hb.size (by simp)) _ | exact hb.setCell (by simp [hb.size]) _) hbn; clear hbn) | (go_at_call 80; refine Calls.mono (Ans.eqb (c_isMode _ _) hm) ?_; rintro e w1 ⟨rfl, hbn⟩; replace a0 := cell_keep a0 hbn; replace d0 := cell_keep d0 hbn; replace d1 := cell_keep d1 hbn; replace hb := bel_to (w := w) (by first | exact hb | exact hb.alloc hb.size _ | exact (hb.alloc hb.size _).alloc (Nat.le_trans hb.size (by simp)) _ | exact hb.setCell (by simp [hb.size]) _) hbn; clear hbn) | (go_at_call 67; refine Calls.mono (c_isDep _ _ _ _) ?_; rintro e w1 ⟨rfl, hbn⟩; replace a0 := cell_keep a0 hbn; replace d0 := cell_keep d0 hbn; replace d1 := cell_keep d1 hbn; replace hb := bel_to (w := w) (by first | exact hb | exact hb.alloc hb.size _ | exact (hb.alloc hb.size _).alloc (Nat.le_trans hb.size (by simp)) _ | exact hb.setCell (by simp [hb.size]) _) hbn; clear hbn))
      go_ret
      exact ⟨rfl, hb⟩

set_option maxHeartbeats 1600000 in
theorem c_WitnessOf (n : Int) (oa) (cap : Nat) (R : List (List Int)) (m l r : Int) (w : World) (hR : RowsAt w oa R) :
    Calls Try.prog 155 #[.agg #[.int .i64 n, .slice oa R.length cap], .int .i64 m, .agg #[.int .i64 l, .int .i64 r]] w fun e w' => (∃ x y : Int, e = .returned (.tuple #[.int .i64 x, .int .i64 y, .bool (askF n R m l r && !holdsF R m l r)])) ∧ Below w.heap.size w w' := by
  have hb := bel2 w (.cells #[.int .i64 n, .slice oa R.length cap] 28) (.cells #[.int .i64 l, .int .i64 r] 33)
  have a0 := two_a w #[.int .i64 n, .slice oa R.length cap] 28 #[.int .i64 l, .int .i64 r] 33 0 _ rfl
  have a1 := two_a w #[.int .i64 n, .slice oa R.length cap] 28 #[.int .i64 l, .int .i64 r] 33 1 _ rfl
  have d0 := two_b w #[.int .i64 n, .slice oa R.length cap] 28 #[.int .i64 l, .int .i64 r] 33 0 _ rfl
  have d1 := two_b w #[.int .i64 n, .slice oa R.length cap] 28 #[.int .i64 l, .int .i64 r] 33 1 _ rfl
  cases hask : askF n R m l r
  · go_enter Try.func155, Try.ntmps155
    go_wp2_with (first | (go_at_call 91; refine Calls.mono (Ans.eqb (c_asked _ _ _ _ _ _ _ _ (hR.keep hb)) hask) ?_; rintro e w1 ⟨rfl, hbn⟩; replace a0 := cell_keep a0 hbn; replace a1 := cell_keep a1 hbn; replace d0 := cell_keep d0 hbn; replace d1 := cell_keep d1 hbn; replace hb := bel_to (w := w) (by first | exact hb | exact hb.alloc hb.size _ | exact (hb.alloc hb.size _).alloc (Nat.le_trans hb.size (by simp)) _ | exact hb.setCell (by simp [hb.size]) _) hbn; clear hbn))
    go_ret3
    exact ⟨⟨_, _, rfl⟩, hb⟩
  · have hk := hask
    unfold askF at hk
    simp only [Bool.and_eq_true] at hk
    obtain ⟨⟨ht, hm⟩, hd⟩ := hk
    obtain ⟨hn1, hn5, hr40, hlen⟩ := isTab_of ht
    obtain ⟨hsl, hcr⟩ := dep_of hd hn5
    have hcr64 : 0 ≤ r ∧ r < 64 := ⟨hcr.1, by have := hcr.2; omega⟩
    have HL : Hid (∀ k, k < R.length → ((row R k).length : Int) = n) := hlen
    have HH : Hid ((∀ i, i < R.length → ∀ k, k < R.length → i < k → violF R m l r i k = false) → holdsF R m l r = true) := fun h => decide_eq_true h
    have HN : Hid (∀ i k, i < k → k < R.length → violF R m l r i k = true → holdsF R m l r = false) := fun i k h1 h2 h3 => holdsF_no h1 h2 h3
    clear hm ht hlen hcr hd
    go_enter Try.func155, Try.ntmps155
    go_wp2_with (first | (go_at_call 91; refine Calls.mono (Ans.eqb (c_asked _ _ _ _ _ _ _ _ (hR.keep hb)) hask) ?_; rintro e w1 ⟨rfl, hbn⟩; replace a0 := cell_keep a0 hbn; replace a1 := cell_keep a1 hbn; replace d0 := cell_keep d0 hbn; replace d1 := cell_keep d1 hbn; replace hb := bel_to (w := w) (by first | exact hb | exact hb.alloc hb.size _ | exact (hb.alloc hb.size _).alloc (Nat.le_trans hb.size (by simp)) _ | exact hb.setCell (by simp [hb.size]) _) hbn; clear hbn))
    go_loopw [21] (fun i wr => ∃ k : Nat, i = .int .i64 k ∧ k ≤ R.length ∧ (∀ i, i < k → ∀ k, k < R.length → i < k → violF R m l r i k = false) ∧ wr.cell? ⟨w.heap.size, 1, none⟩ = some (.slice oa R.length cap) ∧ wr.cell? ⟨w.heap.size + 1, 0, none⟩ = some (.int .i64 l) ∧ wr.cell? ⟨w.heap.size + 1, 1, none⟩ = some (.int .i64 r) ∧ Below w.heap.size w wr) (fun i _ => R.length - (intOf i).toNat)
    case atStart => exact ⟨0, rfl, Nat.zero_le _, fun i hi => absurd hi (by omega), a1, d0, d1, hb⟩
    case round =>
      clear a0 a1 d0 d1 hb
      obtain ⟨i, rfl, hi, hall, a1, d0, d1, hb⟩ := hrel
      have HA : Hid (∀ i', i' < i → ∀ k, k < R.length → i' < k → violF R m l r i' k = false) := hall
      clear hall
      by_cases hlt : i < R.length
      · obtain ⟨b, off, rfl, hbs, hca⟩ := hR.at_ (by omega)
        obtain ⟨o1, c1, e1, r1⟩ := hca i hlt
        have hc1 := cell_keep e1 hb
        have HC : Hid (∀ k, k < R.length → ∃ o c, w.cell? ⟨b, off + k, none⟩ = some (.slice o (row R k).length c) ∧ IntsAt w o (row R k)) := hca
        clear hca e1
        go_wp2
        go_loopw [11] (fun i' wr => ∃ k : Nat, i' = .int .i64 k ∧ i < k ∧ k ≤ R.length ∧ (∀ k', k' < k → i < k' → violF R m l r i k' = false) ∧ wr.cell? ⟨w.heap.size, 1, none⟩ = some (.slice (some ⟨b, off, none⟩) R.length cap) ∧ wr.cell? ⟨w.heap.size + 1, 0, none⟩ = some (.int .i64 l) ∧ wr.cell? ⟨w.heap.size + 1, 1, none⟩ = some (.int .i64 r) ∧ Below w.heap.size w wr) (fun i _ => R.length - (intOf i).toNat)
        case atStart => exact ⟨i + 1, by go_num, by omega, by omega, fun k' h1 h2 => absurd h1 (by omega), a1, d0, d1, hb⟩
        case round =>
          clear a1 d0 d1 hb hc1
          obtain ⟨k, rfl, hik, hk, hall, a1, d0, d1, hb⟩ := hrel
          have HI : Hid (∀ k', k' < k → i < k' → violF R m l r i k' = false) := hall
          clear hall
          by_cases hlk : k < R.length
          · obtain ⟨o2, c2, e2, r2⟩ := HC.out k hlk
            have hc2 := cell_keep e2 hb
            have hA5 : (row R i).length ≤ 5 := by have := HL.out i hlt; omega
            have hAB : Hid ((row R k).length = (row R i).length) := by have h1 := HL.out i hlt; have h2 := HL.out k hlk; show (row R k).length = (row R i).length; omega
            have HV : Hid (violF R m l r i k = (ins l (agreeF m (row R i) (row R k)) && !hasc (agreeF m (row R i) (row R k)) r)) := rfl
            clear e2
            go_wp2_with fail
            refine Calls.mono (c_agree m _ _ _ _ _ _ _ (r1.keep hb) (r2.keep hb) hA5 hAB.out) ?_
            rintro e w1 ⟨rfl, hbn⟩
            replace a1 := cell_keep a1 hbn
            replace d0 := cell_keep d0 hbn
            replace d1 := cell_keep d1 hbn
            replace hb := bel_to hb hbn
            clear hbn hc2 hAB hA5
            generalize agreeF m (row R i) (row R k) = x at *
            cases h1 : ins l x
            · go_wp2_with (first | (go_at_call 119; refine Calls.mono (Ans.eqb (c_inside _ _ _) h1) ?_; rintro e w1 ⟨rfl, hbn⟩; replace a1 := cell_keep a1 hbn; replace d0 := cell_keep d0 hbn; replace d1 := cell_keep d1 hbn; replace hb := bel_to (w := w) (by first | exact hb | exact hb.alloc hb.size _ | exact (hb.alloc hb.size _).alloc (Nat.le_trans hb.size (by simp)) _ | exact hb.setCell (by simp [hb.size]) _) hbn; clear hbn))
              go_roundw
              case rel => exact ⟨k + 1, by go_num, by omega, by omega, lt_step (p := fun k' => i < k' → violF R m l r i k' = false) HI.out (fun _ => by rw [HV.out, h1]; rfl), a1, d0, d1, hb⟩
              case measure => simp [intOf]; omega
            · cases h2 : hasc x r
              · go_wp2_with (first | (go_at_call 119; refine Calls.mono (Ans.eqb (c_inside _ _ _) h1) ?_; rintro e w1 ⟨rfl, hbn⟩; replace a1 := cell_keep a1 hbn; replace d0 := cell_keep d0 hbn; replace d1 := cell_keep d1 hbn; replace hb := bel_to (w := w) (by first | exact hb | exact hb.alloc hb.size _ | exact (hb.alloc hb.size _).alloc (Nat.le_trans hb.size (by simp)) _ | exact hb.setCell (by simp [hb.size]) _) hbn; clear hbn) | (go_at_call 118; refine Calls.mono (Ans.eqb (c_has _ _ hcr64 _) h2) ?_; rintro e w1 ⟨rfl, hbn⟩; replace a1 := cell_keep a1 hbn; replace d0 := cell_keep d0 hbn; replace d1 := cell_keep d1 hbn; replace hb := bel_to (w := w) (by first | exact hb | exact hb.alloc hb.size _ | exact (hb.alloc hb.size _).alloc (Nat.le_trans hb.size (by simp)) _ | exact hb.setCell (by simp [hb.size]) _) hbn; clear hbn))
                go_ret3
                exact ⟨⟨_, _, by rw [HN.out i k hik hlk (by rw [HV.out, h1, h2]; rfl)]; rfl⟩, hb⟩
              · go_wp2_with (first | (go_at_call 119; refine Calls.mono (Ans.eqb (c_inside _ _ _) h1) ?_; rintro e w1 ⟨rfl, hbn⟩; replace a1 := cell_keep a1 hbn; replace d0 := cell_keep d0 hbn; replace d1 := cell_keep d1 hbn; replace hb := bel_to (w := w) (by first | exact hb | exact hb.alloc hb.size _ | exact (hb.alloc hb.size _).alloc (Nat.le_trans hb.size (by simp)) _ | exact hb.setCell (by simp [hb.size]) _) hbn; clear hbn) | (go_at_call 118; refine Calls.mono (Ans.eqb (c_has _ _ hcr64 _) h2) ?_; rintro e w1 ⟨rfl, hbn⟩; replace a1 := cell_keep a1 hbn; replace d0 := cell_keep d0 hbn; replace d1 := cell_keep d1 hbn; replace hb := bel_to (w := w) (by first | exact hb | exact hb.alloc hb.size _ | exact (hb.alloc hb.size _).alloc (Nat.le_trans hb.size (by simp)) _ | exact hb.setCell (by simp [hb.size]) _) hbn; clear hbn))
                go_roundw
                case rel => exact ⟨k + 1, by go_num, by omega, by omega, lt_step (p := fun k' => i < k' → violF R m l r i k' = false) HI.out (fun _ => by rw [HV.out, h1, h2]; rfl), a1, d0, d1, hb⟩
                case measure => simp [intOf]; omega
          · have HI2 : Hid (∀ k', k' < R.length → i < k' → violF R m l r i k' = false) := fun k' h1 h2 => HI.out k' (by omega) h2
            go_wp2
            go_roundw
            case rel => exact ⟨i + 1, by go_num, by omega, lt_step (p := fun i => ∀ k, k < R.length → i < k → violF R m l r i k = false) HA.out HI2.out, a1, d0, d1, hb⟩
            case measure => simp [intOf]; omega
      · have HE : Hid (holdsF R m l r = true) := HH.out fun i' h1 => HA.out i' (by omega)
        go_wp2
        go_ret3
        exact ⟨⟨_, _, by rw [HE.out]; rfl⟩, hb⟩
theorem c_HoldsDep (n : Int) (oa) (cap : Nat) (R : List (List Int)) (m l r : Int) (w : World) (hR : RowsAt w oa R) :
    Ans Try.prog 135 #[.agg #[.int .i64 n, .slice oa R.length cap], .int .i64 m, .agg #[.int .i64 l, .int .i64 r]] w (.bool (askF n R m l r && holdsF R m l r)) := by
  unfold Ans
  have hb := bel2 w (.cells #[.int .i64 n, .slice oa R.length cap] 28) (.cells #[.int .i64 l, .int .i64 r] 33)
  have a0 := two_a w #[.int .i64 n, .slice oa R.length cap] 28 #[.int .i64 l, .int .i64 r] 33 0 _ rfl
  have a1 := two_a w #[.int .i64 n, .slice oa R.length cap] 28 #[.int .i64 l, .int .i64 r] 33 1 _ rfl
  have d0 := two_b w #[.int .i64 n, .slice oa R.length cap] 28 #[.int .i64 l, .int .i64 r] 33 0 _ rfl
  have d1 := two_b w #[.int .i64 n, .slice oa R.length cap] 28 #[.int .i64 l, .int .i64 r] 33 1 _ rfl
  have hW := c_WitnessOf n oa cap R m l r _ (hR.keep hb)
  have HK := fun (w' : World) (h : RowsAt w' oa R) => c_asked n oa cap R m l r w' h
  cases hask : askF n R m l r <;> cases hh : holdsF R m l r <;> rw [hask, hh] at hW <;> (
    go_enter Try.func135, Try.ntmps135
    go_wp2_with fail
    refine hW.mono ?_
    rintro e w1 ⟨⟨x, y, rfl⟩, hbn⟩
    replace a0 := cell_keep a0 hbn
    replace a1 := cell_keep a1 hbn
    replace d0 := cell_keep d0 hbn
    replace d1 := cell_keep d1 hbn
    replace hb := bel_to hb hbn
    clear hbn
    go_wp2_with (first | (go_at_call 91; refine Calls.mono (Ans.eqb (HK _ (hR.keep hb)) hask) ?_; rintro e w1 ⟨rfl, hbn⟩; replace a0 := cell_keep a0 hbn; replace a1 := cell_keep a1 hbn; replace d0 := cell_keep d0 hbn; replace d1 := cell_keep d1 hbn; replace hb := bel_to (w := w) (by first | exact hb | exact hb.alloc hb.size _ | exact (hb.alloc hb.size _).alloc (Nat.le_trans hb.size (by simp)) _ | exact hb.setCell (by simp [hb.size]) _) hbn; clear hbn))
    go_ret
    exact ⟨rfl, hb⟩)
end Go.Proofs.Ytkanbnbofoabeaa
