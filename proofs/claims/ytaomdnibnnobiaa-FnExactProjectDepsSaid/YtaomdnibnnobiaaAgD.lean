/- DepsOfAgreeSets, of the program. -/
import Derived.Test.YtaomdnibnnobiaaMinD
import Derived.Test.YtaomdnibnnobiaaConv
namespace Go.Proofs.Ytaomdnibnnobiaa
open Go.RowKit
set_option linter.unusedVariables false
set_option maxRecDepth 100000

def agOk (L : List Int) (x r : Int) : Bool := L.all fun y => !(ins x y && !hasc y r)
def depsAOk (n : Int) (L : List Int) : Bool := (decide (1 ≤ n) && decide (n ≤ 5)) && L.all (isAttr n)
def depsAF (n : Int) (L : List Int) : List (Int × Int) := if depsAOk n L then colsF (agOk L) (partsF n) n.toNat else []
theorem depsA_len (n : Int) (L : List Int) : (depsAF n L).length ≤ Room := by
  unfold depsAF
  split
  · next h =>
    unfold depsAOk at h
    simp only [Bool.and_eq_true, decide_eq_true_eq] at h
    have a := colsF_len (agOk L) (partsF n) n.toNat
    have b := partsF_len n
    have c : (partsF n).length * n.toNat ≤ 32 * 5 := Nat.mul_le_mul b (by omega)
    unfold Room; omega
  · simp
theorem c_closA (oa) (cap : Nat) (L : List Int) (x r : Int) (B : Nat) (w : World) (hL : IntsAt w oa L) (hr : 0 ≤ r ∧ r < 64) (a0 : w.cell? ⟨B, 0, none⟩ = some (.slice oa L.length cap)) :
    Ans Try.prog 46 #[.agg #[.int .i64 x, .int .i64 r], .pointer (some ⟨B, 0, none⟩)] w (.bool (agOk L x r)) := by
  unfold Ans
  have hn : L.length ≤ 1073741824 := hL.len
  have hb := (Below.refl w.heap.size w).alloc (Nat.le_refl _) (.cells #[.int .i64 x, .int .i64 r] 54)
  have b0 := cell_al a0 (.cells #[.int .i64 x, .int .i64 r] 54)
  have d0 := box_at w #[.int .i64 x, .int .i64 r] 54 0 _ rfl
  have d1 := box_at w #[.int .i64 x, .int .i64 r] 54 1 _ rfl
  go_enter Try.func46, Try.ntmps46
  go_wp2
  go_loopw [8] (fun i wr => ∃ k : Nat, i = .int .i64 k ∧ k ≤ L.length ∧ (L.take k).all (fun y => !(ins x y && !hasc y r)) = true ∧ wr.cell? ⟨w.heap.size, 0, none⟩ = some (.int .i64 x) ∧ wr.cell? ⟨w.heap.size, 1, none⟩ = some (.int .i64 r) ∧ Below w.heap.size w wr) (fun i _ => L.length - (intOf i).toNat)
  case atStart => exact ⟨0, rfl, Nat.zero_le _, by simp, d0, d1, hb⟩
  case round =>
    clear b0 d0 d1 hb
    obtain ⟨k, rfl, hk, hall, d0, d1, hb⟩ := hrel
    have HA : Hid ((L.take k).all (fun y => !(ins x y && !hasc y r)) = true) := hall
    clear hall
    by_cases hlt : k < L.length
    · obtain ⟨b, off, rfl, hbs, hc⟩ := hL.at_ (by omega)
      have hc1 := cell_keep (hc k hlt) hb
      have HT : Hid ((L.take (k + 1)).all (fun y => !(ins x y && !hasc y r)) = ((L.take k).all (fun y => !(ins x y && !hasc y r)) && !(ins x (nth L k) && !hasc (nth L k) r))) := all_take_succ (fun y => !(ins x y && !hasc y r)) L k hlt
      have HF : Hid ((!(ins x (nth L k) && !hasc (nth L k) r)) = false → agOk L x r = false) := all_false (fun y => !(ins x y && !hasc y r)) L k hlt
      clear hc
      generalize nth L k = y at *
      cases h1 : ins x y
      · go_wp2_with (first | (go_at_call 47; refine Calls.mono (Ans.eqb (c_inside _ _ _) h1) ?_; rintro e w1 ⟨rfl, hbn⟩; replace d0 := cell_keep d0 hbn; replace d1 := cell_keep d1 hbn; replace hb := bel_to (w := w) (by first | exact hb | exact hb.alloc hb.size _ | exact (hb.alloc hb.size _).alloc (Nat.le_trans hb.size (by simp)) _ | exact hb.setCell (by simp [hb.size]) _) hbn; clear hbn))
        go_roundw
        case rel => exact ⟨k + 1, by go_num, by omega, by rw [HT.out, HA.out, h1]; rfl, d0, d1, hb⟩
        case measure => simp [intOf]; omega
      · cases h2 : hasc y r
        · go_wp2_with (first | (go_at_call 47; refine Calls.mono (Ans.eqb (c_inside _ _ _) h1) ?_; rintro e w1 ⟨rfl, hbn⟩; replace d0 := cell_keep d0 hbn; replace d1 := cell_keep d1 hbn; replace hb := bel_to (w := w) (by first | exact hb | exact hb.alloc hb.size _ | exact (hb.alloc hb.size _).alloc (Nat.le_trans hb.size (by simp)) _ | exact hb.setCell (by simp [hb.size]) _) hbn; clear hbn) | (go_at_call 48; refine Calls.mono (Ans.eqb (c_has _ _ hr _) h2) ?_; rintro e w1 ⟨rfl, hbn⟩; replace d0 := cell_keep d0 hbn; replace d1 := cell_keep d1 hbn; replace hb := bel_to (w := w) (by first | exact hb | exact hb.alloc hb.size _ | exact (hb.alloc hb.size _).alloc (Nat.le_trans hb.size (by simp)) _ | exact hb.setCell (by simp [hb.size]) _) hbn; clear hbn))
          go_ret
          exact ⟨ret_bool (HF.out (by rw [h1, h2]; rfl)).symm, hb⟩
        · go_wp2_with (first | (go_at_call 47; refine Calls.mono (Ans.eqb (c_inside _ _ _) h1) ?_; rintro e w1 ⟨rfl, hbn⟩; replace d0 := cell_keep d0 hbn; replace d1 := cell_keep d1 hbn; replace hb := bel_to (w := w) (by first | exact hb | exact hb.alloc hb.size _ | exact (hb.alloc hb.size _).alloc (Nat.le_trans hb.size (by simp)) _ | exact hb.setCell (by simp [hb.size]) _) hbn; clear hbn) | (go_at_call 48; refine Calls.mono (Ans.eqb (c_has _ _ hr _) h2) ?_; rintro e w1 ⟨rfl, hbn⟩; replace d0 := cell_keep d0 hbn; replace d1 := cell_keep d1 hbn; replace hb := bel_to (w := w) (by first | exact hb | exact hb.alloc hb.size _ | exact (hb.alloc hb.size _).alloc (Nat.le_trans hb.size (by simp)) _ | exact hb.setCell (by simp [hb.size]) _) hbn; clear hbn))
          go_roundw
          case rel => exact ⟨k + 1, by go_num, by omega, by rw [HT.out, HA.out, h1, h2]; rfl, d0, d1, hb⟩
          case measure => simp [intOf]; omega
    · have hkk : k = L.length := by omega
      have HS : Hid (agOk L x r = true) := by have := HA.out; rw [hkk, List.take_length] at this; exact this
      clear hkk
      go_wp2
      go_ret
      exact ⟨ret_bool HS.out.symm, hb⟩
theorem ownD_nil (w : World) (base : Nat) : OwnD w base (.slice none 0 0) [] := ⟨rfl, Or.inl ⟨rfl, rfl⟩⟩
set_option maxHeartbeats 800000 in
theorem c_DepsOfAgreeSets (n : Int) (oa) (cap : Nat) (L : List Int) (w : World) (hL : IntsAt w oa L) :
    Calls Try.prog 13 #[.int .i64 n, .slice oa L.length cap] w fun e w' => ∃ v, e = .returned v ∧ OwnD w' w.heap.size v (depsAF n L) ∧ Below w.heap.size w w' := by
  have hn : L.length ≤ 1073741824 := hL.len
  have hb := (Below.refl w.heap.size w).alloc (Nat.le_refl _) (.cells #[.slice oa L.length cap] 22)
  have a0 := box_at w #[.slice oa L.length cap] 22 0 _ rfl
  by_cases h1 : 1 ≤ n
  case neg =>
    have HM : Hid (depsAF n L = []) := by show depsAF n L = []; unfold depsAF depsAOk; rw [decide_eq_false h1]; rfl
    go_enter Try.func13, Try.ntmps13
    go_wp2
    go_ret
    exact ⟨_, rfl, by rw [HM.out]; exact ownD_nil _ _, hb⟩
  by_cases h5 : n ≤ 5
  case neg =>
    have HM : Hid (depsAF n L = []) := by show depsAF n L = []; unfold depsAF depsAOk; rw [decide_eq_false h5]; simp
    go_enter Try.func13, Try.ntmps13
    go_wp2
    go_ret
    exact ⟨_, rfl, by rw [HM.out]; exact ownD_nil _ _, hb⟩
  obtain ⟨N, rfl⟩ := Int.eq_ofNat_of_zero_le (show 0 ≤ n by omega)
  have hN5 : N ≤ 5 := by omega
  have HT : Hid (L.all (isAttr N) = true → depsAF N L = colsF (agOk L) (partsF N) N) := fun h => by unfold depsAF depsAOk; rw [h, decide_eq_true h1, decide_eq_true h5, Int.toNat_natCast]; rfl
  have HN : Hid (L.all (isAttr N) = false → depsAF N L = []) := fun h => by unfold depsAF depsAOk; rw [h]; simp
  go_enter Try.func13, Try.ntmps13
  go_wp2
  go_loopw [15] (fun i wr => ∃ k : Nat, i = .int .i64 k ∧ k ≤ L.length ∧ (L.take k).all (isAttr N) = true ∧ wr.cell? ⟨w.heap.size, 0, none⟩ = some (.slice oa L.length cap) ∧ Below w.heap.size w wr) (fun i _ => L.length - (intOf i).toNat)
  case atStart => exact ⟨0, rfl, Nat.zero_le _, by simp, a0, hb⟩
  case round =>
    clear a0 hb
    obtain ⟨k, rfl, hk, hall, a0, hb⟩ := hrel
    have HA : Hid ((L.take k).all (isAttr N) = true) := hall
    clear hall
    by_cases hlt : k < L.length
    · obtain ⟨b, off, rfl, hbs, hc⟩ := hL.at_ (by omega)
      have hc1 := cell_keep (hc k hlt) hb
      have HS : Hid ((L.take (k + 1)).all (isAttr N) = ((L.take k).all (isAttr N) && isAttr N (nth L k))) := all_take_succ _ L k hlt
      have HF : Hid (isAttr N (nth L k) = false → L.all (isAttr N) = false) := all_false _ L k hlt
      clear hc
      generalize nth L k = x at *
      cases hst : isAttr N x
      · go_wp2_with (first | (go_at_call 44; refine Calls.mono (Ans.eqb (c_isAttributes _ _ _) hst) ?_; rintro e w1 ⟨rfl, hbn⟩; replace a0 := cell_keep a0 hbn; replace hb := bel_to (w := w) (by first | exact hb | exact hb.alloc hb.size _ | exact (hb.alloc hb.size _).alloc (Nat.le_trans hb.size (by simp)) _ | exact hb.setCell (by simp [hb.size]) _) hbn; clear hbn))
        go_ret
        exact ⟨_, rfl, by rw [HN.out (HF.out hst)]; exact ownD_nil _ _, hb⟩
      · go_wp2_with (first | (go_at_call 44; refine Calls.mono (Ans.eqb (c_isAttributes _ _ _) hst) ?_; rintro e w1 ⟨rfl, hbn⟩; replace a0 := cell_keep a0 hbn; replace hb := bel_to (w := w) (by first | exact hb | exact hb.alloc hb.size _ | exact (hb.alloc hb.size _).alloc (Nat.le_trans hb.size (by simp)) _ | exact hb.setCell (by simp [hb.size]) _) hbn; clear hbn))
        go_roundw
        case rel => exact ⟨k + 1, by go_num, by omega, by rw [HS.out, HA.out, hst]; rfl, a0, hb⟩
        case measure => simp [intOf]; omega
    · have hkk : k = L.length := by omega
      have HM : Hid (depsAF N L = colsF (agOk L) (partsF N) N) := HT.out (by have := HA.out; rw [hkk, List.take_length] at this; exact this)
      clear hkk
      go_wp2_with fail
      refine (c_minimalDeps_A N hN5 _ (agOk L) _ ?_).mono ?_
      · intro W x r hst hr hx2 hB
        exact c_closA oa cap L x r _ W ((hL.keep hb).keep hB) (by omega) (cell_keep a0 hB)
      rintro e w2 ⟨v2, rfl, hO, hbn⟩
      replace hO := hO.based hb.size
      replace hb := bel_to hb hbn
      clear hbn
      go_wp2
      go_ret
      exact ⟨_, rfl, by rw [HM.out]; exact hO, hb⟩
end Go.Proofs.Ytaomdnibnnobiaa
