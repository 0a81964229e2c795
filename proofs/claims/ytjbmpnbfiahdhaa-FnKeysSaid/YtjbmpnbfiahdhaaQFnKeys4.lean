/- Contracts and lemmas for FnKeys, part 4 of 6. -/
import Derived.Test.YtjbmpnbfiahdhaaQFnKeys1
import Derived.Test.YtjbmpnbfiahdhaaQFnKeys2
import Derived.Test.YtjbmpnbfiahdhaaQFnKeys3
import Derived.ProofKit
import Derived.OpenShut
import Derived.Lib.SmallJoins
import Derived.Laws.AppendOwnNone
import Derived.Outline
import Derived.Deep.RegionHeld3
import Derived.Deep.AppendLies
import Derived.BigRegion
import Derived.RegionTactic
import Derived.Deep.SlicePairs
import Derived.Deep.Matrix
namespace Go.Proofs.Ytjbmpnbfiahdhaa
open Go.RowKit
set_option linter.unusedVariables false
set_option maxRecDepth 100000

def uniqF (n : Int) (R : List (List Int)) (m s : Int) : Bool := ptnOk n R m s && ((ptnQ (sameB R m s) R.length R.length).length == 0)
theorem ptnF_ok {n : Int} {R : List (List Int)} {m s : Int} (h : ptnOk n R m s = true) : ptnF n R m s = ptnQ (sameB R m s) R.length R.length := by unfold ptnF; rw [if_pos h]
set_option maxHeartbeats 800000 in
theorem c_IsUnique (n : Int) (oa) (cap : Nat) (R : List (List Int)) (m s : Int) (w : World) (hR : RowsAt w oa R) :
    Ans Try.prog 77 #[.agg #[.int .i64 n, .slice oa R.length cap], .int .i64 m, .int .i64 s] w (.bool (uniqF n R m s)) := by
  unfold Ans
  have hb := (Below.refl w.heap.size w).alloc (Nat.le_refl _) (.cells #[.int .i64 n, .slice oa R.length cap] 26)
  have a0 := box_at w #[.int .i64 n, .slice oa R.length cap] 26 0 _ rfl
  have a1 := box_at w #[.int .i64 n, .slice oa R.length cap] 26 1 _ rfl
  cases h1 : isTabF n R
  · have HM : Hid (uniqF n R m s = false) := by show uniqF n R m s = false; unfold uniqF ptnOk; rw [h1]; rfl
    go_enter Try.func77, Try.ntmps77
    go_wp2_with (first | (go_at_call 67; refine Calls.mono (Ans.eqb (c_IsTable _ _ _ _ _ (hR.keep hb)) h1) ?_; rintro e w1 ⟨rfl, hbn⟩; replace a0 := cell_keep a0 hbn; replace a1 := cell_keep a1 hbn; replace hb := bel_to (w := w) (by first | exact hb | exact hb.alloc hb.size _ | exact (hb.alloc hb.size _).alloc (Nat.le_trans hb.size (by simp)) _ | exact hb.setCell (by simp [hb.size]) _) hbn; clear hbn))
    go_ret
    exact ⟨ret_bool HM.out.symm, hb⟩
  cases h2 : modeF m
  · have HM : Hid (uniqF n R m s = false) := by show uniqF n R m s = false; unfold uniqF ptnOk; rw [h1, h2]; rfl
    go_enter Try.func77, Try.ntmps77
    go_wp2_with (first | (go_at_call 67; refine Calls.mono (Ans.eqb (c_IsTable _ _ _ _ _ (hR.keep hb)) h1) ?_; rintro e w1 ⟨rfl, hbn⟩; replace a0 := cell_keep a0 hbn; replace a1 := cell_keep a1 hbn; replace hb := bel_to (w := w) (by first | exact hb | exact hb.alloc hb.size _ | exact (hb.alloc hb.size _).alloc (Nat.le_trans hb.size (by simp)) _ | exact hb.setCell (by simp [hb.size]) _) hbn; clear hbn) | (go_at_call 92; refine Calls.mono (Ans.eqb (c_isMode _ _) h2) ?_; rintro e w1 ⟨rfl, hbn⟩; replace a0 := cell_keep a0 hbn; replace a1 := cell_keep a1 hbn; replace hb := bel_to (w := w) (by first | exact hb | exact hb.alloc hb.size _ | exact (hb.alloc hb.size _).alloc (Nat.le_trans hb.size (by simp)) _ | exact hb.setCell (by simp [hb.size]) _) hbn; clear hbn))
    go_ret
    exact ⟨ret_bool HM.out.symm, hb⟩
  cases h3 : isAttr n s
  · have HM : Hid (uniqF n R m s = false) := by show uniqF n R m s = false; unfold uniqF ptnOk; rw [h1, h2, h3]; rfl
    go_enter Try.func77, Try.ntmps77
    go_wp2_with (first | (go_at_call 67; refine Calls.mono (Ans.eqb (c_IsTable _ _ _ _ _ (hR.keep hb)) h1) ?_; rintro e w1 ⟨rfl, hbn⟩; replace a0 := cell_keep a0 hbn; replace a1 := cell_keep a1 hbn; replace hb := bel_to (w := w) (by first | exact hb | exact hb.alloc hb.size _ | exact (hb.alloc hb.size _).alloc (Nat.le_trans hb.size (by simp)) _ | exact hb.setCell (by simp [hb.size]) _) hbn; clear hbn) | (go_at_call 92; refine Calls.mono (Ans.eqb (c_isMode _ _) h2) ?_; rintro e w1 ⟨rfl, hbn⟩; replace a0 := cell_keep a0 hbn; replace a1 := cell_keep a1 hbn; replace hb := bel_to (w := w) (by first | exact hb | exact hb.alloc hb.size _ | exact (hb.alloc hb.size _).alloc (Nat.le_trans hb.size (by simp)) _ | exact hb.setCell (by simp [hb.size]) _) hbn; clear hbn) | (go_at_call 116; refine Calls.mono (Ans.eqb (c_isAttributes _ _ _) h3) ?_; rintro e w1 ⟨rfl, hbn⟩; replace a0 := cell_keep a0 hbn; replace a1 := cell_keep a1 hbn; replace hb := bel_to (w := w) (by first | exact hb | exact hb.alloc hb.size _ | exact (hb.alloc hb.size _).alloc (Nat.le_trans hb.size (by simp)) _ | exact hb.setCell (by simp [hb.size]) _) hbn; clear hbn))
    go_ret
    exact ⟨ret_bool HM.out.symm, hb⟩
  have hok : ptnOk n R m s = true := by unfold ptnOk; rw [h1, h2, h3]; rfl
  have HM : Hid (uniqF n R m s = ((ptnF n R m s).length == 0)) := by show uniqF n R m s = _; rw [ptnF_ok hok]; unfold uniqF; rw [hok]; rfl
  clear hok
  go_enter Try.func77, Try.ntmps77
  go_wp2_with (first | (go_at_call 67; refine Calls.mono (Ans.eqb (c_IsTable _ _ _ _ _ (hR.keep hb)) h1) ?_; rintro e w1 ⟨rfl, hbn⟩; replace a0 := cell_keep a0 hbn; replace a1 := cell_keep a1 hbn; replace hb := bel_to (w := w) (by first | exact hb | exact hb.alloc hb.size _ | exact (hb.alloc hb.size _).alloc (Nat.le_trans hb.size (by simp)) _ | exact hb.setCell (by simp [hb.size]) _) hbn; clear hbn) | (go_at_call 92; refine Calls.mono (Ans.eqb (c_isMode _ _) h2) ?_; rintro e w1 ⟨rfl, hbn⟩; replace a0 := cell_keep a0 hbn; replace a1 := cell_keep a1 hbn; replace hb := bel_to (w := w) (by first | exact hb | exact hb.alloc hb.size _ | exact (hb.alloc hb.size _).alloc (Nat.le_trans hb.size (by simp)) _ | exact hb.setCell (by simp [hb.size]) _) hbn; clear hbn) | (go_at_call 116; refine Calls.mono (Ans.eqb (c_isAttributes _ _ _) h3) ?_; rintro e w1 ⟨rfl, hbn⟩; replace a0 := cell_keep a0 hbn; replace a1 := cell_keep a1 hbn; replace hb := bel_to (w := w) (by first | exact hb | exact hb.alloc hb.size _ | exact (hb.alloc hb.size _).alloc (Nat.le_trans hb.size (by simp)) _ | exact hb.setCell (by simp [hb.size]) _) hbn; clear hbn))
  refine (c_PartitionOf n _ _ R m s _ (hR.keep hb)).mono ?_
  rintro e w2 ⟨v2, xs, rfl, hO, hbn⟩
  obtain ⟨o2, c2, rfl⟩ := hO.shape
  replace hb := bel_to hb hbn
  clear hbn hO
  generalize (ptnF n R m s).length = k at *
  by_cases hk : k = 0
  · subst hk
    go_wp2
    go_ret
    exact ⟨ret_bool HM.out.symm, hb⟩
  · have HK : Hid ((k == 0) = false) := by show (k == 0) = false; simpa using hk
    have hk1 : ((k : Int) == 0) = false := by simp; omega
    go_wp2
    go_ret
    exact ⟨ret_bool (by rw [HM.out, HK.out]), hb⟩
set_option maxHeartbeats 800000 in
theorem c_specIsUnique (n : Int) (oa) (cap : Nat) (R : List (List Int)) (m s : Int) (w : World) (hR : RowsAt w oa R) :
    Ans Try.prog 79 #[.agg #[.int .i64 n, .slice oa R.length cap], .int .i64 m, .int .i64 s] w (.bool (uniqF n R m s)) := by
  unfold Ans
  have hb := (Below.refl w.heap.size w).alloc (Nat.le_refl _) (.cells #[.int .i64 n, .slice oa R.length cap] 26)
  have a0 := box_at w #[.int .i64 n, .slice oa R.length cap] 26 0 _ rfl
  have a1 := box_at w #[.int .i64 n, .slice oa R.length cap] 26 1 _ rfl
  cases hf : (isTabF n R && modeF m)
  · have HM : Hid (uniqF n R m s = false) := by show uniqF n R m s = false; unfold uniqF ptnOk; rw [hf]; rfl
    go_enter Try.func79, Try.ntmps79
    go_wp2_with (first | (go_at_call 89; refine Calls.mono (Ans.eqb (c_l4Fine _ _ _ _ _ _ (hR.keep hb)) hf) ?_; rintro e w1 ⟨rfl, hbn⟩; replace a0 := cell_keep a0 hbn; replace a1 := cell_keep a1 hbn; replace hb := bel_to (w := w) (by first | exact hb | exact hb.alloc hb.size _ | exact (hb.alloc hb.size _).alloc (Nat.le_trans hb.size (by simp)) _ | exact hb.setCell (by simp [hb.size]) _) hbn; clear hbn))
    go_ret
    exact ⟨ret_bool HM.out.symm, hb⟩
  cases h3 : isAttr n s
  · have HM : Hid (uniqF n R m s = false) := by show uniqF n R m s = false; unfold uniqF ptnOk; rw [hf, h3]; rfl
    go_enter Try.func79, Try.ntmps79
    go_wp2_with (first | (go_at_call 89; refine Calls.mono (Ans.eqb (c_l4Fine _ _ _ _ _ _ (hR.keep hb)) hf) ?_; rintro e w1 ⟨rfl, hbn⟩; replace a0 := cell_keep a0 hbn; replace a1 := cell_keep a1 hbn; replace hb := bel_to (w := w) (by first | exact hb | exact hb.alloc hb.size _ | exact (hb.alloc hb.size _).alloc (Nat.le_trans hb.size (by simp)) _ | exact hb.setCell (by simp [hb.size]) _) hbn; clear hbn) | (go_at_call 49; refine Calls.mono (Ans.eqb (c_specIsAttributes _ _ _) h3) ?_; rintro e w1 ⟨rfl, hbn⟩; replace a0 := cell_keep a0 hbn; replace a1 := cell_keep a1 hbn; replace hb := bel_to (w := w) (by first | exact hb | exact hb.alloc hb.size _ | exact (hb.alloc hb.size _).alloc (Nat.le_trans hb.size (by simp)) _ | exact hb.setCell (by simp [hb.size]) _) hbn; clear hbn))
    go_ret
    exact ⟨ret_bool HM.out.symm, hb⟩
  have HM : Hid (uniqF n R m s = ((ptnQ (sameB R m s) R.length R.length).length == 0)) := by show uniqF n R m s = _; unfold uniqF ptnOk; rw [hf, h3]; rfl
  have ht : isTabF n R = true := by have := hf; simp only [Bool.and_eq_true] at this; exact this.1
  have HS : Hid (isTabF n R = true ∧ St s) := by
    refine ⟨ht, ?_⟩
    have h := h3
    unfold isAttr at h
    simp only [Bool.and_eq_true, decide_eq_true_eq] at h
    have hp := (pow_wrap (n := n) (by omega) (isTab_of ht).2.1).2.1
    exact ⟨h.1.2, by omega⟩
  clear ht
  go_enter Try.func79, Try.ntmps79
  go_wp2_with (first | (go_at_call 89; refine Calls.mono (Ans.eqb (c_l4Fine _ _ _ _ _ _ (hR.keep hb)) hf) ?_; rintro e w1 ⟨rfl, hbn⟩; replace a0 := cell_keep a0 hbn; replace a1 := cell_keep a1 hbn; replace hb := bel_to (w := w) (by first | exact hb | exact hb.alloc hb.size _ | exact (hb.alloc hb.size _).alloc (Nat.le_trans hb.size (by simp)) _ | exact hb.setCell (by simp [hb.size]) _) hbn; clear hbn) | (go_at_call 49; refine Calls.mono (Ans.eqb (c_specIsAttributes _ _ _) h3) ?_; rintro e w1 ⟨rfl, hbn⟩; replace a0 := cell_keep a0 hbn; replace a1 := cell_keep a1 hbn; replace hb := bel_to (w := w) (by first | exact hb | exact hb.alloc hb.size _ | exact (hb.alloc hb.size _).alloc (Nat.le_trans hb.size (by simp)) _ | exact hb.setCell (by simp [hb.size]) _) hbn; clear hbn))
  refine (c_l5Classes n _ _ R m s _ (hR.keep hb) HS.out.1 HS.out.2).mono ?_
  rintro e w2 ⟨v2, xs, rfl, hO, hbn⟩
  obtain ⟨o2, c2, rfl⟩ := hO.shape
  replace hb := bel_to hb hbn
  clear hbn hO
  generalize (ptnQ (sameB R m s) R.length R.length).length = k at *
  by_cases hk : k = 0
  · subst hk
    go_wp2
    go_ret
    exact ⟨ret_bool HM.out.symm, hb⟩
  · have HK : Hid ((k == 0) = false) := by show (k == 0) = false; simpa using hk
    have hk1 : ((k : Int) == 0) = false := by simp; omega
    go_wp2
    go_ret
    exact ⟨ret_bool (by rw [HM.out, HK.out]), hb⟩
end Go.Proofs.Ytjbmpnbfiahdhaa
namespace Go.Proofs.Ytjbmpnbfiahdhaa
open Go.RowKit
set_option linter.unusedVariables false
set_option maxRecDepth 100000

def mkeysF (n : Int) (R : List (List Int)) (m : Int) : List Int := if isTabF n R && modeF m then minF (flt (uniqF n R m) (2 ^ n.toNat)) else []
theorem mkeys_len (n : Int) (R : List (List Int)) (m : Int) : (mkeysF n R m).length ≤ Room := by
  unfold mkeysF
  split
  · have := minF_len (flt (uniqF n R m) (2 ^ n.toNat)); unfold Room; omega
  · simp
theorem minF_same {L M : List Int} (h : ∀ x, x ∈ L ↔ x ∈ M) (hl : L.length ≤ 100) (hm : M.length ≤ 100) : minF L = minF M := by
  unfold minF
  have e1 : setsF L = setsF M := all_same h
  have e2 : (fun x => inB' L x && minB L x) = fun x => inB' M x && minB M x := by
    funext x
    unfold inB' minB
    rw [all_same h]
    congr 1
    rw [decide_eq_decide]
    exact h x
  rw [e1, e2]
  simp [hl, hm]

set_option maxHeartbeats 1600000 in
theorem c_MinimalKeys (n : Int) (oa) (cap : Nat) (R : List (List Int)) (m : Int) (w : World) (hR : RowsAt w oa R) :
    Calls Try.prog 73 #[.agg #[.int .i64 n, .slice oa R.length cap], .int .i64 m] w fun e w' => ∃ v, e = .returned v ∧ OwnI w' w.heap.size v (mkeysF n R m) ∧ Below w.heap.size w w' := by
  obtain ⟨i0, hi, hz0, hz1, hz2⟩ := info_parts info_int
  have hb := bel2 w (.cells #[.int .i64 n, .slice oa R.length cap] 26) (.cells #[] 3)
  have a0 := two_a w #[.int .i64 n, .slice oa R.length cap] 26 #[] 3 0 _ rfl
  have a1 := two_a w #[.int .i64 n, .slice oa R.length cap] 26 #[] 3 1 _ rfl
  have hI : OwnI ((w.alloc (.cells #[.int .i64 n, .slice oa R.length cap] 26)).alloc (.cells #[] 3)) (w.heap.size + 1) (.slice (some ⟨w.heap.size + 1, 0, none⟩) 0 0) [] := by
    have h := (OwnI.empty (w.alloc (.cells #[.int .i64 n, .slice oa R.length cap] 26)) _ (Nat.le_refl _))
    simpa using h
  cases ht : isTabF n R
  · have HM : Hid (mkeysF n R m = []) := by show mkeysF n R m = []; unfold mkeysF; rw [ht]; rfl
    go_enter Try.func73, Try.ntmps73
    go_wp2_with (first | (go_at_call 67; refine Calls.mono (Ans.eqb (c_IsTable _ _ _ _ _ (hR.keep hb)) ht) ?_; rintro e w1 ⟨rfl, hbn⟩; replace a0 := cell_keep a0 hbn; replace a1 := cell_keep a1 hbn; replace hI := hI.keep hbn; replace hb := bel_to (w := w) (by first | exact hb | exact hb.alloc hb.size _ | exact (hb.alloc hb.size _).alloc (Nat.le_trans hb.size (by simp)) _ | exact hb.setCell (by simp [hb.size]) _) hbn; clear hbn))
    go_ret
    exact ⟨_, rfl, by rw [HM.out]; exact hI.based (Nat.le_succ _), hb⟩
  cases hm : modeF m
  · have HM : Hid (mkeysF n R m = []) := by show mkeysF n R m = []; unfold mkeysF; rw [ht, hm]; rfl
    go_enter Try.func73, Try.ntmps73
    go_wp2_with (first | (go_at_call 67; refine Calls.mono (Ans.eqb (c_IsTable _ _ _ _ _ (hR.keep hb)) ht) ?_; rintro e w1 ⟨rfl, hbn⟩; replace a0 := cell_keep a0 hbn; replace a1 := cell_keep a1 hbn; replace hI := hI.keep hbn; replace hb := bel_to (w := w) (by first | exact hb | exact hb.alloc hb.size _ | exact (hb.alloc hb.size _).alloc (Nat.le_trans hb.size (by simp)) _ | exact hb.setCell (by simp [hb.size]) _) hbn; clear hbn) | (go_at_call 92; refine Calls.mono (Ans.eqb (c_isMode _ _) hm) ?_; rintro e w1 ⟨rfl, hbn⟩; replace a0 := cell_keep a0 hbn; replace a1 := cell_keep a1 hbn; replace hI := hI.keep hbn; replace hb := bel_to (w := w) (by first | exact hb | exact hb.alloc hb.size _ | exact (hb.alloc hb.size _).alloc (Nat.le_trans hb.size (by simp)) _ | exact hb.setCell (by simp [hb.size]) _) hbn; clear hbn))
    go_ret
    exact ⟨_, rfl, by rw [HM.out]; exact hI.based (Nat.le_succ _), hb⟩
  obtain ⟨hn1, hn5, _, _⟩ := isTab_of ht
  have hpl := partsF_len n
  have HM : Hid (mkeysF n R m = minF ((partsF n).filter (uniqF n R m))) := by
    show mkeysF n R m = minF ((partsF n).filter (uniqF n R m))
    unfold mkeysF
    rw [ht, hm]
    simp only [Bool.and_self, if_true]
    have hp := pow_nat (n := n) (by omega) hn5
    refine minF_same (fun x => ?_) (Nat.le_trans (flt_le _ _) (by omega)) (Nat.le_trans (List.length_filter_le _ _) (by omega))
    rw [flt_mem, List.mem_filter, partsF_mem (by omega) hn5, hp.1]
  go_enter Try.func73, Try.ntmps73
  go_wp2_with (first | (go_at_call 67; refine Calls.mono (Ans.eqb (c_IsTable _ _ _ _ _ (hR.keep hb)) ht) ?_; rintro e w1 ⟨rfl, hbn⟩; replace a0 := cell_keep a0 hbn; replace a1 := cell_keep a1 hbn; replace hI := hI.keep hbn; replace hb := bel_to (w := w) (by first | exact hb | exact hb.alloc hb.size _ | exact (hb.alloc hb.size _).alloc (Nat.le_trans hb.size (by simp)) _ | exact hb.setCell (by simp [hb.size]) _) hbn; clear hbn) | (go_at_call 92; refine Calls.mono (Ans.eqb (c_isMode _ _) hm) ?_; rintro e w1 ⟨rfl, hbn⟩; replace a0 := cell_keep a0 hbn; replace a1 := cell_keep a1 hbn; replace hI := hI.keep hbn; replace hb := bel_to (w := w) (by first | exact hb | exact hb.alloc hb.size _ | exact (hb.alloc hb.size _).alloc (Nat.le_trans hb.size (by simp)) _ | exact hb.setCell (by simp [hb.size]) _) hbn; clear hbn))
  have old := hI
  refine (c_PartsBySize n _).mono ?_
  rintro e w2 ⟨v2, rfl, hM, hbn⟩
  have ap_hM := (apart_old old hM).symm
  replace hI := hI.keep hbn
  replace hM := hM.based (World.block_lt_of_cell? _ _ a1)
  replace a0 := cell_keep a0 hbn
  replace a1 := cell_keep a1 hbn
  replace hb := bel_to hb hbn
  clear old hbn
  generalize partsF n = M at *
  obtain ⟨o1, c1, rfl⟩ := hM.shape
  go_wp2
  go_loopw [5, 22] (fun v i wr => ∃ k : Nat, i = .int .i64 k ∧ k ≤ M.length ∧ OwnI wr (w.heap.size + 1) v ((M.take k).filter (uniqF n R m)) ∧ OwnI wr (w.heap.size + 1) (.slice o1 M.length c1) M ∧ Apart (.slice o1 M.length c1) v ∧ wr.cell? ⟨w.heap.size, 0, none⟩ = some (.int .i64 n) ∧ wr.cell? ⟨w.heap.size, 1, none⟩ = some (.slice oa R.length cap) ∧ Below w.heap.size w wr) (fun _ i _ => M.length - (intOf i).toNat)
  case atStart => exact ⟨0, rfl, Nat.zero_le _, by simpa using hI, hM, ap_hM, a0, a1, hb⟩
  case round =>
    clear hI hM ap_hM a0 a1 hb
    obtain ⟨k, rfl, hk, hI, hM, ap_hM, a0, a1, hb⟩ := hrel
    by_cases hlt : k < M.length
    · obtain ⟨b2, off2, rfl, hbs2, hca⟩ := (hM.ints rfl (by unfold Room; omega)).at_ (by omega)
      have hc2 := hca k hlt
      have HT : Hid ((M.take (k + 1)).filter (uniqF n R m) = (M.take k).filter (uniqF n R m) ++ (if uniqF n R m (nth M k) then [nth M k] else [])) := filter_take_succ _ _ _ hlt
      have hfl : ((M.take k).filter (uniqF n R m)).length ≤ 32 := by
        have := List.length_filter_le (uniqF n R m) (M.take k)
        rw [List.length_take] at this
        omega
      clear hca
      generalize nth M k = x at *
      generalize (M.take k).filter (uniqF n R m) = F at *
      cases hu : uniqF n R m x
      · go_wp2_with (first | (go_at_call 77; refine Calls.mono (Ans.eqb (c_IsUnique _ _ _ _ _ _ _ (hR.keep hb)) hu) ?_; rintro e w1 ⟨rfl, hbn⟩; replace a0 := cell_keep a0 hbn; replace a1 := cell_keep a1 hbn; replace hI := hI.keep hbn; replace hM := hM.keep hbn; replace hb := bel_to (w := w) (by first | exact hb | exact hb.alloc hb.size _ | exact (hb.alloc hb.size _).alloc (Nat.le_trans hb.size (by simp)) _ | exact hb.setCell (by simp [hb.size]) _) hbn; clear hbn) | fail)
        go_roundw
        case rel => exact ⟨k + 1, by go_num, by omega, by rw [HT.out, hu]; simpa using hI, hM, ap_hM, a0, a1, hb⟩
        case measure => simp [intOf]; omega
      · go_wp2_with (first | (go_at_call 77; refine Calls.mono (Ans.eqb (c_IsUnique _ _ _ _ _ _ _ (hR.keep hb)) hu) ?_; rintro e w1 ⟨rfl, hbn⟩; replace a0 := cell_keep a0 hbn; replace a1 := cell_keep a1 hbn; replace hI := hI.keep hbn; replace hM := hM.keep hbn; replace hb := bel_to (w := w) (by first | exact hb | exact hb.alloc hb.size _ | exact (hb.alloc hb.size _).alloc (Nat.le_trans hb.size (by simp)) _ | exact hb.setCell (by simp [hb.size]) _) hbn; clear hbn) | (at_builtin; refine wpList_append_fresh rfl _ _ 68 rfl (w.heap.size + 1) 3 i0 (.int .i64 0) 1 8 Try.underlying68 hi hz0 hz1 hz2 rfl (by decide) _ _ _ rfl (World.ownsRow.alloc hI _) _ 1 1 [.int .i64 (x)] rfl rfl (by intro j u hj; match j, hj with | 0, hj => simp at hj; subst hj; simp [Addr.add]) (by intro u hu; simp at hu; subst hu; rfl) (by unfold maxLen; omega) (by omega) (by have := World.block_lt_of_cell? _ _ a1; simp at this; simp; omega) ?_; intro v' w1 hown hgrow hfr; replace hb := (hb.alloc hb.size _).grown hgrow (by have := hb.size; simp; omega) (fun g hg => Nat.le_trans (Nat.le_succ _) (World.ownsRow.lt hI g hg).1); replace a0 := cell_gr (cell_al a0 _) (World.ownsRow.alloc hI _) (by omega) hgrow; replace a1 := cell_gr (cell_al a1 _) (World.ownsRow.alloc hI _) (by omega) hgrow; obtain ⟨hM, ap_hM⟩ := OwnI.past hM hgrow ap_hM hfr; replace hI := OwnI.snoc hown; clear hown hgrow hfr) | fail)
        go_roundw
        case rel => exact ⟨k + 1, by go_num, by omega, by rw [HT.out, hu]; exact hI, hM, ap_hM, a0, a1, hb⟩
        case measure => simp [intOf]; omega
    · have hkk : k = M.length := by omega
      have HE : Hid ((M.take k).filter (uniqF n R m) = M.filter (uniqF n R m)) := by show (M.take k).filter (uniqF n R m) = M.filter (uniqF n R m); rw [hkk, List.take_length]
      have hfr : ((M.take k).filter (uniqF n R m)).length ≤ Room := by
        have := List.length_filter_le (uniqF n R m) (M.take k)
        rw [List.length_take] at this
        unfold Room; omega
      clear hkk
      obtain ⟨oF, cF, rfl, hcF, hnF⟩ := hI.cap
      go_wp2_with fail
      refine (c_MinimalSets _ _ _ _ (hI.ints rfl hfr) hnF).mono ?_
      rintro e w3 ⟨v3, rfl, hR2, hbn⟩
      replace hR2 := hR2.based hb.size
      replace hb := bel_to hb hbn
      clear hbn
      go_wp2
      go_ret
      exact ⟨_, rfl, by rw [HM.out, ← HE.out]; exact hR2, hb⟩
set_option maxHeartbeats 1600000 in
theorem c_specMinimalKeys (n : Int) (oa) (cap : Nat) (R : List (List Int)) (m : Int) (w : World) (hR : RowsAt w oa R) :
    Calls Try.prog 74 #[.agg #[.int .i64 n, .slice oa R.length cap], .int .i64 m] w fun e w' => ∃ v, e = .returned v ∧ OwnI w' w.heap.size v (mkeysF n R m) ∧ Below w.heap.size w w' := by
  obtain ⟨i0, hi, hz0, hz1, hz2⟩ := info_parts info_int
  have hb := bel2 w (.cells #[.int .i64 n, .slice oa R.length cap] 26) (.cells #[] 3)
  have a0 := two_a w #[.int .i64 n, .slice oa R.length cap] 26 #[] 3 0 _ rfl
  have a1 := two_a w #[.int .i64 n, .slice oa R.length cap] 26 #[] 3 1 _ rfl
  have hI : OwnI ((w.alloc (.cells #[.int .i64 n, .slice oa R.length cap] 26)).alloc (.cells #[] 3)) (w.heap.size + 1) (.slice (some ⟨w.heap.size + 1, 0, none⟩) 0 0) [] := by
    have h := (OwnI.empty (w.alloc (.cells #[.int .i64 n, .slice oa R.length cap] 26)) _ (Nat.le_refl _))
    simpa using h
  have HNO : Hid (minF [] = []) := by show minF [] = []; decide +kernel
  cases hf : (isTabF n R && modeF m)
  · have HM : Hid (mkeysF n R m = []) := by show mkeysF n R m = []; unfold mkeysF; rw [hf]; rfl
    go_enter Try.func74, Try.ntmps74
    go_wp2_with fail
    go_loopw [5, 6] (fun v i wr => v = .slice (some ⟨w.heap.size + 1, 0, none⟩) 0 0 ∧ OwnI wr (w.heap.size + 1) (.slice (some ⟨w.heap.size + 1, 0, none⟩) 0 0) [] ∧ wr.cell? ⟨w.heap.size, 0, none⟩ = some (.int .i64 n) ∧ wr.cell? ⟨w.heap.size, 1, none⟩ = some (.slice oa R.length cap) ∧ Below w.heap.size w wr) (fun _ i _ => 0)
    case atStart => exact ⟨rfl, hI, a0, a1, hb⟩
    case round =>
      clear hI a0 a1 hb
      obtain ⟨rfl, hI, a0, a1, hb⟩ := hrel
      go_wp2_with (first | (go_at_call 89; refine Calls.mono (Ans.eqb (c_l4Fine _ _ _ _ _ _ (hR.keep hb)) hf) ?_; rintro e w1 ⟨rfl, hbn⟩; replace a0 := cell_keep a0 hbn; replace a1 := cell_keep a1 hbn; replace hI := hI.keep hbn; replace hb := bel_to (w := w) (by first | exact hb | exact hb.alloc hb.size _ | exact (hb.alloc hb.size _).alloc (Nat.le_trans hb.size (by simp)) _ | exact hb.setCell (by simp [hb.size]) _) hbn; clear hbn))
      refine (c_specMinimalSets _ _ [] _ (hI.ints rfl (by simp))).mono ?_
      rintro e w3 ⟨v3, rfl, hR2, hbn⟩
      replace hR2 := hR2.based hb.size
      replace hb := bel_to hb hbn
      clear hbn
      go_wp2
      go_ret
      exact ⟨_, rfl, by rw [HM.out, ← HNO.out]; exact hR2, hb⟩
  have ht : isTabF n R = true := by have := hf; simp only [Bool.and_eq_true] at this; exact this.1
  obtain ⟨hn1, hn5, _, _⟩ := isTab_of ht
  have HM : Hid (mkeysF n R m = minF (flt (uniqF n R m) (2 ^ n.toNat))) := by show mkeysF n R m = _; unfold mkeysF; rw [if_pos hf]
  have hn01 : 0 ≤ n ∧ n ≤ 5 := ⟨by omega, hn5⟩
  obtain ⟨hp1, hp2, hp3⟩ := pow_nat (n := n) (by omega) hn5
  generalize hN : (2 : Nat) ^ n.toNat = N at *
  have hAll : allM n = (N : Int) - 1 := by unfold allM; rw [← hp1]
  clear hp1 hN ht
  go_enter Try.func74, Try.ntmps74
  go_wp2_with fail
  go_loopw [5, 6] (fun v i wr => ∃ k : Nat, i = .int .i64 k ∧ k ≤ N ∧ OwnI wr (w.heap.size + 1) v (flt (uniqF n R m) k) ∧ wr.cell? ⟨w.heap.size, 0, none⟩ = some (.int .i64 n) ∧ wr.cell? ⟨w.heap.size, 1, none⟩ = some (.slice oa R.length cap) ∧ Below w.heap.size w wr) (fun _ i _ => N - (intOf i).toNat)
  case atStart => exact ⟨0, rfl, Nat.zero_le _, hI, a0, a1, hb⟩
  case round =>
    clear hI a0 a1 hb
    obtain ⟨k, rfl, hk, hI, a0, a1, hb⟩ := hrel
    have HS : Hid (flt (uniqF n R m) (k + 1) = flt (uniqF n R m) k ++ (if uniqF n R m k then [(k : Int)] else [])) := flt_succ _ k
    have hle := flt_le (uniqF n R m) k
    by_cases hlt : k < N
    · have hd : decide ((k : Int) ≤ (N : Int) - 1) = true := by simp; omega
      cases hu : uniqF n R m (k : Int)
      · go_wp2_with (first | (go_at_call 89; refine Calls.mono (Ans.eqb (c_l4Fine _ _ _ _ _ _ (hR.keep hb)) hf) ?_; rintro e w1 ⟨rfl, hbn⟩; replace a0 := cell_keep a0 hbn; replace a1 := cell_keep a1 hbn; replace hI := hI.keep hbn; replace hb := bel_to (w := w) (by first | exact hb | exact hb.alloc hb.size _ | exact (hb.alloc hb.size _).alloc (Nat.le_trans hb.size (by simp)) _ | exact hb.setCell (by simp [hb.size]) _) hbn; clear hbn) | (go_at_call 80; refine Calls.mono (c_l2All _ hn01 _) ?_; rintro e w1 ⟨rfl, hbn⟩; replace a0 := cell_keep a0 hbn; replace a1 := cell_keep a1 hbn; replace hI := hI.keep hbn; replace hb := bel_to (w := w) (by first | exact hb | exact hb.alloc hb.size _ | exact (hb.alloc hb.size _).alloc (Nat.le_trans hb.size (by simp)) _ | exact hb.setCell (by simp [hb.size]) _) hbn; clear hbn) | (go_at_call 79; refine Calls.mono (Ans.eqb (c_specIsUnique _ _ _ _ _ _ _ (hR.keep hb)) hu) ?_; rintro e w1 ⟨rfl, hbn⟩; replace a0 := cell_keep a0 hbn; replace a1 := cell_keep a1 hbn; replace hI := hI.keep hbn; replace hb := bel_to (w := w) (by first | exact hb | exact hb.alloc hb.size _ | exact (hb.alloc hb.size _).alloc (Nat.le_trans hb.size (by simp)) _ | exact hb.setCell (by simp [hb.size]) _) hbn; clear hbn) | fail)
        go_roundw
        case rel => exact ⟨k + 1, by go_num, by omega, by rw [HS.out, hu]; simpa using hI, a0, a1, hb⟩
        case measure => simp [intOf]; omega
      · go_wp2_with (first | (go_at_call 89; refine Calls.mono (Ans.eqb (c_l4Fine _ _ _ _ _ _ (hR.keep hb)) hf) ?_; rintro e w1 ⟨rfl, hbn⟩; replace a0 := cell_keep a0 hbn; replace a1 := cell_keep a1 hbn; replace hI := hI.keep hbn; replace hb := bel_to (w := w) (by first | exact hb | exact hb.alloc hb.size _ | exact (hb.alloc hb.size _).alloc (Nat.le_trans hb.size (by simp)) _ | exact hb.setCell (by simp [hb.size]) _) hbn; clear hbn) | (go_at_call 80; refine Calls.mono (c_l2All _ hn01 _) ?_; rintro e w1 ⟨rfl, hbn⟩; replace a0 := cell_keep a0 hbn; replace a1 := cell_keep a1 hbn; replace hI := hI.keep hbn; replace hb := bel_to (w := w) (by first | exact hb | exact hb.alloc hb.size _ | exact (hb.alloc hb.size _).alloc (Nat.le_trans hb.size (by simp)) _ | exact hb.setCell (by simp [hb.size]) _) hbn; clear hbn) | (go_at_call 79; refine Calls.mono (Ans.eqb (c_specIsUnique _ _ _ _ _ _ _ (hR.keep hb)) hu) ?_; rintro e w1 ⟨rfl, hbn⟩; replace a0 := cell_keep a0 hbn; replace a1 := cell_keep a1 hbn; replace hI := hI.keep hbn; replace hb := bel_to (w := w) (by first | exact hb | exact hb.alloc hb.size _ | exact (hb.alloc hb.size _).alloc (Nat.le_trans hb.size (by simp)) _ | exact hb.setCell (by simp [hb.size]) _) hbn; clear hbn) | (at_builtin; refine wpList_append_fresh rfl _ _ 68 rfl (w.heap.size + 1) 3 i0 (.int .i64 0) 1 8 Try.underlying68 hi hz0 hz1 hz2 rfl (by decide) _ _ _ rfl (World.ownsRow.alloc hI _) _ 1 1 [.int .i64 ((k : Int))] rfl rfl (by intro j u hj; match j, hj with | 0, hj => simp at hj; subst hj; simp [Addr.add]) (by intro u hu; simp at hu; subst hu; rfl) (by unfold maxLen; omega) (by omega) (by have := World.block_lt_of_cell? _ _ a1; simp at this; simp; omega) ?_; intro v' w1 hown hgrow hfr; replace hb := (hb.alloc hb.size _).grown hgrow (by have := hb.size; simp; omega) (fun g hg => Nat.le_trans (Nat.le_succ _) (World.ownsRow.lt hI g hg).1); replace a0 := cell_gr (cell_al a0 _) (World.ownsRow.alloc hI _) (by omega) hgrow; replace a1 := cell_gr (cell_al a1 _) (World.ownsRow.alloc hI _) (by omega) hgrow; replace hI := OwnI.snoc hown; clear hown hgrow hfr) | fail)
        go_roundw
        case rel => exact ⟨k + 1, by go_num, by omega, by rw [HS.out, hu]; exact hI, a0, a1, hb⟩
        case measure => simp [intOf]; omega
    · have hkk : k = N := by omega
      have HK : Hid (k = N) := hkk
      have hd : decide ((k : Int) ≤ (N : Int) - 1) = false := by simp; omega
      clear hkk
      have hfr : (flt (uniqF n R m) k).length ≤ Room := by unfold Room; omega
      obtain ⟨oF, cF, rfl⟩ := hI.shape
      go_wp2_with (first | (go_at_call 89; refine Calls.mono (Ans.eqb (c_l4Fine _ _ _ _ _ _ (hR.keep hb)) hf) ?_; rintro e w1 ⟨rfl, hbn⟩; replace a0 := cell_keep a0 hbn; replace a1 := cell_keep a1 hbn; replace hI := hI.keep hbn; replace hb := bel_to (w := w) (by first | exact hb | exact hb.alloc hb.size _ | exact (hb.alloc hb.size _).alloc (Nat.le_trans hb.size (by simp)) _ | exact hb.setCell (by simp [hb.size]) _) hbn; clear hbn) | (go_at_call 80; refine Calls.mono (c_l2All _ hn01 _) ?_; rintro e w1 ⟨rfl, hbn⟩; replace a0 := cell_keep a0 hbn; replace a1 := cell_keep a1 hbn; replace hI := hI.keep hbn; replace hb := bel_to (w := w) (by first | exact hb | exact hb.alloc hb.size _ | exact (hb.alloc hb.size _).alloc (Nat.le_trans hb.size (by simp)) _ | exact hb.setCell (by simp [hb.size]) _) hbn; clear hbn) | fail)
      refine (c_specMinimalSets _ _ _ _ (hI.ints rfl hfr)).mono ?_
      rintro e w3 ⟨v3, rfl, hR2, hbn⟩
      replace hR2 := hR2.based hb.size
      replace hb := bel_to hb hbn
      clear hbn
      go_wp2
      go_ret
      exact ⟨_, rfl, by rw [HM.out, ← HK.out]; exact hR2, hb⟩
end Go.Proofs.Ytjbmpnbfiahdhaa
namespace Go.Proofs.Ytjbmpnbfiahdhaa
open Go.RowKit
set_option linter.unusedVariables false
set_option maxRecDepth 100000

theorem cap_le {x y : Int} (hx : St x) (hy : St y) : 0 ≤ cap x y ∧ cap x y ≤ x := by
  obtain ⟨n, hn, rfl⟩ := st_nat hx; obtain ⟨m, hm, rfl⟩ := st_nat hy
  have h : ∀ n < 32, ∀ m < 32, 0 ≤ cap ((n : Nat) : Int) ((m : Nat) : Int) ∧ cap ((n : Nat) : Int) ((m : Nat) : Int) ≤ ((n : Nat) : Int) := by decide +kernel
  exact h n hn m hm
theorem cap_ins_left {x y : Int} (hx : St x) (hy : St y) : ins (cap x y) x = true :=
  (ins_iff (cap_st hx hy) hx).2 fun c hc h => by rw [hasc_cap hx hy hc, Bool.and_eq_true] at h; exact h.1
theorem cap_ins_right {x y : Int} (hx : St x) (hy : St y) : ins (cap x y) y = true :=
  (ins_iff (cap_st hx hy) hy).2 fun c hc h => by rw [hasc_cap hx hy hc, Bool.and_eq_true] at h; exact h.2
theorem closed_iff {D : List (Int × Int)} {x : Int} (hv : Val D) (hx : St x) : (cloF D x == x) = true ↔ Closed D x := by
  constructor
  · intro h
    have e : cloF D x = x := by simpa using h
    have := cloF_closed hv hx
    rw [e] at this; exact this
  · intro h; rw [cloF_same hv hx h]; simp
theorem closed_cap {D : List (Int × Int)} {x y : Int} (hv : Val D) (hx : St x) (hy : St y) (h : Closed D x) (h' : Closed D y) : Closed D (cap x y) := by
  intro d hd hi
  obtain ⟨h1, h2⟩ := hv d hd
  rw [hasc_cap hx hy h2, h d hd (ins_trans h1 (cap_st hx hy) hx hi (cap_ins_left hx hy)), h' d hd (ins_trans h1 (cap_st hx hy) hy hi (cap_ins_right hx hy))]
  rfl
theorem closedSets_mem {n x : Int} {D : List (Int × Int)} (h : areDepsF n D = true) : x ∈ closedSetsF n D ↔ 0 ≤ x ∧ x < 2 ^ n.toNat ∧ St x ∧ Closed D x := by
  obtain ⟨hv, h1, h5, _⟩ := areDepsF_val h
  have hp := pow_nat (n := n) (by omega) h5
  unfold closedSetsF
  rw [if_pos h, flt_mem, hp.1]
  constructor
  · rintro ⟨⟨h0, h2⟩, h3⟩
    have hs : St x := ⟨h0, by omega⟩
    exact ⟨h0, h2, hs, (closed_iff hv hs).1 h3⟩
  · rintro ⟨h0, h2, h3, h4⟩
    exact ⟨⟨h0, h2⟩, (closed_iff hv h3).2 h4⟩
theorem closedSets_cap {n x y : Int} {D : List (Int × Int)} (hx : x ∈ closedSetsF n D) (hy : y ∈ closedSetsF n D) : cap x y ∈ closedSetsF n D := by
  cases h : areDepsF n D with
  | false => unfold closedSetsF at hx; rw [h] at hx; simp at hx
  | true =>
    have hv := (areDepsF_val h).1
    rw [closedSets_mem h] at hx hy ⊢
    obtain ⟨x0, x1, x2, x3⟩ := hx
    obtain ⟨y0, y1, y2, y3⟩ := hy
    have := cap_le x2 y2
    exact ⟨this.1, by omega, cap_st x2 y2, closed_cap hv x2 y2 x3 y3⟩
theorem implies_closed {D : List (Int × Int)} {l r c : Int} (hv : Val D) (hl : St l) (hr : Co r) (hc : St c) (h : impF D l r = true) (hcl : Closed D c) (hi : ins l c = true) : hasc c r = true :=
  (ins_iff (cloF_st hv hl) hc).1 (cloF_min hv hl hc hi hcl) r hr h
theorem closedSets_impl {n l r c : Int} {D : List (Int × Int)} (h : impliesDepF n D l r = true) (hc : c ∈ closedSetsF n D) (hi : ins l c = true) : hasc c r = true := by
  unfold impliesDepF at h
  simp only [Bool.and_eq_true] at h
  obtain ⟨ha, hd, hp⟩ := h
  obtain ⟨⟨hl, hr⟩, _⟩ := isDepF_val hd
  rw [closedSets_mem ha] at hc
  exact implies_closed (areDepsF_val ha).1 hl hr hc.2.2.1 hp hc.2.2.2 hi
theorem cloF_mono {D : List (Int × Int)} {x y : Int} (hv : Val D) (hx : St x) (hy : St y) (h : ins x y = true) : ins (cloF D x) (cloF D y) = true :=
  cloF_min hv hx (cloF_st hv hy) (ins_trans hx hy (cloF_st hv hy) h (cloF_up hv hy)) (cloF_closed hv hy)
theorem bits_below : ∀ N < 6, ∀ x < 32, ∀ c < 5, ((x : Nat) : Int) < 2 ^ N → hasc ((x : Nat) : Int) ((c : Nat) : Int) = true → c < N := by decide +kernel
theorem bit_below {N : Nat} {x c : Int} (hN : N ≤ 5) (hx : St x) (hc : Co c) (hlt : x < 2 ^ N) (h : hasc x c = true) : c < N := by
  obtain ⟨a, ha, rfl⟩ := st_nat hx; obtain ⟨k, hk, rfl⟩ := co_nat hc
  have := bits_below N (by omega) a ha k hk hlt h
  omega
theorem full_bits : ∀ N < 6, ∀ x < 32, (∀ c < 5, hasc ((x : Nat) : Int) ((c : Nat) : Int) = true → c < N) → ((x : Nat) : Int) < 2 ^ N := by decide +kernel
theorem below_of_bits {N : Nat} {x : Int} (hN : N ≤ 5) (hx : St x) (h : ∀ c, Co c → hasc x c = true → c < N) : x < 2 ^ N := by
  obtain ⟨a, ha, rfl⟩ := st_nat hx
  exact full_bits N (by omega) a ha fun c hc hh => by have := h c (by unfold Co; omega) hh; omega
theorem allN_bits : ∀ N < 6, ∀ c < 5, hasc (2 ^ N - 1) ((c : Nat) : Int) = decide (c < N) := by decide +kernel
theorem allN_st : ∀ N < 6, (0 : Int) ≤ 2 ^ N - 1 ∧ (2 : Int) ^ N - 1 < 32 := by decide +kernel
/-- The closure under dependencies on n columns stays among these. -/
theorem clo_below {N : Nat} {D : List (Int × Int)} {s : Int} (hN : N ≤ 5) (hv : Val D) (hD : ∀ d ∈ D, d.2 < N) (hs : St s) (hlt : s < 2 ^ N) : cloF D s < 2 ^ N := by
  have hz : St (2 ^ N - 1) := allN_st N (by omega)
  have hb : ∀ c, Co c → hasc (2 ^ N - 1) c = decide (c < N) := fun c hc => by
    obtain ⟨k, hk, rfl⟩ := co_nat hc
    rw [allN_bits N (by omega) k hk, decide_eq_decide]; omega
  have hi : ins s (2 ^ N - 1) = true := (ins_iff hs hz).2 fun c hc h => by rw [hb c hc]; exact decide_eq_true (bit_below hN hs hc hlt h)
  have := cloF_min hv hs hz hi (fun d hd _ => by rw [hb _ (hv d hd).2]; exact decide_eq_true (hD d hd))
  exact below_of_bits hN (cloF_st hv hs) fun c hc h => by
    have h2 := (ins_iff (cloF_st hv hs) hz).1 this c hc h
    rw [hb c hc] at h2
    exact of_decide_eq_true h2
end Go.Proofs.Ytjbmpnbfiahdhaa
namespace Go.Proofs.Ytjbmpnbfiahdhaa
open Go.RowKit
set_option linter.unusedVariables false
set_option maxRecDepth 100000

theorem trans_minL {L : List Int} {n : Int} (h : transOk L n = true) : transF L n = minL (hitsF L) := by
  have hf := grow_fold (trans_st h) L.length (Nat.le_refl _)
  rw [List.take_length] at hf
  rw [transF_fold h, hf]
/-- no pair of rows agrees in all of s -/
theorem uniq_pairs {R : List (List Int)} {m s : Int} {M : Nat} : ((ptnQ (sameB R m s) M M).length == 0) = true ↔ ∀ i k, i < k → k < M → sameB R m s i k = false := by
  unfold ptnQ
  rw [List.length_map, beq_iff_eq, List.length_eq_zero_iff, List.filter_eq_nil_iff]
  constructor
  · intro h
    suffices H : ∀ i, i < M → ∀ k, i < k → k < M → sameB R m s i k = false from fun i k hik hk => H i (by omega) k hik hk
    intro i
    induction i using Nat.strongRecOn with
    | _ i ih =>
      intro hi k hik hk
      cases hq : sameB R m s i k
      · rfl
      · exfalso
        refine h i (List.mem_range.2 hi) ?_
        unfold headQ
        rw [Bool.and_eq_true]
        constructor
        · cases ht : tkQ (sameB R m s) i i
          · rfl
          · obtain ⟨j, hj, _, hji⟩ := tk_iff.1 ht
            rw [ih j hj (by omega) i hj hi] at hji; cases hji
        · unfold clsTo
          rw [decide_eq_true_eq, List.length_cons, List.length_map]
          have : k ∈ (List.range M).filter fun k => decide (i < k) && sameB R m s i k := List.mem_filter.2 ⟨List.mem_range.2 hk, by simp [hik, hq]⟩
          have := List.length_pos_of_mem this
          omega
  · intro h j hj hh
    have hj := List.mem_range.1 hj
    unfold headQ at hh
    rw [Bool.and_eq_true] at hh
    have h2 := hh.2
    unfold clsTo at h2
    rw [decide_eq_true_eq, List.length_cons, List.length_map] at h2
    have h3 : 0 < ((List.range M).filter fun k => decide (j < k) && sameB R m s j k).length := by omega
    obtain ⟨k, hk⟩ := List.exists_mem_of_length_pos h3
    obtain ⟨hk1, hk2⟩ := List.mem_filter.1 hk
    rw [Bool.and_eq_true, decide_eq_true_eq] at hk2
    rw [h j k hk2.1 (List.mem_range.1 hk1)] at hk2
    cases hk2.2
theorem agreeSets_mem {n m x : Int} {R : List (List Int)} (ht : isTabF n R = true) (hm : modeF m = true) : x ∈ agreeSetsF n R m ↔ ∃ b, b < R.length ∧ ∃ a, a < b ∧ agreeF m (row R a) (row R b) = x := by
  obtain ⟨h1, h5, _, hl⟩ := isTab_of ht
  unfold agreeSetsF
  rw [ht, hm]
  simp only [Bool.and_self, if_true]
  rw [flt_mem]
  constructor
  · intro h
    rcases agPB_iff.1 h.2 with h | ⟨a, ha, _⟩
    · exact h
    · omega
  · rintro ⟨b, hb, a, hab, rfl⟩
    have hs : St (agreeF m (row R a) (row R b)) := agreeF_st (by have := hl a (by omega); omega)
    exact ⟨⟨hs.1, hs.2⟩, agPB_iff.2 (.inl ⟨b, hb, a, hab, rfl⟩)⟩
theorem edge_hits {n x g : Int} (h0 : 0 ≤ n) (h5 : n ≤ 5) (hx0 : 0 ≤ x) (hx : x < 2 ^ n.toNat) (hg : St g) : apart (dif (allM n) g) x = ins x g := by
  obtain ⟨N, rfl⟩ := Int.eq_ofNat_of_zero_le h0
  have hN : N < 6 := by omega
  have hp := pow_nat (n := (N : Int)) (by omega) h5
  have h : ∀ N < 6, ∀ x < 32, ∀ g < 32, ((x : Nat) : Int) < 2 ^ ((N : Nat) : Int).toNat → apart (dif (allM ((N : Nat) : Int)) ((g : Nat) : Int)) ((x : Nat) : Int) = ins ((x : Nat) : Int) ((g : Nat) : Int) := by decide +kernel
  obtain ⟨a, ha, rfl⟩ := st_nat hg
  obtain ⟨b, rfl⟩ := Int.eq_ofNat_of_zero_le hx0
  exact h N hN b (by have := hp.1; have := hp.2.1; omega) a ha hx
theorem edges_ok {n m : Int} {R : List (List Int)} (ht : isTabF n R = true) : transOk (edgesF n (agreeSetsF n R m)) n = true := by
  obtain ⟨h1, h5, _, _⟩ := isTab_of ht
  unfold transOk edgesF
  have hl := agreeSets_len n R m
  simp only [Bool.and_eq_true, decide_eq_true_eq, List.length_map, List.all_eq_true]
  refine ⟨⟨⟨by omega, h5⟩, by omega⟩, fun e he => ?_⟩
  obtain ⟨g, hg, rfl⟩ := List.mem_map.1 he
  obtain ⟨N, rfl⟩ := Int.eq_ofNat_of_zero_le (show 0 ≤ n by omega)
  obtain ⟨a, ha, rfl⟩ := st_nat (agreeSets_st g hg)
  have h : ∀ N < 6, ∀ g < 32, isAttr ((N : Nat) : Int) (dif (allM ((N : Nat) : Int)) ((g : Nat) : Int)) = true := by decide +kernel
  exact h N (by omega) a ha
theorem uniq_hits {n m x : Int} {R : List (List Int)} (ht : isTabF n R = true) (hm : modeF m = true) (hx0 : 0 ≤ x) (hx : x < 2 ^ n.toNat) : uniqF n R m x = hitsF (edgesF n (agreeSetsF n R m)) x := by
  obtain ⟨h1, h5, _, hl⟩ := isTab_of ht
  have ho : ptnOk n R m x = true := by
    unfold ptnOk isAttr
    rw [ht, hm]; simp; omega
  unfold uniqF
  rw [ho, Bool.true_and, Bool.eq_iff_iff, uniq_pairs]
  unfold hitsF edgesF
  rw [List.all_eq_true]
  constructor
  · intro h e he
    obtain ⟨g, hg, rfl⟩ := List.mem_map.1 he
    obtain ⟨b, hb, a, hab, rfl⟩ := (agreeSets_mem ht hm).1 hg
    rw [edge_hits (by omega) h5 hx0 hx (agreeF_st (by have := hl a (by omega); omega))]
    have := h a b hab hb
    unfold sameB at this
    rw [this]; rfl
  · intro h i k hik hk
    have hs : St (agreeF m (row R i) (row R k)) := agreeF_st (by have := hl i (by omega); omega)
    have := h _ (List.mem_map.2 ⟨agreeF m (row R i) (row R k), (agreeSets_mem ht hm).2 ⟨k, hk, i, hik, rfl⟩, rfl⟩)
    rw [edge_hits (by omega) h5 hx0 hx hs] at this
    unfold sameB
    simpa using this
theorem flt_congr {p q : Int → Bool} {k : Nat} (h : ∀ x : Int, 0 ≤ x → x < k → p x = q x) : flt p k = flt q k := by
  unfold flt
  refine List.filter_congr fun x hx => ?_
  obtain ⟨c, hc, rfl⟩ := List.mem_map.1 hx
  have := List.mem_range.1 hc
  exact h _ (by omega) (by omega)
theorem mkeys_trans (n : Int) (R : List (List Int)) (m : Int) : mkeysF n R m = keysTF n R m := by
  unfold mkeysF keysTF
  cases h : (isTabF n R && modeF m)
  · rfl
  · rw [Bool.and_eq_true] at h
    obtain ⟨h1, h5, _, _⟩ := isTab_of h.1
    have hp := pow_nat (n := n) (by omega) h5
    simp only [if_true]
    unfold transF
    rw [if_pos (edges_ok h.1)]
    rw [flt_congr fun x h0 hx => uniq_hits h.1 h.2 h0 (by have := hp.1; omega)]
theorem keys_covered {n m x : Int} {R : List (List Int)} (ht : isTabF n R = true) (hm : modeF m = true) (hx0 : 0 ≤ x) (hx : x < 2 ^ n.toNat) : ((mkeysF n R m).any fun k => bits BinOp.and .i64 k x == k) = uniqF n R m x := by
  obtain ⟨h1, h5, _, hl⟩ := isTab_of ht
  have hp := pow_nat (n := n) (by omega) h5
  have hsx : St x := ⟨hx0, by have := hp.1; have := hp.2.1; omega⟩
  have hok := edges_ok (m := m) ht
  have e : mkeysF n R m = minL (hitsF (edgesF n (agreeSetsF n R m))) := by
    rw [mkeys_trans]; unfold keysTF; rw [ht, hm]; exact trans_minL hok
  rw [e, uniq_hits ht hm hx0 hx, Bool.eq_iff_iff, List.any_eq_true]
  constructor
  · rintro ⟨k, hk, hi⟩
    obtain ⟨sk, pk, _⟩ := minL_mem.1 hk
    exact hitsF_up (trans_st hok) k x sk hsx (by rw [← insA_eq sk hsx]; exact hi) pk
  · intro h
    obtain ⟨k, hk, hi⟩ := exists_min (p := hitsF (edgesF n (agreeSetsF n R m))) (card x) x (Nat.le_refl _) hsx h
    exact ⟨k, hk, by have := insA_eq (minL_mem.1 hk).1 hsx; rw [hi] at this; exact this⟩
end Go.Proofs.Ytjbmpnbfiahdhaa
namespace Go.Proofs.Ytjbmpnbfiahdhaa
open Go.ChangeShapes Go.WideShapes Go.ChangeAt Go.RowKit
set_option linter.unusedVariables false
set_option maxRecDepth 100000

/-- n bytes that can be read. -/
structure BytesAt (w : World) (oa : Option Addr) (n : Nat) : Prop where
  at_ : 0 < n → ∃ b off, oa = some ⟨b, off, none⟩ ∧ b < w.heap.size ∧ ∀ k, k < n → ∃ x : Int, w.cell? ⟨b, off + k, none⟩ = some (.int .u8 x) ∧ 0 ≤ x ∧ x < 256
theorem BytesAt.keep {w w' : World} {oa : Option Addr} {n : Nat} (h : BytesAt w oa n) (hb : Below w.heap.size w w') : BytesAt w' oa n :=
  ⟨fun h0 => by
    obtain ⟨b, off, e, hlt, hc⟩ := h.at_ h0
    exact ⟨b, off, e, Nat.lt_of_lt_of_le hlt hb.size, fun k hk => by rw [hb.cell (p := ⟨b, off + k, none⟩) hlt]; exact hc k hk⟩⟩
def InBytes (w : World) (v : Value) : Prop := ∃ (oa : Option Addr) (len cap : Nat), v = .slice oa len cap ∧ len ≤ maxLen ∧ BytesAt w oa len
theorem open_bytes {H : Type} {enc : TypeId × Value → H} {W : World} {base : Nat} {held : Bool} {v : Value} {d : DataW H} {ps : List MemPlace} (hok : Value.okWide Try.prog W .any base 52 v)
    (h : DataW.Trod enc Try.prog W 0 (fun _ => true) held 52 v d ps) : InBytes W v := by
  obtain ⟨a0, len0, cap0, rfl⟩ := okWide_slice Try.underlying52 hok
  obtain ⟨fuel, hf⟩ := h
  rcases Go.ChangeShapes.open_ints Try.underlying52 Try.underlying5 (by kernel_rfl) hf with ⟨hcs, _⟩ | ⟨x, l, c, zs, hcs, _, hl, hm, hz, _, hcell, hwz⟩
  · simp [Value.cells] at hcs
    obtain ⟨rfl, rfl, rfl⟩ := hcs
    exact ⟨_, _, _, rfl, Nat.zero_le _, ⟨fun h => absurd h (by simp)⟩⟩
  · simp [Value.cells] at hcs
    obtain ⟨rfl, rfl, rfl⟩ := hcs
    refine ⟨_, _, _, rfl, Nat.le_trans hl hm, ⟨fun h0 => ?_⟩⟩
    have hz' : zs.length = cap0 := by simpa using hz
    obtain ⟨b, off, spot⟩ := x
    have hc := hcell 0 (by omega)
    have hspot : spot = none := by simpa [Addr.add] using World.cell?_spot hc
    subst hspot
    refine ⟨b, off, rfl, World.block_lt_of_cell? W ⟨b, off, none⟩ (by simpa [Addr.add] using hc), fun k hk => ?_⟩
    have hk' : k < zs.length := by omega
    have := hcell k hk'
    have e : (⟨b, off, none⟩ : Addr).add k = ⟨b, off + k, none⟩ := by unfold Addr.add; split <;> simp_all
    rw [e] at this
    have hw := hwz (zs.getD k 0) (by rw [List.getD_eq_getElem?_getD, List.getElem?_eq_getElem hk']; exact List.getElem_mem hk')
    refine ⟨_, this, ?_⟩
    generalize zs.getD k 0 = z at *
    have hw' : (decide (IntKind.u8.min ≤ z) && decide (z ≤ IntKind.u8.max)) = true := hw
    rw [show IntKind.u8.min = 0 from rfl, show IntKind.u8.max = 255 from rfl, Bool.and_eq_true, decide_eq_true_eq, decide_eq_true_eq] at hw'
    omega
end Go.Proofs.Ytjbmpnbfiahdhaa
namespace Go.Proofs.Ytjbmpnbfiahdhaa
open Go.RowKit
set_option linter.unusedVariables false
set_option maxRecDepth 100000

/-- Block g is a cursor. -/
def Cur (w : World) (g : Nat) : Prop := ∃ (oa : Option Addr) (n cap i : Nat) (h : Int), Blk w g #[.slice oa n cap, .int .i64 i, .int .i64 h] 156 ∧ i ≤ n ∧ n ≤ 1048576 ∧ BytesAt w oa n ∧ (0 < n → ∀ a, oa = some a → a.block < g)
theorem Cur.lt {w : World} {g : Nat} (h : Cur w g) : g < w.heap.size := by obtain ⟨_, _, _, _, _, h, _⟩ := h; exact h.lt
theorem BytesAt.grown {w w' : World} {oa : Option Addr} {n : Nat} {row : Option Nat} (h : BytesAt w oa n) (hg : w.grownBy w' row) (hne : 0 < n → ∀ a, oa = some a → some a.block ≠ row) : BytesAt w' oa n :=
  ⟨fun h0 => by
    obtain ⟨b, off, e, hlt, hc⟩ := h.at_ h0
    exact ⟨b, off, e, Nat.lt_of_lt_of_le hlt hg.size, fun k hk => by rw [World.cell?_of_block (hg.block b hlt (hne h0 _ e))]; exact hc k hk⟩⟩
theorem Cur.keep {w w' : World} {g : Nat} (h : Cur w g) (hb : Below w.heap.size w w') : Cur w' g := by
  obtain ⟨oa, n, cap, i, x, h1, h2, h3, h4, h5⟩ := h
  exact ⟨oa, n, cap, i, x, h1.keep hb, h2, h3, h4.keep hb, h5⟩
theorem Blk.gr {a b : World} {g : Nat} {c : Array Value} {T : TypeId} {row : Option Nat} (h : Blk a g c T) (hg : a.grownBy b row) (hne : some g ≠ row) : Blk b g c T := (hg.block g h.lt hne).trans h
/-- What the call made behind the cursor may turn. -/
theorem Cur.grown {w w' : World} {g : Nat} {row : Option Nat} (h : Cur w g) (hg : w.grownBy w' row) (hr : ∀ k, row = some k → g < k) : Cur w' g := by
  obtain ⟨oa, n, cap, i, x, h1, h2, h3, h4, h5⟩ := h
  refine ⟨oa, n, cap, i, x, h1.gr hg (fun e => by have := hr g e.symm; omega), h2, h3, h4.grown hg (fun h0 a e e' => ?_), h5⟩
  have := h5 h0 a e
  have := hr _ e'.symm
  omega
theorem and255 (x : Int) : 0 ≤ bits BinOp.and .i64 x 255 ∧ bits BinOp.and .i64 x 255 < 256 := by
  unfold bits
  have h : ∀ b : BitVec 64, (b &&& BitVec.ofInt 64 255).toNat < 256 := fun b => by
    rw [BitVec.toNat_and]
    exact Nat.lt_of_le_of_lt Nat.and_le_right (by decide)
  have := h (BitVec.ofInt 64 x)
  have e : ∀ n : Nat, n < 256 → IntKind.i64.wrap (n : Int) = n := fun n hn => by
    unfold IntKind.wrap
    simp [IntKind.bits, IntKind.signed]
    omega
  show 0 ≤ IntKind.i64.wrap ((BitVec.ofInt 64 x &&& BitVec.ofInt 64 255).toNat : Int) ∧ IntKind.i64.wrap ((BitVec.ofInt 64 x &&& BitVec.ofInt 64 255).toNat : Int) < 256
  rw [e _ this]
  omega
set_option maxHeartbeats 800000 in
theorem c_l1Byte (g : Nat) (w : World) (hc : Cur w g) :
    Calls Try.prog 170 #[.pointer (some ⟨g, 0, none⟩)] w fun e w' => ∃ x : Int, e = .returned (.int .i64 x) ∧ 0 ≤ x ∧ x < 256 ∧ Cur w' g ∧ w.grownBy w' (some g) := by
  obtain ⟨oa, n, cap, i, h, k, hi, hn, hB, hlo⟩ := hc
  have k2 := k.cell 2 (.int .i64 h) rfl
  have f2 := k.free 2
  have HI : Hid (i ≤ n) := hi
  clear hi
  go_enter Try.func170, Try.ntmps170
  go_wp2_with fail
  have kk : Blk _ g #[.slice oa n cap, .int .i64 i, .int .i64 (wrap64 (wrap64 (h * 6364136223846793005) + 1442695040888963407))] 156 := k.set 2 (.int .i64 (wrap64 (wrap64 (h * 6364136223846793005) + 1442695040888963407)))
  have hg := grown_set w g 2 (.int .i64 (wrap64 (wrap64 (h * 6364136223846793005) + 1442695040888963407)))
  clear k k2 f2
  generalize wrap64 (wrap64 (h * 6364136223846793005) + 1442695040888963407) = h2 at *
  have s2 := kk.cell 2 (.int .i64 h2) rfl
  (refine wp_region_after (by kernel_rfl) (by kernel_rfl) ?_; have q_s2 := fun (x : After _) => cell_keep s2 x.bel; (repeat (go_big_quiet_step (fail))); clear q_s2; refine wpQuiet_nil ?_; rintro _ ⟨⟨w1, hbn⟩, rfl⟩; (try simp only [After.w]))
  replace kk := kk.keep hbn
  replace hg := grown_trans hg (grown_of_below hbn _)
  clear hbn s2
  have hx := and255 (bits BinOp.xor IntKind.i64 (h2 / 8589934592) (h2 / 35184372088832))
  generalize bits BinOp.and IntKind.i64 (bits BinOp.xor IntKind.i64 (h2 / 8589934592) (h2 / 35184372088832)) 255 = x at *
  obtain ⟨hx0, hx1⟩ := hx
  go_wp2_with fail
  have s0 := kk.cell 0 (.slice oa n cap) rfl
  have s1 := kk.cell 1 (.int .i64 i) rfl
  (refine wp_region_after (by kernel_rfl) (by kernel_rfl) ?_; have q_s0 := fun (x : After _) => cell_keep s0 x.bel; have q_s1 := fun (x : After _) => cell_keep s1 x.bel; (repeat (go_big_quiet_step (fail))); clear q_s0; clear q_s1; refine wpQuiet_nil ?_; rintro _ ⟨⟨w1, hbn⟩, rfl⟩; (try simp only [After.w]))
  replace kk := kk.keep hbn
  replace hg := grown_trans hg (grown_of_below hbn _)
  clear hbn s0 s1
  by_cases hlt : i < n
  · have hB' := hB.grown hg (fun h0 a e e' => by injection e' with e'; have := hlo h0 a e; omega)
    obtain ⟨b, off, rfl, hbs, hcell⟩ := hB'.at_ (by omega)
    obtain ⟨y, hy, hy0, hy1⟩ := hcell i hlt
    have s0 := kk.cell 0 (.slice (some ⟨b, off, none⟩) n cap) rfl
    have s1 := kk.cell 1 (.int .i64 i) rfl
    clear hcell
    go_wp2_with fail
    (refine wp_region_after (by kernel_rfl) (by kernel_rfl) ?_; have q_s0 := fun (x : After _) => cell_keep s0 x.bel; have q_s1 := fun (x : After _) => cell_keep s1 x.bel; have q_hy := fun (x : After _) => cell_keep hy x.bel; (repeat (go_big_quiet_step (fail))); clear q_s0; clear q_s1; clear q_hy; refine wpQuiet_nil ?_; rintro _ ⟨⟨w1, hbn⟩, rfl⟩; (try simp only [After.w]))
    replace kk := kk.keep hbn
    replace hg := grown_trans hg (grown_of_below hbn _)
    clear hbn s0 s1 hy
    have hz := and255 (x + y)
    generalize bits BinOp.and IntKind.i64 (x + y) 255 = z at *
    obtain ⟨hz0, hz1⟩ := hz
    have s1 := kk.cell 1 (.int .i64 i) rfl
    have f1 := kk.free 1
    have k2 : Blk _ g #[.slice (some ⟨b, off, none⟩) n cap, .int .i64 ((i : Int) + 1), .int .i64 h2] 156 := kk.set 1 (.int .i64 ((i : Int) + 1))
    have hg2 := grown_trans hg (grown_set _ g 1 (.int .i64 ((i : Int) + 1)))
    have hB2 := hB.grown hg2 (fun h0 a e e' => by injection e' with e'; have := hlo h0 a e; omega)
    clear hB' hg kk
    go_wp2
    go_ret
    exact ⟨z, rfl, hz0, hz1, ⟨_, n, cap, i + 1, h2, k2, by omega, hn, hB2, hlo⟩, hg2⟩
  · have HE : Hid (i = n) := by have := HI.out; show i = n; omega
    go_wp2
    go_ret
    exact ⟨x, rfl, hx0, hx1, ⟨oa, n, cap, i, h2, kk, HI.out, hn, hB.grown hg (fun h0 a e e' => by injection e' with e'; have := hlo h0 a e; omega), hlo⟩, hg⟩
end Go.Proofs.Ytjbmpnbfiahdhaa
namespace Go.Proofs.Ytjbmpnbfiahdhaa
open Go.RowKit
set_option linter.unusedVariables false
set_option maxRecDepth 100000

theorem tmod_in {x n : Int} (h0 : 0 ≤ x) (hn : 0 < n) : 0 ≤ x.tmod n ∧ x.tmod n < n := by
  rw [Int.tmod_eq_emod_of_nonneg h0]
  exact ⟨Int.emod_nonneg _ (by omega), Int.emod_lt_of_pos _ hn⟩
set_option maxHeartbeats 800000 in
theorem c_l1Below (g : Nat) (n : Int) (hn : n ≤ 256) (w : World) (hc : Cur w g) :
    Calls Try.prog 115 #[.pointer (some ⟨g, 0, none⟩), .int .i64 n] w fun e w' => ∃ x : Int, e = .returned (.int .i64 x) ∧ 0 ≤ x ∧ (0 < n → x < n) ∧ (n ≤ 0 → x = 0) ∧ Cur w' g ∧ w.grownBy w' (some g) := by
  by_cases h0 : n ≤ 0
  · go_enter Try.func115, Try.ntmps115
    go_wp2
    go_ret
    exact ⟨0, rfl, by omega, by omega, fun _ => rfl, hc, grown_refl _ _⟩
  · have hne : n ≠ 0 := by omega
    have hne1 : n ≠ -1 := by omega
    go_enter Try.func115, Try.ntmps115
    go_wp2_with fail
    refine (c_l1Byte g _ hc).mono ?_
    rintro e w1 ⟨x, rfl, hx0, hx1, hc1, hg⟩
    have hm0 := Int.emod_nonneg x hne
    have hm1 := Int.emod_lt_of_pos x (show 0 < n by omega)
    clear hc
    go_wp2
    go_ret
    exact ⟨x % n, rfl, hm0, fun _ => hm1, fun h => by omega, hc1, hg⟩
theorem c_l1Once (g : Nat) (n : Int) (hn : n ≤ 256) (w : World) (hc : Cur w g) :
    Calls Try.prog 113 #[.pointer (some ⟨g, 0, none⟩), .int .i64 n] w fun e w' => ∃ b : Bool, e = .returned (.bool b) ∧ Cur w' g ∧ w.grownBy w' (some g) := by
  go_enter Try.func113, Try.ntmps113
  go_wp2_with fail
  refine (c_l1Below g n hn _ hc).mono ?_
  rintro e w1 ⟨x, rfl, _, _, _, hc1, hg⟩
  clear hc
  go_wp2
  go_ret
  exact ⟨_, rfl, hc1, hg⟩
theorem IntsAt.grown {w w' : World} {oa : Option Addr} {L : List Int} {row : Option Nat} (h : IntsAt w oa L) (hg : w.grownBy w' row) (hne : ∀ a, oa = some a → some a.block ≠ row) : IntsAt w' oa L :=
  ⟨h.len, fun h0 => by
    obtain ⟨b, off, e, hlt, hc⟩ := h.at_ h0
    exact ⟨b, off, e, Nat.lt_of_lt_of_le hlt hg.size, fun k hk => by rw [World.cell?_of_block (hg.block b hlt (hne _ e))]; exact hc k hk⟩⟩
theorem c_l1PickInt (g : Nat) (oa) (cap : Nat) (L : List Int) (h0 : 0 < L.length) (hl : L.length ≤ 256) (w : World) (hc : Cur w g) (hL : IntsAt w oa L) (hne : ∀ a, oa = some a → a.block ≠ g) :
    Calls Try.prog 169 #[.pointer (some ⟨g, 0, none⟩), .slice oa L.length cap] w fun e w' => ∃ x : Int, e = .returned (.int .i64 x) ∧ x ∈ L ∧ Cur w' g ∧ w.grownBy w' (some g) := by
  go_enter Try.func169, Try.ntmps169
  go_wp2_with fail
  refine (c_l1Below g L.length (by omega) _ hc).mono ?_
  rintro e w1 ⟨x, rfl, hx0, hx1, _, hc1, hg⟩
  obtain ⟨k, rfl⟩ := Int.eq_ofNat_of_zero_le hx0
  have hk : k < L.length := by have := hx1 (by omega); omega
  replace hL := hL.grown hg (fun a e e' => hne a e (by injection e'))
  obtain ⟨b, off, rfl, hbs, hcell⟩ := hL.at_ (by omega)
  have h1 := hcell k hk
  have HM : Hid (nth L k ∈ L) := List.mem_iff_getElem?.2 ⟨k, nth_eq hk⟩
  clear hcell hx1 hc hne hL
  go_wp2
  go_ret
  exact ⟨_, rfl, HM.out, hc1, hg⟩
/-- A literal list of ints behind the cursor. -/
theorem lit_ints (w : World) (cs : Array Value) (L : List Int) (hl : L.length ≤ 100) (hcs : ∀ k, k < L.length → cs[k]? = some (.int .i64 (nth L k))) (T : TypeId) : IntsAt (w.alloc (.cells cs T)) (some ⟨w.heap.size, 0, none⟩) L :=
  ⟨by unfold Room; omega, fun _ => ⟨w.heap.size, 0, rfl, by simp, fun k hk => by rw [Nat.zero_add]; simp only [World.cell?, heap_alloc_new]; exact hcs k hk⟩⟩
theorem cur_alloc {w : World} {g : Nat} (h : Cur w g) (o : Obj) : Cur (w.alloc o) g := h.keep ((Below.refl _ _).alloc (Nat.le_refl _) o)
theorem grown_alloc {w w' : World} {row : Option Nat} {o : Obj} (h : (w.alloc o).grownBy w' row) : w.grownBy w' row := grown_trans (grown_of_below ((Below.refl _ _).alloc (Nat.le_refl _) o) row) h
theorem c_l2Any (g : Nat) (w : World) (hc : Cur w g) :
    Calls Try.prog 114 #[.pointer (some ⟨g, 0, none⟩)] w fun e w' => ∃ x : Int, e = .returned (.int .i64 x) ∧ -1 ≤ x ∧ x ≤ 33 ∧ Cur w' g ∧ w.grownBy w' (some g) := by
  go_enter Try.func114, Try.ntmps114
  go_wp2_with fail
  refine (c_l1Once g 8 (by omega) _ hc).mono ?_
  rintro e w1 ⟨t, rfl, hc1, hg⟩
  clear hc
  cases t
  · go_wp2_with fail
    refine (c_l1Below g 32 (by omega) _ hc1).mono ?_
    rintro e w2 ⟨x, rfl, hx0, hx1, _, hc2, hg2⟩
    have h32 := hx1 (by omega)
    replace hg := grown_trans hg hg2
    clear hc1 hg2 hx1
    go_wp2
    go_ret
    exact ⟨x, rfl, by omega, by omega, hc2, hg⟩
  · have hL := fun T => lit_ints w1 #[.int .i64 (-1), .int .i64 31, .int .i64 32, .int .i64 33] [-1, 31, 32, 33] (by simp) (fun k hk => by match k, hk with | 0, _ => rfl | 1, _ => rfl | 2, _ => rfl | 3, _ => rfl) T
    have hlt := hc1.lt
    go_wp2_with fail
    refine (c_l1PickInt g _ 4 [-1, 31, 32, 33] (by simp) (by simp) _ (cur_alloc hc1 _) (hL _) (fun a e => by injection e with e; subst e; simp; omega)).mono ?_
    rintro e w2 ⟨x, rfl, hx, hc2, hg2⟩
    replace hg := grown_trans hg (grown_alloc hg2)
    have hx2 : -1 ≤ x ∧ x ≤ 33 := by simp at hx; omega
    clear hc1 hg2 hL hx
    go_wp2
    go_ret
    exact ⟨x, rfl, hx2.1, hx2.2, hc2, hg⟩
end Go.Proofs.Ytjbmpnbfiahdhaa
namespace Go.Proofs.Ytjbmpnbfiahdhaa
open Go.RowKit
set_option linter.unusedVariables false
set_option maxRecDepth 100000

set_option maxHeartbeats 800000 in
theorem c_l1New (oa) (n cap : Nat) (hn : n ≤ 1048576) (w : World) (hB : BytesAt w oa n) :
    Calls Try.prog 111 #[.slice oa n cap] w fun e w' => e = .returned (.pointer (some ⟨w.heap.size, 0, none⟩)) ∧ Cur w' w.heap.size ∧ Below w.heap.size w w' := by
  go_enter Try.func111, Try.ntmps111
  go_wp2
  go_loop [3, 4] (fun h i => ∃ (x : Int) (k : Nat), h = .int .i64 x ∧ i = .int .i64 k ∧ k ≤ n) (fun _ i => n - (intOf i).toNat)
  case atStart => exact ⟨_, 0, rfl, rfl, Nat.zero_le _⟩
  case round =>
    obtain ⟨x, k, rfl, rfl, hk⟩ := hrel
    by_cases hlt : k < n
    · by_cases h4 : (k : Int) < 4000
      · obtain ⟨b, off, rfl, hbs, hc⟩ := hB.at_ (by omega)
        obtain ⟨y, hy, hy0, hy1⟩ := hc k hlt
        clear hc hB
        go_wp2
        go_round
        case rel => exact ⟨_, k + 1, rfl, by go_num, by omega⟩
        case measure => simp [intOf]; omega
      · go_wp2
        go_ret
        exact ⟨rfl, ⟨oa, n, cap, 0, x, Blk.new w _ _, Nat.zero_le _, hn, hB.keep ((Below.refl _ _).alloc (Nat.le_refl _) _), fun h0 a e => by obtain ⟨b, off, e', hlt, _⟩ := hB.at_ h0; rw [e] at e'; injection e' with e'; rw [e']; exact hlt⟩, (Below.refl _ _).alloc (Nat.le_refl _) _⟩
    · have hkk : k = n := by omega
      have HK : Hid (k = n) := hkk
      clear hkk
      go_wp2
      go_ret
      exact ⟨rfl, ⟨oa, n, cap, 0, x, Blk.new w _ _, Nat.zero_le _, hn, hB.keep ((Below.refl _ _).alloc (Nat.le_refl _) _), fun h0 a e => by obtain ⟨b, off, e', hlt, _⟩ := hB.at_ h0; rw [e] at e'; injection e' with e'; rw [e']; exact hlt⟩, (Below.refl _ _).alloc (Nat.le_refl _) _⟩
/-- Whatever was made before the cursor's own turns lies as it lay. -/
theorem Blk.cur {w w' : World} {k g : Nat} {c : Array Value} {T : TypeId} (h : Blk w k c T) (hg : w.grownBy w' (some g)) (hne : k ≠ g) : Blk w' k c T := h.gr hg (fun e => hne (by injection e))
theorem grown_new {w w2 : World} {g k j : Nat} {v : Value} (hG : w.grownBy w2 (some g)) (hk : w.heap.size ≤ k) : w.grownBy (w2.setCell ⟨k, j, none⟩ v) (some g) :=
  ⟨hG.os, hG.tape, hG.output, by have := hG.size; simpa using this, fun i hi hne => (Below.heap_setCell w2 ⟨k, j, none⟩ v i (by show i ≠ k; omega)).trans (hG.block i hi hne)⟩
theorem Cur.set {w : World} {g k j : Nat} {v : Value} (h : Cur w g) (hk : g < k) : Cur (w.setCell ⟨k, j, none⟩ v) g := h.grown (grown_set w k j v) (fun i e => by injection e with e; omega)
set_option maxHeartbeats 800000 in
theorem c_l6Dep (g : Nat) (N : Nat) (h5 : N ≤ 5) (w : World) (hc : Cur w g) :
    Calls Try.prog 177 #[.pointer (some ⟨g, 0, none⟩), .int .i64 N] w fun e w' => ∃ l r : Int, e = .returned (.agg #[.int .i64 l, .int .i64 r]) ∧ Cur w' g ∧ w.grownBy w' (some g) := by
  have hp := pow_wrap (n := (N : Int)) (by omega) (by omega)
  simp only [Int.toNat_natCast] at hp
  have hp1 := hp.1
  have hp2 := hp.2.1
  clear hp
  have hlt := hc.lt
  have kZ := Blk.new w #[.int .i64 0, .int .i64 0] 55
  have hG := grown_of_below ((Below.refl w.heap.size w).alloc (Nat.le_refl _) (.cells #[.int .i64 0, .int .i64 0] 55)) (some g)
  replace hc := cur_alloc hc (.cells #[.int .i64 0, .int .i64 0] 55)
  go_enter Try.func177, Try.ntmps177
  go_wp2_with fail
  refine (c_l1Below g (2 ^ N) (by omega) _ hc).mono ?_
  rintro e w1 ⟨x, rfl, _, _, _, hc1, hg⟩
  replace kZ := kZ.cur hg (by omega)
  replace hG := grown_trans hG hg
  clear hc hg
  go_wp2_with fail
  refine (c_l1Below g N (by omega) _ hc1).mono ?_
  rintro e w2 ⟨y, rfl, _, _, _, hc2, hg⟩
  replace kZ := kZ.cur hg (by omega)
  replace hG := grown_trans hG hg
  clear hc1 hg
  have z0 := kZ.cell 0 (.int .i64 0) rfl
  have z1 := kZ.cell 1 (.int .i64 0) rfl
  have f0 := kZ.free 0
  have f1 := kZ.free 1
  go_wp2
  exact bodyPost_ret (v := .agg #[.int .i64 x, .int .i64 y]) (by simp [results, Try.results177, go_sem, z0, z1]) rfl ⟨x, y, rfl, (hc2.set hlt).set hlt, grown_new (grown_new hG (Nat.le_refl _)) (Nat.le_refl _)⟩
set_option maxHeartbeats 1600000 in
theorem c_l6Any (g : Nat) (n : Int) (w : World) (hc : Cur w g) :
    Calls Try.prog 128 #[.pointer (some ⟨g, 0, none⟩), .int .i64 n] w fun e w' => ∃ l r : Int, e = .returned (.agg #[.int .i64 l, .int .i64 r]) ∧ Cur w' g ∧ w.grownBy w' (some g) := by
  have hlt := hc.lt
  have kZ := Blk.new w #[.int .i64 0, .int .i64 0] 55
  have hG := grown_of_below ((Below.refl w.heap.size w).alloc (Nat.le_refl _) (.cells #[.int .i64 0, .int .i64 0] 55)) (some g)
  replace hc := cur_alloc hc (.cells #[.int .i64 0, .int .i64 0] 55)
  cases hin : inB n 1 5
  · go_enter Try.func128, Try.ntmps128
    go_wp2_with fail
    refine Calls.mono (Ans.eqb (c_l1In _ _ _ _) hin) ?_
    rintro e w1 ⟨rfl, hbn⟩
    replace kZ := kZ.keep hbn
    replace hc := hc.keep hbn
    replace hG := grown_trans hG (grown_of_below hbn _)
    clear hbn
    go_wp2_with fail
    refine (c_l6Dep g 3 (by omega) _ hc).mono ?_
    rintro e w2 ⟨l, r, rfl, hc2, hg⟩
    replace kZ := kZ.cur hg (by omega)
    replace hG := grown_trans hG hg
    clear hc hg
    have kD := Blk.new w2 #[.int .i64 l, .int .i64 r] 55
    have hl2 := kZ.lt
    replace kZ := kZ.alloc (.cells #[.int .i64 l, .int .i64 r] 55)
    replace hc2 := cur_alloc hc2 (.cells #[.int .i64 l, .int .i64 r] 55)
    replace hG := grown_trans hG (grown_of_below ((Below.refl w2.heap.size w2).alloc (Nat.le_refl _) (.cells #[.int .i64 l, .int .i64 r] 55)) (some g))
    go_wp2_with fail
    refine (c_l1Below g 14 (by omega) _ hc2).mono ?_
    rintro e w3 ⟨q, rfl, _, _, _, hc3, hg⟩
    replace kZ := kZ.cur hg (by omega)
    replace kD := kD.cur hg (by omega)
    replace hG := grown_trans hG hg
    clear hc2 hg
    by_cases e0 : q = 0
    · go_wp2_with fail
      refine (c_l2Any g _ hc3).mono ?_
      rintro e w4 ⟨x, rfl, _, _, hc4, hg⟩
      replace kZ := kZ.cur hg (by omega)
      replace kD := kD.cur hg (by omega)
      replace hG := grown_trans hG hg
      clear hc3 hg
      have d0 := kD.cell 0 (.int .i64 l) rfl
      have d1 := kD.cell 1 (.int .i64 r) rfl
      have e0' := kD.free 0
      have z0 := kZ.cell 0 (.int .i64 0) rfl
      have z1 := kZ.cell 1 (.int .i64 0) rfl
      have f0 := kZ.free 0
      have f1 := kZ.free 1
      have kD2 : Blk _ w2.heap.size #[.int .i64 x, .int .i64 r] 55 := kD.set 0 (.int .i64 x)
      have kZ2 := kZ.far ⟨w2.heap.size, 0, none⟩ (.int .i64 x) (by simp; omega)
      have y0 := kD2.cell 0 (.int .i64 x) rfl
      have y1 := kD2.cell 1 (.int .i64 r) rfl
      have v0 := kZ2.cell 0 (.int .i64 0) rfl
      have v1 := kZ2.cell 1 (.int .i64 0) rfl
      have g0 := kZ2.free 0
      have g1 := kZ2.free 1
      have hc5 := Cur.set (j := 0) (v := .int .i64 x) hc4 (show g < w2.heap.size by omega)
      have hG5 := grown_new (j := 0) (v := .int .i64 x) hG (show w.heap.size ≤ w2.heap.size by omega)
      go_wp2
      exact bodyPost_ret (v := .agg #[.int .i64 x, .int .i64 r]) (by simp [results, Try.results128, go_sem, v0, v1]) rfl ⟨x, r, rfl, (hc5.set hlt).set hlt, grown_new (grown_new hG5 (Nat.le_refl _)) (Nat.le_refl _)⟩
    · by_cases e1 : q = 1
      · have hL := fun T => lit_ints w3 #[.int .i64 (-1), .int .i64 4, .int .i64 5] [-1, 4, 5] (by simp) (fun k hk => by match k, hk with | 0, _ => rfl | 1, _ => rfl | 2, _ => rfl) T
        have hlt3 := hc3.lt
        go_wp2_with fail
        refine (c_l1PickInt g _ 3 [-1, 4, 5] (by simp) (by simp) _ (cur_alloc hc3 _) (hL _) (fun a e => by injection e with e; subst e; simp; omega)).mono ?_
        rintro e w4 ⟨x, rfl, _, hc4, hg⟩
        replace hg := grown_alloc hg
        replace kZ := kZ.cur hg (by omega)
        replace kD := kD.cur hg (by omega)
        replace hG := grown_trans hG hg
        clear hc3 hg hL
        have d0 := kD.cell 0 (.int .i64 l) rfl
        have d1 := kD.cell 1 (.int .i64 r) rfl
        have e0' := kD.free 1
        have kD2 : Blk _ w2.heap.size #[.int .i64 l, .int .i64 x] 55 := kD.set 1 (.int .i64 x)
        have kZ2 := kZ.far ⟨w2.heap.size, 1, none⟩ (.int .i64 x) (by simp; omega)
        have y0 := kD2.cell 0 (.int .i64 l) rfl
        have y1 := kD2.cell 1 (.int .i64 x) rfl
        have v0 := kZ2.cell 0 (.int .i64 0) rfl
        have v1 := kZ2.cell 1 (.int .i64 0) rfl
        have g0 := kZ2.free 0
        have g1 := kZ2.free 1
        have hc5 := Cur.set (j := 1) (v := .int .i64 x) hc4 (show g < w2.heap.size by omega)
        have hG5 := grown_new (j := 1) (v := .int .i64 x) hG (show w.heap.size ≤ w2.heap.size by omega)
        go_wp2
        exact bodyPost_ret (v := .agg #[.int .i64 l, .int .i64 x]) (by simp [results, Try.results128, go_sem, v0, v1]) rfl ⟨l, x, rfl, (hc5.set hlt).set hlt, grown_new (grown_new hG5 (Nat.le_refl _)) (Nat.le_refl _)⟩
      · have d0 := kD.cell 0 (.int .i64 l) rfl
        have d1 := kD.cell 1 (.int .i64 r) rfl
        have z0 := kZ.cell 0 (.int .i64 0) rfl
        have z1 := kZ.cell 1 (.int .i64 0) rfl
        have f0 := kZ.free 0
        have f1 := kZ.free 1
        go_wp2
        exact bodyPost_ret (v := .agg #[.int .i64 l, .int .i64 r]) (by simp [results, Try.results128, go_sem, z0, z1]) rfl ⟨l, r, rfl, (hc3.set hlt).set hlt, grown_new (grown_new hG (Nat.le_refl _)) (Nat.le_refl _)⟩
  · obtain ⟨N, rfl⟩ := Int.eq_ofNat_of_zero_le (show 0 ≤ n by unfold inB at hin; simp at hin; omega)
    have hN : N ≤ 5 := by unfold inB at hin; simp at hin; omega
    go_enter Try.func128, Try.ntmps128
    go_wp2_with fail
    refine Calls.mono (Ans.eqb (c_l1In _ _ _ _) hin) ?_
    rintro e w1 ⟨rfl, hbn⟩
    replace kZ := kZ.keep hbn
    replace hc := hc.keep hbn
    replace hG := grown_trans hG (grown_of_below hbn _)
    clear hbn
    go_wp2_with fail
    refine (c_l6Dep g N (by omega) _ hc).mono ?_
    rintro e w2 ⟨l, r, rfl, hc2, hg⟩
    replace kZ := kZ.cur hg (by omega)
    replace hG := grown_trans hG hg
    clear hc hg
    have kD := Blk.new w2 #[.int .i64 l, .int .i64 r] 55
    have hl2 := kZ.lt
    replace kZ := kZ.alloc (.cells #[.int .i64 l, .int .i64 r] 55)
    replace hc2 := cur_alloc hc2 (.cells #[.int .i64 l, .int .i64 r] 55)
    replace hG := grown_trans hG (grown_of_below ((Below.refl w2.heap.size w2).alloc (Nat.le_refl _) (.cells #[.int .i64 l, .int .i64 r] 55)) (some g))
    go_wp2_with fail
    refine (c_l1Below g 14 (by omega) _ hc2).mono ?_
    rintro e w3 ⟨q, rfl, _, _, _, hc3, hg⟩
    replace kZ := kZ.cur hg (by omega)
    replace kD := kD.cur hg (by omega)
    replace hG := grown_trans hG hg
    clear hc2 hg
    by_cases e0 : q = 0
    · go_wp2_with fail
      refine (c_l2Any g _ hc3).mono ?_
      rintro e w4 ⟨x, rfl, _, _, hc4, hg⟩
      replace kZ := kZ.cur hg (by omega)
      replace kD := kD.cur hg (by omega)
      replace hG := grown_trans hG hg
      clear hc3 hg
      have d0 := kD.cell 0 (.int .i64 l) rfl
      have d1 := kD.cell 1 (.int .i64 r) rfl
      have e0' := kD.free 0
      have z0 := kZ.cell 0 (.int .i64 0) rfl
      have z1 := kZ.cell 1 (.int .i64 0) rfl
      have f0 := kZ.free 0
      have f1 := kZ.free 1
      have kD2 : Blk _ w2.heap.size #[.int .i64 x, .int .i64 r] 55 := kD.set 0 (.int .i64 x)
      have kZ2 := kZ.far ⟨w2.heap.size, 0, none⟩ (.int .i64 x) (by simp; omega)
      have y0 := kD2.cell 0 (.int .i64 x) rfl
      have y1 := kD2.cell 1 (.int .i64 r) rfl
      have v0 := kZ2.cell 0 (.int .i64 0) rfl
      have v1 := kZ2.cell 1 (.int .i64 0) rfl
      have g0 := kZ2.free 0
      have g1 := kZ2.free 1
      have hc5 := Cur.set (j := 0) (v := .int .i64 x) hc4 (show g < w2.heap.size by omega)
      have hG5 := grown_new (j := 0) (v := .int .i64 x) hG (show w.heap.size ≤ w2.heap.size by omega)
      go_wp2
      exact bodyPost_ret (v := .agg #[.int .i64 x, .int .i64 r]) (by simp [results, Try.results128, go_sem, v0, v1]) rfl ⟨x, r, rfl, (hc5.set hlt).set hlt, grown_new (grown_new hG5 (Nat.le_refl _)) (Nat.le_refl _)⟩
    · by_cases e1 : q = 1
      · have hL := fun T => lit_ints w3 #[.int .i64 (-1), .int .i64 4, .int .i64 5] [-1, 4, 5] (by simp) (fun k hk => by match k, hk with | 0, _ => rfl | 1, _ => rfl | 2, _ => rfl) T
        have hlt3 := hc3.lt
        go_wp2_with fail
        refine (c_l1PickInt g _ 3 [-1, 4, 5] (by simp) (by simp) _ (cur_alloc hc3 _) (hL _) (fun a e => by injection e with e; subst e; simp; omega)).mono ?_
        rintro e w4 ⟨x, rfl, _, hc4, hg⟩
        replace hg := grown_alloc hg
        replace kZ := kZ.cur hg (by omega)
        replace kD := kD.cur hg (by omega)
        replace hG := grown_trans hG hg
        clear hc3 hg hL
        have d0 := kD.cell 0 (.int .i64 l) rfl
        have d1 := kD.cell 1 (.int .i64 r) rfl
        have e0' := kD.free 1
        have kD2 : Blk _ w2.heap.size #[.int .i64 l, .int .i64 x] 55 := kD.set 1 (.int .i64 x)
        have kZ2 := kZ.far ⟨w2.heap.size, 1, none⟩ (.int .i64 x) (by simp; omega)
        have y0 := kD2.cell 0 (.int .i64 l) rfl
        have y1 := kD2.cell 1 (.int .i64 x) rfl
        have v0 := kZ2.cell 0 (.int .i64 0) rfl
        have v1 := kZ2.cell 1 (.int .i64 0) rfl
        have g0 := kZ2.free 0
        have g1 := kZ2.free 1
        have hc5 := Cur.set (j := 1) (v := .int .i64 x) hc4 (show g < w2.heap.size by omega)
        have hG5 := grown_new (j := 1) (v := .int .i64 x) hG (show w.heap.size ≤ w2.heap.size by omega)
        go_wp2
        exact bodyPost_ret (v := .agg #[.int .i64 l, .int .i64 x]) (by simp [results, Try.results128, go_sem, v0, v1]) rfl ⟨l, x, rfl, (hc5.set hlt).set hlt, grown_new (grown_new hG5 (Nat.le_refl _)) (Nat.le_refl _)⟩
      · have d0 := kD.cell 0 (.int .i64 l) rfl
        have d1 := kD.cell 1 (.int .i64 r) rfl
        have z0 := kZ.cell 0 (.int .i64 0) rfl
        have z1 := kZ.cell 1 (.int .i64 0) rfl
        have f0 := kZ.free 0
        have f1 := kZ.free 1
        go_wp2
        exact bodyPost_ret (v := .agg #[.int .i64 l, .int .i64 r]) (by simp [results, Try.results128, go_sem, z0, z1]) rfl ⟨l, r, rfl, (hc3.set hlt).set hlt, grown_new (grown_new hG (Nat.le_refl _)) (Nat.le_refl _)⟩
end Go.Proofs.Ytjbmpnbfiahdhaa
namespace Go.Proofs.Ytjbmpnbfiahdhaa
open Go.RowKit
theorem heap_two (w : World) (o1 o2 : Obj) : ((w.alloc o1).alloc o2).heap[w.heap.size + 1]? = some o2 := by
  have := heap_alloc_new (w.alloc o1) o2
  rwa [World.size_alloc] at this
end Go.Proofs.Ytjbmpnbfiahdhaa
namespace Go.Proofs.Ytjbmpnbfiahdhaa
open Go.RowKit
set_option linter.unusedVariables false
set_option maxRecDepth 100000

theorem OwnD.empty (w : World) (base : Nat) (hb : base ≤ w.heap.size) : OwnD (w.alloc (.cells #[] 55)) base (.slice (some ⟨w.heap.size, 0, none⟩) 0 0) [] :=
  World.ownsRow_lit w #[] 0 hb (Nat.zero_le _) rfl
/-- The cells of a list of dependencies, as append asks for them. -/
theorem DepsAt.cells {w : World} {b off : Nat} {D : List (Int × Int)} (h : DepsAt w (some ⟨b, off, none⟩) D) (j : Nat) (u : Value) (hu : (dcells D)[j]? = some u) : w.cell? ((⟨b, off, none⟩ : Addr).add j) = some u := by
  have hj : j < D.length * 2 := by
    rw [← dcells_length]
    rcases Nat.lt_or_ge j (dcells D).length with h | h
    · exact h
    · rw [List.getElem?_eq_none h] at hu; cases hu
  obtain ⟨b', off', e, _, hc⟩ := h.at_ (by omega)
  simp only [Option.some.injEq, Addr.mk.injEq, and_true] at e
  obtain ⟨rfl, rfl⟩ := e
  have e : (⟨b, off, none⟩ : Addr).add j = ⟨b, off + j, none⟩ := by unfold Addr.add; split <;> simp_all
  rw [e]
  have hk := hc (j / 2) (by omega)
  have hd := dcells_at D (j / 2) (by omega)
  rcases Nat.mod_two_eq_zero_or_one j with hm | hm
  · have ej : j / 2 * 2 = j := by omega
    rw [ej] at hk hd
    rw [hk.1, ← hd.1]; exact hu
  · have ej : j / 2 * 2 + 1 = j := by omega
    have e2 : off + j / 2 * 2 + 1 = off + j := by omega
    rw [ej] at hd
    rw [e2] at hk
    rw [hk.2, ← hd.2]; exact hu
theorem DepsAt.cellsAny {w : World} {a : Addr} {D : List (Int × Int)} (h : DepsAt w (some a) D) (j : Nat) (u : Value) (hu : (dcells D)[j]? = some u) : w.cell? (a.add j) = some u := by
  have h0 : 0 < D.length := by
    rcases Nat.eq_zero_or_pos D.length with h0 | h0
    · have e : D = [] := List.eq_nil_of_length_eq_zero h0
      subst e; cases hu
    · exact h0
  obtain ⟨b', off', e, _, hc⟩ := h.at_ h0
  simp only [Option.some.injEq] at e
  subst e
  exact h.cells j u hu
theorem dcells_one (D : List (Int × Int)) : ∀ u ∈ dcells D, u.oneCell' = true := by
  intro u hu
  simp only [dcells, List.mem_flatMap, encD] at hu
  obtain ⟨d, _, hd⟩ := hu
  simp at hd
  rcases hd with rfl | rfl <;> rfl
theorem OwnD.joined {w : World} {base : Nat} {v : Value} {A B : List (Int × Int)} (h : w.ownsRow base 55 2 v (A.length + B.length) (dcells A ++ dcells B)) : OwnD w base v (A ++ B) := by
  unfold OwnD
  rw [List.length_append, dcells_append]
  exact h

theorem c_copyDeps (oa) (cap : Nat) (D : List (Int × Int)) (w : World) (hD : DepsAt w oa D) (hnil : oa = none → cap = 0) :
    Calls Try.prog 165 #[.slice oa D.length cap] w fun e w' => ∃ v, e = .returned v ∧ OwnD w' w.heap.size v D ∧ Below w.heap.size w w' := by
  obtain ⟨i0, hi, hz0, hz1, hz2⟩ := info_parts info_dep
  have hn : D.length ≤ 1073741824 := hD.len
  have hb := (Below.refl w.heap.size w).alloc (Nat.le_refl _) (.cells #[] 55)
  have hI := OwnD.empty w w.heap.size (Nat.le_refl _)
  rcases oa with _ | ⟨b, off, sp⟩
  · have h0 : D.length = 0 := by
      rcases Nat.eq_zero_or_pos D.length with h | h
      · exact h
      · obtain ⟨b, off, e, _⟩ := hD.at_ h; cases e
    have hnl : D = [] := List.eq_nil_of_length_eq_zero h0
    have hcap : cap = 0 := hnil rfl
    subst hnl hcap
    go_enter Try.func165, Try.ntmps165
    go_wp2_with (first | (at_builtin; refine wpList_append_own_none rfl _ _ 29 rfl w.heap.size 55 i0 2 Try.underlying29 hi _ _ _ rfl hI rfl ?_))
    go_ret
    exact ⟨_, rfl, hI, hb⟩
  · have HB : Hid (∀ j u, (dcells D)[j]? = some u → (w.alloc (.cells #[] 55)).cell? ((⟨b, off, sp⟩ : Addr).add j) = some u) := fun j u hu => (hD.keep hb).cellsAny j u hu
    go_enter Try.func165, Try.ntmps165
    go_wp2_with (first | (at_builtin; refine wpList_append_own _ rfl _ _ 29 rfl w.heap.size 55 i0 (.agg #[.int .i64 0, .int .i64 0]) 2 16 Try.underlying29 hi hz0 hz1 hz2 rfl (by decide) _ _ _ rfl hI _ D.length _ (dcells D) rfl (dcells_length D) HB.out (dcells_one D) (by unfold maxLen; simp; omega) (by simp; omega) (by simp) ?_; intro v' w1 hown hgrow _))
    have hI2 := OwnD.joined (A := []) (B := D) (by simpa using hown)
    have hb2 : Below w.heap.size w w1 := hb.grown hgrow (by simp) (fun g hg => (World.ownsRow.lt hI g hg).1)
    clear hown hgrow
    go_wp2
    go_ret
    exact ⟨_, rfl, by simpa using hI2, hb2⟩

theorem dcells_take : ∀ (D : List (Int × Int)) (i : Nat), dcells (D.take i) = (dcells D).take (i * 2)
  | [], i => by simp [dcells]
  | d :: D, 0 => by simp [dcells]
  | d :: D, i + 1 => by
    have e : (i + 1) * 2 = i * 2 + 1 + 1 := by omega
    rw [List.take_succ_cons, dcells_cons, dcells_cons, e, List.take_succ_cons, List.take_succ_cons, dcells_take D i]
theorem dcells_drop : ∀ (D : List (Int × Int)) (i : Nat), dcells (D.drop i) = (dcells D).drop (i * 2)
  | [], i => by simp [dcells]
  | d :: D, 0 => by simp [dcells]
  | d :: D, i + 1 => by
    have e : (i + 1) * 2 = i * 2 + 1 + 1 := by omega
    rw [List.drop_succ_cons, dcells_cons, e, List.drop_succ_cons, List.drop_succ_cons, dcells_drop D i]
def eraD (D : List (Int × Int)) (i : Nat) : List (Int × Int) := D.take i ++ D.drop (i + 1)
theorem ownsTake {w : World} {base : Nat} {v : Value} {i : Nat} {D : List (Int × Int)} (h : w.ownsRow base 55 2 v (0 + i) (dcells [] ++ dcells (D.take i))) : w.ownsRow base 55 2 v i (dcells (D.take i)) := by
  have e : dcells [] ++ dcells (D.take i) = dcells (D.take i) := rfl
  rw [e, Nat.zero_add] at h; exact h
theorem ownsErase {w : World} {base : Nat} {v : Value} {i : Nat} {D : List (Int × Int)} (hil : i < D.length) (h : w.ownsRow base 55 2 v (i + (D.length - (i + 1))) (dcells (D.take i) ++ dcells (D.drop (i + 1)))) : OwnD w base v (eraD D i) := by
  unfold OwnD eraD
  have e : (D.take i ++ D.drop (i + 1)).length = i + (D.length - (i + 1)) := by rw [List.length_append, List.length_take, List.length_drop]; omega
  rw [e, dcells_append]; exact h
theorem ownsLast {w : World} {base : Nat} {v : Value} {i : Nat} {D : List (Int × Int)} (hil : D.length = i + 1) (h : w.ownsRow base 55 2 v (i + 0) (dcells (D.take i) ++ [])) : OwnD w base v (eraD D i) := by
  refine ownsErase (by omega) ?_
  rw [List.drop_of_length_le (by omega), hil, Nat.sub_self]; exact h
end Go.Proofs.Ytjbmpnbfiahdhaa
namespace Go.Proofs.Ytjbmpnbfiahdhaa
open Go.RowKit
set_option linter.unusedVariables false
set_option maxRecDepth 100000
set_option maxHeartbeats 1600000

theorem step_append_own {P : Program} (w : World) {ops : Array Oper} {o : Oper} {a : Act} {K : Act → World → Prop} {Q : Exit → Act → World → Prop} {E : Prop} (hgd : o.guard = none) (s x : Operand) (t : TypeId)
    (ho : o.op = .call { callee := .builtin .append, args := #[s, x], argTypes := #[t, t] })
    (base : Nat) (e : TypeId) (i : TypeInfo) (z : Value) (size bytes : Nat) (ht : P.underlying t = some (.slice e)) (hi : P.info? e = some i) (hz : i.zero = some z)
    (hsize : i.size = size) (hby : i.bytes = bytes) (hzs : z.cells.size = size) (hsz : 0 < size)
    (v : Value) (n : Nat) (xs : List Value) (hs : a.eval s = v) (hown : w.ownsRow base e size v n xs)
    (ad : Addr) (m c : Nat) (news : List Value) (hx : a.eval x = .slice (some ad) m c) (hl : news.length = m * size) (hnews : ∀ j u, news[j]? = some u → w.cell? (ad.add j) = some u) (h1 : ∀ u ∈ news, u.oneCell' = true)
    (h63 : n + m ≤ maxLen) (hbytes : (n + m) * bytes ≤ 140737488355328) (hbase : base ≤ w.heap.size)
    (h : ∀ v' w', w'.ownsRow base e size v' (n + m) (xs ++ news) → w.grownBy w' v.ownBlock → K (a.put o.dst v') w') :
    if Region.wanted o (yielded ops a.tmps) = true then Oper.wp P o a w K Q else E := by
  have hw : Region.wanted o (yielded ops a.tmps) = true := by simp [Region.wanted, hgd]
  rw [if_pos hw]
  exact wp_append_own w s x t ho base e i z size bytes ht hi hz hsize hby hzs hsz v n xs hs hown ad m c news hx hl hnews h1 h63 hbytes hbase fun v' w' h2 h3 _ => h v' w' h2 h3

/-- An operation whose guard is shut, taken first. -/
theorem wpAnyH_skip {P : Program} {ops : Array Oper} {Q : Exit → Act → World → Prop} {md : Region.Mode} {S : World → Prop} {i : Nat} {oi : Oper} (d : Option Nat) {fuel : Nat} {listed : Array Bool} {a : Act} {w : World} (hi : ops[i]? = some oi) (hd : oi.dst = d)
    (hs : Region.noSelect ops = true) (hf : Region.free md ops listed i = true) (hr : (Region.ready md ops listed).contains i = true)
    (hQ : ∀ c a w, Q (.panic c) (a.put d undef) w → Q (.panic c) a w) (hy : Region.wanted oi (yielded ops a.tmps) = false) (hS : S w)
    (h : wpAnyH P md ops Q S fuel (listed.setIfInBounds i true) (a.put d undef) w) : wpAnyH P md ops Q S (fuel + 1) listed a w := by
  subst hd
  exact wpAnyH_take hi hs hf hr hQ (Or.inr ⟨hy, rfl⟩) hS h
/-- An operation that yields a value whatever the world, taken first. -/
theorem wpAnyH_val {P : Program} {ops : Array Oper} {Q : Exit → Act → World → Prop} {md : Region.Mode} {S : World → Prop} {i : Nat} {oi : Oper} (d : Option Nat) (v : Value) {fuel : Nat} {listed : Array Bool} {a : Act} {w : World} (hi : ops[i]? = some oi) (hd : oi.dst = d)
    (hs : Region.noSelect ops = true) (hf : Region.free md ops listed i = true) (hr : (Region.ready md ops listed).contains i = true)
    (hQ : ∀ c a w, Q (.panic c) (a.put d v) w → Q (.panic c) a w) (hw : Region.wanted oi (yielded ops a.tmps) = true) (hS : S w) (hy : ∀ w, S w → (execOp a.eval oi).run P w = .ok (.value v) w)
    (h : wpAnyH P md ops Q S fuel (listed.setIfInBounds i true) (a.put d v) w) : wpAnyH P md ops Q S (fuel + 1) listed a w := by
  subst hd
  exact wpAnyH_take hi hs hf hr hQ (Or.inl ⟨hw, hy⟩) hS h
theorem nl_take {D : List (Int × Int)} {i k : Nat} (h : k < i) : nl (D.take i) k = nl D k := by unfold nl; simp [List.getD, h]
theorem nr_take {D : List (Int × Int)} {i k : Nat} (h : k < i) : nr (D.take i) k = nr D k := by unfold nr; simp [List.getD, h]
theorem DepsAt.take {w : World} {oa : Option Addr} {D : List (Int × Int)} (h : DepsAt w oa D) (i : Nat) : DepsAt w oa (D.take i) := by
  refine ⟨by have := h.len; rw [List.length_take]; omega, fun h0 => ?_⟩
  rw [List.length_take] at h0
  obtain ⟨b, off, e, hlt, hc⟩ := h.at_ (by omega)
  refine ⟨b, off, e, hlt, fun k hk => ?_⟩
  rw [List.length_take] at hk
  rw [nl_take (by omega), nr_take (by omega)]
  exact hc k (by omega)
theorem c_copyTake (a : Addr) (cap i : Nat) (D : List (Int × Int)) (w : World) (hD : DepsAt w (some a) D) (hi : i ≤ D.length) :
    Calls Try.prog 165 #[.slice (some a) i cap] w fun e w' => ∃ v, e = .returned v ∧ OwnD w' w.heap.size v (D.take i) ∧ Below w.heap.size w w' := by
  have h := c_copyDeps (some a) cap (D.take i) w (hD.take i) (by intro h; cases h)
  rwa [List.length_take, Nat.min_eq_left hi] at h
theorem OwnD.row {w : World} {base : Nat} {v : Value} {i : Nat} {D : List (Int × Int)} (hi : i ≤ D.length) (h : OwnD w base v (D.take i)) : w.ownsRow base 55 2 v i (dcells (D.take i)) := by
  unfold OwnD at h; rwa [List.length_take, Nat.min_eq_left hi] at h

theorem no_news {w : World} {ad : Addr} : ∀ (j : Nat) (u : Value), ([] : List Value)[j]? = some u → w.cell? (ad.add j) = some u := by intro j u hj; cases hj
theorem no_one : ∀ u ∈ ([] : List Value), u.oneCell' = true := by intro u hu; cases hu
end Go.Proofs.Ytjbmpnbfiahdhaa
namespace Go.Proofs.Ytjbmpnbfiahdhaa
open Go.RowKit
set_option linter.unusedVariables false
set_option maxRecDepth 100000

def redStep (D : List (Int × Int)) (r x c : Int) : Int := if dif x (one c) != x && hasc (cloF D (dif x (one c))) r then dif x (one c) else x
def fiveI : List Int := [0, 1, 2, 3, 4]
def redF (D : List (Int × Int)) (l r : Int) : Int := fiveI.foldl (redStep D r) l
def reduceF (n : Int) (D : List (Int × Int)) (l r : Int) : Int := if impliesDepF n D l r then redF D l r else l

theorem redStep_st {D : List (Int × Int)} {r x c : Int} (hx : St x) (hc : Co c) : St (redStep D r x c) := by
  unfold redStep; split
  · exact dif_st hx (one_st hc)
  · exact hx
theorem dif_one_same {x c : Int} (hx : St x) (hc : Co c) : (dif x (one c) != x) = hasc x c := by
  obtain ⟨n, hn, rfl⟩ := st_nat hx; obtain ⟨k, hk, rfl⟩ := co_nat hc
  have h : ∀ n < 32, ∀ k < 5, (dif (n : Nat) (one (k : Nat)) != (n : Nat)) = hasc (n : Nat) (k : Nat) := by decide +kernel
  exact h n hn k hk
theorem redStep_no {D : List (Int × Int)} {r x c : Int} (hx : St x) (hc : Co c) (h : hasc x c = false) : redStep D r x c = x := by
  unfold redStep; rw [dif_one_same hx hc, h]; simp
theorem redStep_other {D : List (Int × Int)} {r x c e : Int} (hx : St x) (hc : Co c) (he : Co e) (hne : c ≠ e) : hasc (redStep D r x c) e = hasc x e := by
  unfold redStep; split
  · rw [hasc_dif hx (one_st hc) he, hasc_one hc he]
    simp [hne]
  · rfl
theorem impliesDepF_val {n : Int} {D : List (Int × Int)} {l r : Int} (h : impliesDepF n D l r = true) : Val D ∧ St l ∧ Co r := by
  simp only [impliesDepF, Bool.and_eq_true] at h
  have := (isDepF_val h.2.1).1
  exact ⟨(areDepsF_val h.1).1, this.1, this.2⟩

theorem five_drop (k : Nat) (hk : k < 5) (f : Int → Int → Int) (x : Int) : (fiveI.drop k).foldl f x = (fiveI.drop (k + 1)).foldl f (f x k) := by
  match k, hk with
  | 0, _ => rfl
  | 1, _ => rfl
  | 2, _ => rfl
  | 3, _ => rfl
  | 4, _ => rfl

end Go.Proofs.Ytjbmpnbfiahdhaa
namespace Go.Proofs.Ytjbmpnbfiahdhaa
open Go.RowKit
set_option linter.unusedVariables false
set_option maxRecDepth 100000

theorem members_mem {x c : Int} (hx : St x) : c ∈ membersF x ↔ Co c ∧ hasc x c = true := by
  have e : stB x = true := by simpa [stB] using hx
  unfold membersF membersUpTo
  rw [e, if_pos rfl, List.mem_filter, List.mem_map]
  constructor
  · rintro ⟨⟨k, hk, rfl⟩, h⟩
    exact ⟨⟨by omega, by have := List.mem_range.1 hk; omega⟩, h⟩
  · rintro ⟨hc, h⟩
    obtain ⟨k, hk, rfl⟩ := co_nat hc
    exact ⟨⟨k, List.mem_range.2 hk, rfl⟩, h⟩
theorem members_nodup (x : Int) : (membersF x).Nodup := by
  unfold membersF membersUpTo
  split
  · apply List.Pairwise.filter
    rw [show ((List.range 5).map fun (c : Nat) => (c : Int)) = fiveI from rfl]
    decide
  · exact List.Pairwise.nil
theorem fold_filter {D : List (Int × Int)} {r l : Int} : ∀ (cs : List Int) (x : Int), St x → (∀ c ∈ cs, Co c) → cs.Nodup → (∀ c ∈ cs, hasc x c = hasc l c) →
    cs.foldl (redStep D r) x = (cs.filter (hasc l)).foldl (redStep D r) x
  | [], _, _, _, _, _ => rfl
  | c :: cs, x, hx, hco, hnd, h => by
    have hc := hco c (List.mem_cons_self ..)
    have hco' : ∀ d ∈ cs, Co d := fun d hd => hco d (List.mem_cons_of_mem _ hd)
    obtain ⟨hn1, hn2⟩ := List.nodup_cons.1 hnd
    have hst := redStep_st (D := D) (r := r) hx hc
    have hs : ∀ d ∈ cs, hasc (redStep D r x c) d = hasc l d := fun d hd => by
      rw [redStep_other hx hc (hco' d hd) (fun e => hn1 (e ▸ hd))]
      exact h d (List.mem_cons_of_mem _ hd)
    have ih := fold_filter (D := D) (r := r) (l := l) cs _ hst hco' hn2 hs
    rw [List.foldl_cons, List.filter_cons]
    cases hl : hasc l c
    · have e : redStep D r x c = x := redStep_no hx hc (by rw [h c (List.mem_cons_self ..), hl])
      rw [e] at ih ⊢
      exact ih
    · simp only [if_true, List.foldl_cons]
      exact ih
theorem redF_members {D : List (Int × Int)} {l r : Int} (hl : St l) : redF D l r = (membersF l).foldl (redStep D r) l := by
  have e : stB l = true := by simpa [stB] using hl
  have hm : membersF l = fiveI.filter (hasc l) := by unfold membersF membersUpTo; rw [e, if_pos rfl]; rfl
  rw [hm]
  exact fold_filter fiveI l hl (by decide) (by decide) (fun _ _ => rfl)
theorem nth_drop {L : List Int} {k : Nat} (hk : k < L.length) : L.drop k = nth L k :: L.drop (k + 1) := by
  rw [List.drop_eq_getElem_cons hk]
  congr 1
  have := nth_eq hk
  rw [List.getElem?_eq_getElem hk] at this
  exact Option.some.inj this

end Go.Proofs.Ytjbmpnbfiahdhaa
namespace Go.Proofs.Ytjbmpnbfiahdhaa
open Go.RowKit
set_option linter.unusedVariables false
set_option maxRecDepth 100000

def coverBad (n : Int) (D : List (Int × Int)) (i : Nat) : Bool := impliesDepF n (eraD D i) (nl D i) (nr D i) || !(reduceF n D (nl D i) (nr D i) == nl D i)
def isCoverF (n : Int) (D : List (Int × Int)) : Bool := areDepsF n D && (List.range D.length).all fun i => !coverBad n D i
theorem OwnD.cap {w : World} {base : Nat} {v : Value} {L : List (Int × Int)} (h : OwnD w base v L) : ∃ oa cap, v = .slice oa L.length cap ∧ L.length ≤ cap ∧ (oa = none → cap = 0) := by
  rcases h.2 with ⟨hv, h0⟩ | ⟨g, cap, cur, hv, hb, hg, hl, _⟩
  · exact ⟨none, 0, by rw [hv, h0], by omega, fun _ => rfl⟩
  · exact ⟨_, cap, hv, hl, fun h => by cases h⟩
theorem range_all_succ (p : Nat → Bool) (k : Nat) : (List.range (k + 1)).all p = ((List.range k).all p && p k) := by
  rw [List.range_succ, List.all_append]; simp
theorem range_all_false (p : Nat → Bool) (k n : Nat) (hk : k < n) (h : p k = false) : (List.range n).all p = false := by
  rw [List.all_eq_false]; exact ⟨k, List.mem_range.2 hk, by simp [h]⟩
theorem eraD_len {D : List (Int × Int)} {i : Nat} (h : i < D.length) : (eraD D i).length = D.length - 1 := by
  unfold eraD; rw [List.length_append, List.length_take, List.length_drop]; omega

theorem mem_eraD {D : List (Int × Int)} {i : Nat} {d : Int × Int} (h : d ∈ eraD D i) : d ∈ D := by
  unfold eraD at h
  rcases List.mem_append.1 h with h | h
  · exact List.mem_of_mem_take h
  · exact List.mem_of_mem_drop h
theorem nth_mem {D : List (Int × Int)} {k : Nat} (h : k < D.length) : (nl D k, nr D k) ∈ D := List.mem_iff_getElem?.2 ⟨k, dnth_eq h⟩
theorem areDepsF_mem {n : Int} {D : List (Int × Int)} (h : areDepsF n D = true) {d : Int × Int} (hd : d ∈ D) : isDepF n d.1 d.2 = true := by
  simp only [areDepsF, Bool.and_eq_true, decide_eq_true_eq, List.all_eq_true] at h
  exact h.1 d hd
theorem areDepsF_sub {n : Int} {D E : List (Int × Int)} (h : areDepsF n D = true) (hs : ∀ d ∈ E, d ∈ D) (hl : E.length ≤ D.length) : areDepsF n E = true := by
  simp only [areDepsF, Bool.and_eq_true, decide_eq_true_eq, List.all_eq_true] at h ⊢
  exact ⟨fun d hd => h.1 d (hs d hd), h.2.1, by omega⟩
theorem areDepsF_era {n : Int} {D : List (Int × Int)} (h : areDepsF n D = true) {i : Nat} (hi : i < D.length) : areDepsF n (eraD D i) = true :=
  areDepsF_sub h (fun _ hd => mem_eraD hd) (by rw [eraD_len hi]; omega)

end Go.Proofs.Ytjbmpnbfiahdhaa
namespace Go.Proofs.Ytjbmpnbfiahdhaa
open Go.RowKit
set_option linter.unusedVariables false
set_option maxRecDepth 100000

def addF (n : Int) (D A : List (Int × Int)) (d : Int × Int) : List (Int × Int) := if A.contains (reduceF n D d.1 d.2, d.2) then A else A ++ [(reduceF n D d.1 d.2, d.2)]
def dstF (n : Int) (D : List (Int × Int)) (k : Nat) : List (Int × Int) := (D.take k).foldl (addF n D) []
def pruneF (n : Int) : Nat → List (Int × Int) → Nat → List (Int × Int)
  | 0, A, _ => A
  | f + 1, A, i => if i < A.length then (if impliesDepF n (eraD A i) (nl A i) (nr A i) then pruneF n f (eraD A i) i else pruneF n f A (i + 1)) else A
def coverOfF (n : Int) (D : List (Int × Int)) : List (Int × Int) := if areDepsF n D then pruneF n (dstF n D D.length).length (dstF n D D.length) 0 else []
theorem dstF_succ {n : Int} {D : List (Int × Int)} {k : Nat} (hk : k < D.length) : dstF n D (k + 1) = addF n D (dstF n D k) (nl D k, nr D k) := by
  unfold dstF; rw [List.take_add_one, dnth_eq hk, List.foldl_append]; rfl
theorem dstF_len (n : Int) (D : List (Int × Int)) : ∀ k, k ≤ D.length → (dstF n D k).length ≤ k
  | 0, _ => by simp [dstF]
  | k + 1, hk => by
    rw [dstF_succ (by omega)]
    have := dstF_len n D k (by omega)
    unfold addF; split
    · omega
    · simp; omega
theorem dif_leC {x c : Int} (hx : St x) (hc : Co c) : dif x (one c) ≤ x := by
  obtain ⟨n, hn, rfl⟩ := st_nat hx; obtain ⟨k, hk, rfl⟩ := co_nat hc
  have h : ∀ n < 32, ∀ k < 5, dif (n : Nat) (one (k : Nat)) ≤ (n : Nat) := by decide +kernel
  exact h n hn k hk
theorem foldl_le {D : List (Int × Int)} {r : Int} : ∀ (C : List Int) (x : Int), (∀ c ∈ C, Co c) → St x → C.foldl (redStep D r) x ≤ x ∧ St (C.foldl (redStep D r) x)
  | [], x, _, hx => ⟨Int.le_refl x, hx⟩
  | c :: C, x, hC, hx => by
    have hc := hC c (List.mem_cons_self ..)
    have h1 : redStep D r x c ≤ x := by
      unfold redStep; split
      · exact dif_leC hx hc
      · exact Int.le_refl x
    have h2 := foldl_le (D := D) (r := r) C (redStep D r x c) (fun d hd => hC d (List.mem_cons_of_mem _ hd)) (redStep_st hx hc)
    exact ⟨Int.le_trans h2.1 h1, h2.2⟩
theorem five_co : ∀ c ∈ fiveI, Co c := by decide
theorem reduceF_dep {n l r : Int} {D : List (Int × Int)} (h : isDepF n l r = true) : isDepF n (reduceF n D l r) r = true := by
  unfold reduceF
  split
  · have hst := (isDepF_val h).1.1
    have := foldl_le (D := D) (r := r) fiveI l five_co hst
    simp only [isDepF, isAttr, Bool.and_eq_true, decide_eq_true_eq] at h ⊢
    unfold redF
    exact ⟨⟨⟨h.1.1.1, ⟨h.1.1.2.1.1, this.2.1⟩, Int.lt_of_le_of_lt this.1 h.1.1.2.2⟩, h.1.2⟩, h.2⟩
  · exact h
theorem dstF_dep {n : Int} {D : List (Int × Int)} (ha : areDepsF n D = true) : ∀ k, k ≤ D.length → ∀ d ∈ dstF n D k, isDepF n d.1 d.2 = true
  | 0, _, d, hd => by simp [dstF] at hd
  | k + 1, hk, d, hd => by
    rw [dstF_succ (by omega)] at hd
    unfold addF at hd
    split at hd
    · exact dstF_dep ha k (by omega) d hd
    · rcases List.mem_append.1 hd with hd | hd
      · exact dstF_dep ha k (by omega) d hd
      · simp at hd; subst hd
        exact reduceF_dep (areDepsF_mem ha (nth_mem (k := k) (by omega)))
theorem pruneF_end {n : Int} {A : List (Int × Int)} {i : Nat} (h : A.length ≤ i) (f : Nat) : pruneF n f A i = A := by
  cases f with
  | zero => rfl
  | succ f => unfold pruneF; rw [if_neg (by omega)]
theorem pruneF_del {n : Int} {A : List (Int × Int)} {i : Nat} (h : i < A.length) (hi : impliesDepF n (eraD A i) (nl A i) (nr A i) = true) : pruneF n (A.length - i) A i = pruneF n ((eraD A i).length - i) (eraD A i) i := by
  have e : A.length - i = ((eraD A i).length - i) + 1 := by rw [eraD_len h]; omega
  rw [e]; conv => lhs; unfold pruneF
  rw [if_pos h, hi]; rfl
theorem pruneF_keep {n : Int} {A : List (Int × Int)} {i : Nat} (h : i < A.length) (hi : impliesDepF n (eraD A i) (nl A i) (nr A i) = false) : pruneF n (A.length - i) A i = pruneF n (A.length - (i + 1)) A (i + 1) := by
  have e : A.length - i = (A.length - (i + 1)) + 1 := by omega
  rw [e]; conv => lhs; unfold pruneF
  rw [if_pos h, hi]; rfl
theorem contains_succ {A : List (Int × Int)} {k : Nat} (h : k < A.length) (d : Int × Int) : (A.take (k + 1)).contains d = ((A.take k).contains d || (nl A k == d.1 && nr A k == d.2)) := by
  rw [List.take_add_one, dnth_eq h, Bool.eq_iff_iff]
  simp only [Option.toList, List.contains_iff_mem, List.mem_append, List.mem_singleton, Bool.or_eq_true, Bool.and_eq_true, beq_iff_eq, Prod.ext_iff]
  constructor
  · rintro (h | ⟨h1, h2⟩)
    · exact .inl h
    · exact .inr ⟨h1.symm, h2.symm⟩
  · rintro (h | ⟨h1, h2⟩)
    · exact .inl h
    · exact .inr ⟨h1.symm, h2.symm⟩
theorem contains_at {A : List (Int × Int)} {k : Nat} (h : k < A.length) {l r : Int} (h1 : nl A k = l) (h2 : nr A k = r) : A.contains (l, r) = true := by
  subst h1; subst h2
  simp only [List.contains_iff_mem]; exact nth_mem h
def slen : Value → Nat
  | .slice _ n _ => n
  | _ => 0

end Go.Proofs.Ytjbmpnbfiahdhaa
namespace Go.Proofs.Ytjbmpnbfiahdhaa
open Go.RowKit
set_option linter.unusedVariables false
set_option maxRecDepth 100000

theorem OwnD.snoc {w : World} {base : Nat} {v : Value} {A : List (Int × Int)} {l r : Int} (h : w.ownsRow base 55 2 v (A.length + 1) (dcells A ++ [.int .i64 l, .int .i64 r])) : OwnD w base v (A ++ [(l, r)]) := OwnD.joined (B := [(l, r)]) h

end Go.Proofs.Ytjbmpnbfiahdhaa
namespace Go.Proofs.Ytjbmpnbfiahdhaa
open Go.RowKit
set_option linter.unusedVariables false
set_option maxRecDepth 100000

theorem grown_more {w a b : World} {g : Nat} {row : Option Nat} (hG : w.grownBy a (some g)) (hg : a.grownBy b row) (hr : ∀ k, row = some k → w.heap.size ≤ k) : w.grownBy b (some g) :=
  ⟨hg.os.trans hG.os, hg.tape.trans hG.tape, hg.output.trans hG.output, Nat.le_trans hG.size hg.size, fun i hi hne => (hg.block i (Nat.lt_of_lt_of_le hi hG.size) (fun e => by have := hr i e.symm; omega)).trans (hG.block i hi hne)⟩
theorem owns_cur {w w' : World} {B size n g : Nat} {e : TypeId} {v : Value} {xs : List Value} (h : w.ownsRow B e size v n xs) (hg : w.grownBy w' (some g)) (hB : g < B) : w'.ownsRow B e size v n xs :=
  World.ownsRow.kept h hg (.inr fun e => by have := (World.ownsRow.lt h g e).1; omega)
theorem OwnD.cur {w w' : World} {B g : Nat} {v : Value} {D : List (Int × Int)} (h : OwnD w B v D) (hg : w.grownBy w' (some g)) (hB : g < B) : OwnD w' B v D := owns_cur h hg hB
/-- What the cursor has turned lies behind the base. -/
theorem below_cur {w a b : World} {g : Nat} (hb : Below w.heap.size w a) (hg : a.grownBy b (some g)) (hB : w.heap.size ≤ g) : Below w.heap.size w b := hb.grown hg hb.size (fun k e => by injection e with e; omega)
set_option maxHeartbeats 1600000 in
theorem c_l6Deps (g : Nat) (N : Nat) (h5 : N ≤ 5) (w : World) (hc : Cur w g) :
    Calls Try.prog 168 #[.pointer (some ⟨g, 0, none⟩), .int .i64 N] w fun e w' => ∃ o c D, e = .returned (.slice o (D.length : Nat) c) ∧ OwnD w' w.heap.size (.slice o D.length c) D ∧ D.length ≤ 4 ∧ Cur w' g ∧ w.grownBy w' (some g) := by
  obtain ⟨i0, hi0, hz0, hz1, hz2⟩ := info_parts info_dep
  have hlt := hc.lt
  have hI := OwnD.empty w w.heap.size (Nat.le_refl _)
  have hG := grown_of_below ((Below.refl w.heap.size w).alloc (Nat.le_refl _) (.cells #[] 55)) (some g)
  replace hc := cur_alloc hc (.cells #[] 55)
  go_enter Try.func168, Try.ntmps168
  go_wp2_with fail
  refine (c_l1Below g 5 (by omega) _ hc).mono ?_
  rintro e w1 ⟨q, rfl, hq0, hq1, _, hc1, hg⟩
  replace hI := hI.cur hg hlt
  replace hG := grown_trans hG hg
  obtain ⟨k0, rfl⟩ := Int.eq_ofNat_of_zero_le hq0
  have hk0 : k0 ≤ 4 := by have := hq1 (by omega); omega
  clear hc hg hq0 hq1
  go_wp2_with fail
  go_loopw [5, 6] (fun v i wr => ∃ (k : Nat) (D : List (Int × Int)), i = .int .i64 k ∧ D.length + k ≤ 4 ∧ OwnD wr w.heap.size v D ∧ Cur wr g ∧ w.grownBy wr (some g)) (fun _ i _ => (intOf i).toNat)
  case atStart => exact ⟨k0, [], rfl, by simpa using hk0, hI, hc1, hG⟩
  case round =>
    clear hI hc1 hG
    obtain ⟨k, D, rfl, hk, hI, hc, hG⟩ := hrel
    have hi := hi0
    have HDL : D.length ≤ 4 := by omega
    by_cases hlt0 : 0 < k
    · go_wp2_with fail
      refine (c_l6Dep g N h5 _ hc).mono ?_
      rintro e w2 ⟨l, r, rfl, hc2, hg⟩
      replace hI := hI.cur hg hlt
      replace hG := grown_trans hG hg
      clear hc hg
      have d0 := box_at w2 #[.int .i64 l, .int .i64 r] 55 0 _ rfl
      have d1 := box_at w2 #[.int .i64 l, .int .i64 r] 55 1 _ rfl
      have hba := (Below.refl w2.heap.size w2).alloc (Nat.le_refl _) (.cells #[.int .i64 l, .int .i64 r] 55)
      replace hI := hI.keep hba
      replace hG := grown_trans hG (grown_of_below hba _)
      replace hc2 := hc2.keep hba
      clear hba
      go_wp2_with (first | (at_builtin; refine wpList_append_own _ rfl _ _ 29 rfl w.heap.size 55 i0 (.agg #[.int .i64 0, .int .i64 0]) 2 16 Try.underlying29 hi hz0 hz1 hz2 rfl (by decide) _ _ _ rfl (World.ownsRow.alloc hI _) _ 1 1 [.int .i64 l, .int .i64 r] rfl rfl (World.news_of_block (cs := #[.int .i64 l, .int .i64 r]) (t := 55) (fr := (0, 0)) (heap_two _ _ _)) (by intro u hu; simp at hu; rcases hu with rfl | rfl <;> rfl) (by unfold maxLen; omega) (by omega) (by have := hG.size; simp at this ⊢; omega) ?_; intro v' w3 hown hgrow _; have hc3 := Cur.grown (cur_alloc hc2 _) hgrow (fun k e => by have := (World.ownsRow.lt hI k e).1; omega); have hG3 := grown_more (grown_trans hG (grown_of_below ((Below.refl _ _).alloc (Nat.le_refl _) _) _)) hgrow (fun k e => (World.ownsRow.lt hI k e).1); replace hI := OwnD.snoc hown; clear hown hgrow hG hc2) | fail)
      go_roundw
      case rel => exact ⟨k - 1, D ++ [(l, r)], by go_num, by simp; omega, hI, hc3, hG3⟩
      case measure => simp [intOf]; omega
    · have HK : Hid (k = 0) := by show k = 0; omega
      obtain ⟨o, c, rfl⟩ := hI.shape
      go_wp2
      go_ret
      exact ⟨o, c, D, rfl, hI, HDL, hc, hG⟩
end Go.Proofs.Ytjbmpnbfiahdhaa
namespace Go.Proofs.Ytjbmpnbfiahdhaa
open Go.RowKit
set_option linter.unusedVariables false
set_option maxRecDepth 100000

theorem c_l2Ints (oa ob) (ca cb : Nat) (L M : List Int) (w : World) (hL : IntsAt w oa L) (hM : IntsAt w ob M) :
    Ans Try.prog 139 #[.slice oa L.length ca, .slice ob M.length cb] w (.bool (decide (L = M))) := by
  unfold Ans
  have hn : L.length ≤ 1073741824 := hL.len
  by_cases hlen : L.length = M.length
  · have hb0 : ((L.length : Int) != (M.length : Int)) = false := bne_false (by omega)
    have HL : Hid (L.length = M.length) := hlen
    have hlm : L.length ≤ M.length := by omega
    clear hlen
    go_enter Try.func139, Try.ntmps139
    go_wp2
    go_loopw [5] (fun i wr => ∃ k : Nat, i = .int .i64 k ∧ k ≤ L.length ∧ (∀ j, j < k → nth L j = nth M j) ∧ Below w.heap.size w wr) (fun i _ => L.length - (intOf i).toNat)
    case atStart => exact ⟨0, rfl, Nat.zero_le _, fun j hj => absurd hj (by omega), Below.refl _ _⟩
    case round =>
      obtain ⟨k, rfl, hk, hall, hb⟩ := hrel
      have HA : Hid (∀ j, j < k → nth L j = nth M j) := hall
      clear hall
      by_cases hlt : k < L.length
      · obtain ⟨b, off, rfl, hbs, hc⟩ := hL.at_ (by omega)
        obtain ⟨b', off', rfl, hbs', hc'⟩ := hM.at_ (by omega)
        have hc1 := cell_keep (hc k hlt) hb
        have hc2 := cell_keep (hc' k (by omega)) hb
        clear hc hc'
        by_cases he : nth L k = nth M k
        · have hne := bne_false he
          have HE : Hid (nth L k = nth M k) := he
          clear he
          go_wp2_with fail
          (refine wp_region_after (by kernel_rfl) (by kernel_rfl) ?_; have q_hc1 := fun (x : After _) => cell_keep hc1 x.bel; have q_hc2 := fun (x : After _) => cell_keep hc2 x.bel; (repeat (go_big_quiet_step (fail))); clear q_hc1; clear q_hc2; refine wpQuiet_nil ?_; rintro _ ⟨⟨w1, hbn⟩, rfl⟩; (try simp only [After.w]); replace hc1 := cell_keep hc1 hbn; replace hc2 := cell_keep hc2 hbn; replace hb := bel_to (w := w) (by first | exact hb | exact hb.alloc hb.size _ | exact (hb.alloc hb.size _).alloc (Nat.le_trans hb.size (by simp)) _ | exact hb.setCell (by simp [hb.size]) _) hbn; clear hbn)
          go_wp2
          go_roundw
          case rel => exact ⟨k + 1, by go_num, by omega, lt_step HA.out HE.out, hb⟩
          case measure => simp [intOf]; omega
        · have hne := bne_true he
          go_wp2_with fail
          (refine wp_region_after (by kernel_rfl) (by kernel_rfl) ?_; have q_hc1 := fun (x : After _) => cell_keep hc1 x.bel; have q_hc2 := fun (x : After _) => cell_keep hc2 x.bel; (repeat (go_big_quiet_step (fail))); clear q_hc1; clear q_hc2; refine wpQuiet_nil ?_; rintro _ ⟨⟨w1, hbn⟩, rfl⟩; (try simp only [After.w]); replace hc1 := cell_keep hc1 hbn; replace hc2 := cell_keep hc2 hbn; replace hb := bel_to (w := w) (by first | exact hb | exact hb.alloc hb.size _ | exact (hb.alloc hb.size _).alloc (Nat.le_trans hb.size (by simp)) _ | exact hb.setCell (by simp [hb.size]) _) hbn; clear hbn)
          go_wp2
          go_ret
          exact ⟨ret_bool (by symm; rw [decide_eq_false_iff_not]; intro e; exact he (by rw [e])), hb⟩
      · have hkk : k = L.length := by omega
        have HK := Hid (k = L.length)
        clear hkk
        go_wp2
        go_ret
        exact ⟨ret_bool (by symm; rw [decide_eq_true_iff]; exact list_ext HL.out fun j hj => HA.out j (by omega)), hb⟩
  · have hb0 : ((L.length : Int) != (M.length : Int)) = true := bne_true (by omega)
    go_enter Try.func139, Try.ntmps139
    go_wp2
    go_ret
    exact ⟨ret_bool (by symm; rw [decide_eq_false_iff_not]; intro e; exact hlen (by rw [e])), Below.refl _ _⟩

end Go.Proofs.Ytjbmpnbfiahdhaa
namespace Go.Proofs.Ytjbmpnbfiahdhaa
open Go.RowKit
set_option linter.unusedVariables false
set_option maxRecDepth 100000

theorem room_of {n : Nat} (h : (n : Int) ≤ 1048576) : n ≤ Room := by unfold Room; omega
theorem c_toDep (l r : Int) (w : World) : Ans Try.prog 81 #[.agg #[.int .i64 l, .int .i64 r]] w (.agg #[.int .i64 l, .int .i64 r]) := by
  unfold Ans
  go_enter Try.func81, Try.ntmps81
  go_wp2
  exact bodyPost_ret (v := .agg #[.int .i64 l, .int .i64 r]) (by simp [results, Try.results81, go_sem]) rfl ⟨rfl, (((Below.refl _ _).alloc (Nat.le_refl _) _).alloc (by simp) _).alloc (by simp; omega) _⟩
def depEqB (a b c d : Int) : Bool := decide (a = c ∧ b = d)
theorem c_eqDep (a b c d : Int) (w : World) : Ans Try.prog 85 #[.agg #[.int .i64 a, .int .i64 b], .agg #[.int .i64 c, .int .i64 d]] w (.bool (depEqB a b c d)) := by
  unfold Ans
  have hB : Below w.heap.size w ((w.alloc (.cells #[.int .i64 a, .int .i64 b] 55)).alloc (.cells #[.int .i64 c, .int .i64 d] 55)) := ((Below.refl _ _).alloc (Nat.le_refl _) _).alloc (by simp) _
  by_cases h1 : a = c
  · have e1 : (a != c) = false := by simp [h1]
    by_cases h2 : b = d
    · have e2 : (b != d) = false := by simp [h2]
      have HV : Hid (depEqB a b c d = true) := by simp [depEqB, h1, h2, Hid]
      clear h1 h2
      go_enter Try.func85, Try.ntmps85
      go_wp2
      go_ret
      exact ⟨ret_bool HV.out.symm, hB⟩
    · have e2 : (b != d) = true := by simp [h2]
      have HV : Hid (depEqB a b c d = false) := by simp [depEqB, h2, Hid]
      clear h1 h2
      go_enter Try.func85, Try.ntmps85
      go_wp2
      go_ret
      exact ⟨ret_bool HV.out.symm, hB⟩
  · have e1 : (a != c) = true := by simp [h1]
    have HV : Hid (depEqB a b c d = false) := by simp [depEqB, h1, Hid]
    clear h1
    go_enter Try.func85, Try.ntmps85
    go_wp2
    go_ret
    exact ⟨ret_bool HV.out.symm, hB⟩

theorem dlist_ext {L M : List (Int × Int)} (hl : L.length = M.length) (h : ∀ k, k < L.length → nl L k = nl M k ∧ nr L k = nr M k) : L = M := by
  apply List.ext_getElem?
  intro k
  by_cases hk : k < L.length
  · rw [dnth_eq hk, dnth_eq (by omega), (h k hk).1, (h k hk).2]
  · rw [List.getElem?_eq_none (by omega), List.getElem?_eq_none (by omega)]

theorem c_eqDepS (oa ob) (ca cb : Nat) (L M : List (Int × Int)) (w : World) (hL : DepsAt w oa L) (hM : DepsAt w ob M) :
    Ans Try.prog 15 #[.slice oa L.length ca, .slice ob M.length cb] w (.bool (decide (L = M))) := by
  unfold Ans
  have hn : L.length ≤ 1073741824 := hL.len
  by_cases hlen : L.length = M.length
  · have hb0 : ((L.length : Int) != (M.length : Int)) = false := by simp [hlen]
    have HL : Hid (L.length = M.length) := hlen
    have hlm : L.length ≤ M.length := by omega
    clear hlen
    go_enter Try.func15, Try.ntmps15
    go_wp2
    go_loopw [5] (fun i wr => ∃ k : Nat, i = .int .i64 k ∧ k ≤ L.length ∧ (∀ j, j < k → nl L j = nl M j ∧ nr L j = nr M j) ∧ Below w.heap.size w wr) (fun i _ => L.length - (intOf i).toNat)
    case atStart => exact ⟨0, rfl, Nat.zero_le _, fun j hj => absurd hj (by omega), Below.refl _ _⟩
    case round =>
      obtain ⟨k, rfl, hk, hall, hb⟩ := hrel
      have HA : Hid (∀ j, j < k → nl L j = nl M j ∧ nr L j = nr M j) := hall
      clear hall
      by_cases hlt : k < L.length
      · obtain ⟨b, off, rfl, hbs, hc⟩ := hL.at_ (by omega)
        obtain ⟨b', off', rfl, hbs', hc'⟩ := hM.at_ (by omega)
        have hc1 := cell_keep (hc k hlt).1 hb
        have hc2 := cell_keep (hc k hlt).2 hb
        have hc3 := cell_keep (hc' k (by omega)).1 hb
        have hc4 := cell_keep (hc' k (by omega)).2 hb
        clear hc hc'
        cases he : depEqB (nl L k) (nr L k) (nl M k) (nr M k)
        · go_wp2_with fail
          (refine wp_region_after (by kernel_rfl) (by kernel_rfl) ?_; have q_hc1 := fun (x : After _) => cell_keep hc1 x.bel; have q_hc2 := fun (x : After _) => cell_keep hc2 x.bel; have q_hc3 := fun (x : After _) => cell_keep hc3 x.bel; have q_hc4 := fun (x : After _) => cell_keep hc4 x.bel; (repeat (go_big_quiet_step ((first | (go_at_call 85; exact Ans.after (Ans.eqb (c_eqDep _ _ _ _ _) he)))))); clear q_hc1; clear q_hc2; clear q_hc3; clear q_hc4; refine wpQuiet_nil ?_; rintro _ ⟨⟨w1, hbn⟩, rfl⟩; (try simp only [After.w]); replace hc1 := cell_keep hc1 hbn; replace hc2 := cell_keep hc2 hbn; replace hc3 := cell_keep hc3 hbn; replace hc4 := cell_keep hc4 hbn; replace hb := bel_to (w := w) (by first | exact hb | exact hb.alloc hb.size _ | exact (hb.alloc hb.size _).alloc (Nat.le_trans hb.size (by simp)) _ | exact hb.setCell (by simp [hb.size]) _) hbn; clear hbn)
          go_wp2
          go_ret
          exact ⟨ret_bool (by symm; rw [decide_eq_false_iff_not]; intro e; subst e; simp [depEqB] at he), hb⟩
        · have HE0 : nl L k = nl M k ∧ nr L k = nr M k := by simpa [depEqB] using he
          have HE : Hid (nl L k = nl M k ∧ nr L k = nr M k) := HE0
          clear HE0
          go_wp2_with fail
          (refine wp_region_after (by kernel_rfl) (by kernel_rfl) ?_; have q_hc1 := fun (x : After _) => cell_keep hc1 x.bel; have q_hc2 := fun (x : After _) => cell_keep hc2 x.bel; have q_hc3 := fun (x : After _) => cell_keep hc3 x.bel; have q_hc4 := fun (x : After _) => cell_keep hc4 x.bel; (repeat (go_big_quiet_step ((first | (go_at_call 85; exact Ans.after (Ans.eqb (c_eqDep _ _ _ _ _) he)))))); clear q_hc1; clear q_hc2; clear q_hc3; clear q_hc4; refine wpQuiet_nil ?_; rintro _ ⟨⟨w1, hbn⟩, rfl⟩; (try simp only [After.w]); replace hc1 := cell_keep hc1 hbn; replace hc2 := cell_keep hc2 hbn; replace hc3 := cell_keep hc3 hbn; replace hc4 := cell_keep hc4 hbn; replace hb := bel_to (w := w) (by first | exact hb | exact hb.alloc hb.size _ | exact (hb.alloc hb.size _).alloc (Nat.le_trans hb.size (by simp)) _ | exact hb.setCell (by simp [hb.size]) _) hbn; clear hbn)
          go_wp2
          go_roundw
          case rel => exact ⟨k + 1, by go_num, by omega, lt_step (p := fun j => nl L j = nl M j ∧ nr L j = nr M j) HA.out HE.out, hb⟩
          case measure => simp [intOf]; omega
      · have hkk : k = L.length := by omega
        have HE : Hid (L = M) := dlist_ext HL.out fun j hj => HA.out j (by omega)
        clear hkk
        go_wp2
        go_ret
        exact ⟨ret_bool (by symm; rw [decide_eq_true_iff]; exact HE.out), hb⟩
  · have hb0 : ((L.length : Int) != (M.length : Int)) = true := by simp; omega
    go_enter Try.func15, Try.ntmps15
    go_wp2
    go_ret
    exact ⟨ret_bool (by symm; rw [decide_eq_false_iff_not]; intro e; exact hlen (by rw [e])), Below.refl _ _⟩

theorem c_toDepS (oa) (ca : Nat) (D : List (Int × Int)) (w : World) (hD : DepsAt w oa D) :
    Calls Try.prog 12 #[.slice oa D.length ca] w fun e w' => ∃ v, e = .returned v ∧ OwnD w' w.heap.size v D ∧ Below w.heap.size w w' := by
  have hn : D.length ≤ 1073741824 := hD.len
  obtain ⟨i0, hi, hz0, hz1, hz2⟩ := info_parts info_dep
  go_enter Try.func12, Try.ntmps12
  go_wp2_with (first | (at_make; refine wpList_make_full _ rfl _ _ 29 rfl w.heap.size 55 i0 (.agg #[.int .i64 0, .int .i64 0]) 2 Try.underlying29 hi hz0 hz1 .i64 .i64 _ _ D.length rfl rfl rfl rfl (by rw [hz2]; omega) (by unfold maxLen; omega) (Nat.le_refl _) ?_; intro w1 hown hgrow))
  rw [madeD] at hown
  have hI : OwnD w1 w.heap.size (.slice (some ⟨w.heap.size, 0, none⟩) D.length D.length) (List.replicate D.length (0, 0)) := by unfold OwnD; rw [List.length_replicate]; exact hown
  have hb1 : Below w.heap.size w w1 := below_grown hgrow (Nat.le_refl _) (by simp)
  clear hown hgrow hi hz0 hz1 hz2 i0
  go_loopw [4] (fun i wr => ∃ (k : Nat) (M : List (Int × Int)), i = .int .i64 k ∧ k ≤ D.length ∧ M.length = D.length ∧ (∀ j, j < k → nl M j = nl D j ∧ nr M j = nr D j) ∧
      OwnD wr w.heap.size (.slice (some ⟨w.heap.size, 0, none⟩) D.length D.length) M ∧ Below w.heap.size w wr) (fun i _ => D.length - (intOf i).toNat)
  case atStart => exact ⟨0, _, rfl, Nat.zero_le _, by simp, fun j hj => absurd hj (by omega), hI, hb1⟩
  case round =>
    clear hI hb1
    obtain ⟨k, M, rfl, hk, hM, hall, hI, hb⟩ := hrel
    have HM : Hid (M.length = D.length) := hM
    have HA : Hid (∀ j, j < k → nl M j = nl D j ∧ nr M j = nr D j) := hall
    clear hall hM
    by_cases hlt : k < D.length
    · obtain ⟨b, off, rfl, hbs, hc⟩ := hD.at_ (by omega)
      have hc1 := cell_keep (hc k hlt).1 hb
      have hc2 := cell_keep (hc k hlt).2 hb
      clear hc
      go_wp2_with fail
      refine Calls.mono (c_toDep _ _ _) ?_
      rintro e w1 ⟨rfl, hbn⟩
      replace hI := hI.keep hbn
      replace hb := bel_to (w := w) hb hbn
      obtain ⟨hg1, hg2, hg3, hg4⟩ := hI.cell HM.out.symm k hlt
      have HI2 := (show Hid _ from hI.store HM.out.symm k (nl D k) (nr D k))
      clear hc1 hc2 hbn
      go_wp2
      go_roundw
      case rel =>
        refine ⟨k + 1, M.set k (nl D k, nr D k), by go_num, by omega, by rw [List.length_set]; exact HM.out, ?_, HI2.out, (hb.setCell (Nat.le_refl _) _).setCell (Nat.le_refl _) _⟩
        intro j hj
        rw [nl_set (by have := HM.out; omega), nr_set (by have := HM.out; omega)]
        by_cases h : j = k
        · subst h; simp
        · simp only [if_neg h]; exact HA.out j (by omega)
      case measure => simp [intOf]; omega
    · have hkk : k = D.length := by omega
      have HK : Hid (k = D.length) := hkk
      clear hkk
      go_wp2
      go_ret
      have : M = D := dlist_ext HM.out fun j hj => HA.out j (by have := HM.out; have := HK.out; omega)
      subst this
      exact ⟨_, rfl, hI, hb⟩

/-- A slice of dependencies that came in. -/
def InDeps (w : World) (v : Value) : Prop := ∃ a len cap, v = .slice a len cap ∧ len ≤ maxLen ∧ (len ≤ Room → ∃ D : List (Int × Int), D.length = len ∧ DepsAt w a D)

theorem c_szDepS_ok (oa) (n cap : Nat) (left : Int) (h0 : left ≤ 1048576) (h : (n : Int) ≤ left) (w : World) :
    Ans Try.prog 10 #[.slice oa n cap, .int .i64 left] w (.int .i64 (left - n)) := by
  unfold Ans
  go_enter Try.func10, Try.ntmps10
  go_wp2
  go_ret
  exact ⟨rfl, Below.refl _ _⟩
theorem c_szDepS_no (oa) (n cap : Nat) (left : Int) (h0 : 0 ≤ left ∧ left ≤ 1048576) (h : left < (n : Int)) (hn : n ≤ maxLen) (w : World) :
    Ans Try.prog 10 #[.slice oa n cap, .int .i64 left] w (.int .i64 (-1)) := by
  unfold Ans
  unfold maxLen at hn
  go_enter Try.func10, Try.ntmps10
  go_wp2
  go_ret
  exact ⟨rfl, Below.refl _ _⟩
end Go.Proofs.Ytjbmpnbfiahdhaa
namespace Go.Proofs.Ytjbmpnbfiahdhaa
open Go.RowKit
set_option linter.unusedVariables false
set_option maxRecDepth 100000

theorem rows_ext' {A B : List (List Int)} (hl : A.length = B.length) (h : ∀ k, k < A.length → row A k = row B k) : A = B := by
  apply List.ext_getElem hl
  intro j h1 h2
  have := h j h1
  simp [row, List.getD, h1, h2] at this
  exact this

set_option maxHeartbeats 800000 in
theorem c_SameDeps (oa ob) (ca cb : Nat) (L M : List (Int × Int)) (w : World) (hL : DepsAt w oa L) (hM : DepsAt w ob M) :
    Ans Try.prog 166 #[.slice oa L.length ca, .slice ob M.length cb] w (.bool (decide (L = M))) := by
  unfold Ans
  have hn : L.length ≤ 1073741824 := hL.len
  by_cases hlen : L.length = M.length
  · have hb0 : ((L.length : Int) != (M.length : Int)) = false := by simp [hlen]
    have HL : Hid (L.length = M.length) := hlen
    have hlm : L.length ≤ M.length := by omega
    clear hlen
    go_enter Try.func166, Try.ntmps166
    go_wp2
    go_loopw [13] (fun i wr => ∃ k : Nat, i = .int .i64 k ∧ k ≤ L.length ∧ (∀ j, j < k → nl L j = nl M j ∧ nr L j = nr M j) ∧ Below w.heap.size w wr) (fun i _ => L.length - (intOf i).toNat)
    case atStart => exact ⟨0, rfl, Nat.zero_le _, fun j hj => absurd hj (by omega), Below.refl _ _⟩
    case round =>
      obtain ⟨k, rfl, hk, hall, hb⟩ := hrel
      have HA : Hid (∀ j, j < k → nl L j = nl M j ∧ nr L j = nr M j) := hall
      clear hall
      by_cases hlt : k < L.length
      · obtain ⟨b, off, rfl, hbs, hc⟩ := hL.at_ (by omega)
        obtain ⟨b', off', rfl, hbs', hc'⟩ := hM.at_ (by omega)
        have hc1 := cell_keep (hc k hlt).1 hb
        have hc2 := cell_keep (hc k hlt).2 hb
        have hc3 := cell_keep (hc' k (by omega)).1 hb
        have hc4 := cell_keep (hc' k (by omega)).2 hb
        have HN : Hid (L = M → nl L k = nl M k ∧ nr L k = nr M k) := fun e => by subst e; exact ⟨rfl, rfl⟩
        clear hc hc'
        generalize gh1 : nl L k = a at *
        generalize gh2 : nr L k = b at *
        generalize gh3 : nl M k = c at *
        generalize gh4 : nr M k = d at *
        have HG : Hid (nl L k = a ∧ nr L k = b ∧ nl M k = c ∧ nr M k = d) := ⟨gh1, gh2, gh3, gh4⟩
        clear gh1 gh2 gh3 gh4
        cases e1 : (a == c)
        · go_wp2_with fail
          (refine wp_region_after (by kernel_rfl) (by kernel_rfl) ?_; have q_hc1 := fun (x : After _) => cell_keep hc1 x.bel; have q_hc2 := fun (x : After _) => cell_keep hc2 x.bel; have q_hc3 := fun (x : After _) => cell_keep hc3 x.bel; have q_hc4 := fun (x : After _) => cell_keep hc4 x.bel; (repeat (go_big_quiet_step (fail))); clear q_hc1; clear q_hc2; clear q_hc3; clear q_hc4; refine wpQuiet_nil ?_; rintro _ ⟨⟨w1, hbn⟩, rfl⟩; (try simp only [After.w]); replace hc1 := cell_keep hc1 hbn; replace hc2 := cell_keep hc2 hbn; replace hc3 := cell_keep hc3 hbn; replace hc4 := cell_keep hc4 hbn; replace hb := bel_to (w := w) (by first | exact hb | exact hb.alloc hb.size _ | exact (hb.alloc hb.size _).alloc (Nat.le_trans hb.size (by simp)) _ | exact hb.setCell (by simp [hb.size]) _) hbn; clear hbn)
          go_wp2
          go_ret
          exact ⟨ret_bool (by symm; rw [decide_eq_false_iff_not]; intro e; have := (HN.out e).1; simp at e1; exact e1 this), hb⟩
        · cases e2 : (b == d)
          · go_wp2_with fail
            (refine wp_region_after (by kernel_rfl) (by kernel_rfl) ?_; have q_hc1 := fun (x : After _) => cell_keep hc1 x.bel; have q_hc2 := fun (x : After _) => cell_keep hc2 x.bel; have q_hc3 := fun (x : After _) => cell_keep hc3 x.bel; have q_hc4 := fun (x : After _) => cell_keep hc4 x.bel; (repeat (go_big_quiet_step (fail))); clear q_hc1; clear q_hc2; clear q_hc3; clear q_hc4; refine wpQuiet_nil ?_; rintro _ ⟨⟨w1, hbn⟩, rfl⟩; (try simp only [After.w]); replace hc1 := cell_keep hc1 hbn; replace hc2 := cell_keep hc2 hbn; replace hc3 := cell_keep hc3 hbn; replace hc4 := cell_keep hc4 hbn; replace hb := bel_to (w := w) (by first | exact hb | exact hb.alloc hb.size _ | exact (hb.alloc hb.size _).alloc (Nat.le_trans hb.size (by simp)) _ | exact hb.setCell (by simp [hb.size]) _) hbn; clear hbn)
            go_wp2
            go_ret
            exact ⟨ret_bool (by symm; rw [decide_eq_false_iff_not]; intro e; have := (HN.out e).2; simp at e2; exact e2 this), hb⟩
          · have HE : Hid (a = c ∧ b = d) := by show a = c ∧ b = d; simp at e1 e2; exact ⟨e1, e2⟩
            go_wp2_with fail
            (refine wp_region_after (by kernel_rfl) (by kernel_rfl) ?_; have q_hc1 := fun (x : After _) => cell_keep hc1 x.bel; have q_hc2 := fun (x : After _) => cell_keep hc2 x.bel; have q_hc3 := fun (x : After _) => cell_keep hc3 x.bel; have q_hc4 := fun (x : After _) => cell_keep hc4 x.bel; (repeat (go_big_quiet_step (fail))); clear q_hc1; clear q_hc2; clear q_hc3; clear q_hc4; refine wpQuiet_nil ?_; rintro _ ⟨⟨w1, hbn⟩, rfl⟩; (try simp only [After.w]); replace hc1 := cell_keep hc1 hbn; replace hc2 := cell_keep hc2 hbn; replace hc3 := cell_keep hc3 hbn; replace hc4 := cell_keep hc4 hbn; replace hb := bel_to (w := w) (by first | exact hb | exact hb.alloc hb.size _ | exact (hb.alloc hb.size _).alloc (Nat.le_trans hb.size (by simp)) _ | exact hb.setCell (by simp [hb.size]) _) hbn; clear hbn)
            go_wp2
            go_roundw
            case rel => exact ⟨k + 1, by go_num, by omega, lt_step (p := fun j => nl L j = nl M j ∧ nr L j = nr M j) HA.out (by obtain ⟨g1, g2, g3, g4⟩ := HG.out; rw [g1, g2, g3, g4]; exact HE.out), hb⟩
            case measure => simp [intOf]; omega
      · have hkk : k = L.length := by omega
        have HE : Hid (L = M) := dlist_ext HL.out fun j hj => HA.out j (by omega)
        clear hkk
        go_wp2
        go_ret
        exact ⟨ret_bool (by symm; rw [decide_eq_true_iff]; exact HE.out), hb⟩
  · have hb0 : ((L.length : Int) != (M.length : Int)) = true := by simp; omega
    go_enter Try.func166, Try.ntmps166
    go_wp2
    go_ret
    exact ⟨ret_bool (by symm; rw [decide_eq_false_iff_not]; intro e; exact hlen (by rw [e])), Below.refl _ _⟩

set_option maxHeartbeats 800000 in
theorem c_specSameDeps (oa ob) (ca cb : Nat) (L M : List (Int × Int)) (w : World) (hL : DepsAt w oa L) (hM : DepsAt w ob M) :
    Ans Try.prog 69 #[.slice oa L.length ca, .slice ob M.length cb] w (.bool (decide (L = M))) := by
  unfold Ans
  have hn : L.length ≤ 1073741824 := hL.len
  by_cases hlen : L.length = M.length
  · have hb0 : ((L.length : Int) != (M.length : Int)) = false := by simp [hlen]
    have HL : Hid (L.length = M.length) := hlen
    have hlm : L.length ≤ M.length := by omega
    clear hlen
    go_enter Try.func69, Try.ntmps69
    go_wp2
    go_loopw [5] (fun i wr => ∃ k : Nat, i = .int .i64 k ∧ k ≤ L.length ∧ (∀ j, j < k → nl L j = nl M j ∧ nr L j = nr M j) ∧ Below w.heap.size w wr) (fun i _ => L.length - (intOf i).toNat)
    case atStart => exact ⟨0, rfl, Nat.zero_le _, fun j hj => absurd hj (by omega), Below.refl _ _⟩
    case round =>
      obtain ⟨k, rfl, hk, hall, hb⟩ := hrel
      have HA : Hid (∀ j, j < k → nl L j = nl M j ∧ nr L j = nr M j) := hall
      clear hall
      by_cases hlt : k < L.length
      · obtain ⟨b, off, rfl, hbs, hc⟩ := hL.at_ (by omega)
        obtain ⟨b', off', rfl, hbs', hc'⟩ := hM.at_ (by omega)
        have hc1 := cell_keep (hc k hlt).1 hb
        have hc2 := cell_keep (hc k hlt).2 hb
        have hc3 := cell_keep (hc' k (by omega)).1 hb
        have hc4 := cell_keep (hc' k (by omega)).2 hb
        have HN : Hid (L = M → nl L k = nl M k ∧ nr L k = nr M k) := fun e => by subst e; exact ⟨rfl, rfl⟩
        clear hc hc'
        generalize gh1 : nl L k = a at *
        generalize gh2 : nr L k = b at *
        generalize gh3 : nl M k = c at *
        generalize gh4 : nr M k = d at *
        have HG : Hid (nl L k = a ∧ nr L k = b ∧ nl M k = c ∧ nr M k = d) := ⟨gh1, gh2, gh3, gh4⟩
        clear gh1 gh2 gh3 gh4
        cases e1 : (a == c)
        · go_wp2_with fail
          (refine wp_region_after (by kernel_rfl) (by kernel_rfl) ?_; have q_hc1 := fun (x : After _) => cell_keep hc1 x.bel; have q_hc2 := fun (x : After _) => cell_keep hc2 x.bel; have q_hc3 := fun (x : After _) => cell_keep hc3 x.bel; have q_hc4 := fun (x : After _) => cell_keep hc4 x.bel; (repeat (go_big_quiet_step (fail))); clear q_hc1; clear q_hc2; clear q_hc3; clear q_hc4; refine wpQuiet_nil ?_; rintro _ ⟨⟨w1, hbn⟩, rfl⟩; (try simp only [After.w]); replace hc1 := cell_keep hc1 hbn; replace hc2 := cell_keep hc2 hbn; replace hc3 := cell_keep hc3 hbn; replace hc4 := cell_keep hc4 hbn; replace hb := bel_to (w := w) (by first | exact hb | exact hb.alloc hb.size _ | exact (hb.alloc hb.size _).alloc (Nat.le_trans hb.size (by simp)) _ | exact hb.setCell (by simp [hb.size]) _) hbn; clear hbn)
          go_wp2
          go_ret
          exact ⟨ret_bool (by symm; rw [decide_eq_false_iff_not]; intro e; have := (HN.out e).1; simp at e1; exact e1 this), hb⟩
        · cases e2 : (b == d)
          · go_wp2_with fail
            (refine wp_region_after (by kernel_rfl) (by kernel_rfl) ?_; have q_hc1 := fun (x : After _) => cell_keep hc1 x.bel; have q_hc2 := fun (x : After _) => cell_keep hc2 x.bel; have q_hc3 := fun (x : After _) => cell_keep hc3 x.bel; have q_hc4 := fun (x : After _) => cell_keep hc4 x.bel; (repeat (go_big_quiet_step (fail))); clear q_hc1; clear q_hc2; clear q_hc3; clear q_hc4; refine wpQuiet_nil ?_; rintro _ ⟨⟨w1, hbn⟩, rfl⟩; (try simp only [After.w]); replace hc1 := cell_keep hc1 hbn; replace hc2 := cell_keep hc2 hbn; replace hc3 := cell_keep hc3 hbn; replace hc4 := cell_keep hc4 hbn; replace hb := bel_to (w := w) (by first | exact hb | exact hb.alloc hb.size _ | exact (hb.alloc hb.size _).alloc (Nat.le_trans hb.size (by simp)) _ | exact hb.setCell (by simp [hb.size]) _) hbn; clear hbn)
            go_wp2
            go_ret
            exact ⟨ret_bool (by symm; rw [decide_eq_false_iff_not]; intro e; have := (HN.out e).2; simp at e2; exact e2 this), hb⟩
          · have HE : Hid (a = c ∧ b = d) := by show a = c ∧ b = d; simp at e1 e2; exact ⟨e1, e2⟩
            go_wp2_with fail
            (refine wp_region_after (by kernel_rfl) (by kernel_rfl) ?_; have q_hc1 := fun (x : After _) => cell_keep hc1 x.bel; have q_hc2 := fun (x : After _) => cell_keep hc2 x.bel; have q_hc3 := fun (x : After _) => cell_keep hc3 x.bel; have q_hc4 := fun (x : After _) => cell_keep hc4 x.bel; (repeat (go_big_quiet_step (fail))); clear q_hc1; clear q_hc2; clear q_hc3; clear q_hc4; refine wpQuiet_nil ?_; rintro _ ⟨⟨w1, hbn⟩, rfl⟩; (try simp only [After.w]); replace hc1 := cell_keep hc1 hbn; replace hc2 := cell_keep hc2 hbn; replace hc3 := cell_keep hc3 hbn; replace hc4 := cell_keep hc4 hbn; replace hb := bel_to (w := w) (by first | exact hb | exact hb.alloc hb.size _ | exact (hb.alloc hb.size _).alloc (Nat.le_trans hb.size (by simp)) _ | exact hb.setCell (by simp [hb.size]) _) hbn; clear hbn)
            go_wp2
            go_roundw
            case rel => exact ⟨k + 1, by go_num, by omega, lt_step (p := fun j => nl L j = nl M j ∧ nr L j = nr M j) HA.out (by obtain ⟨g1, g2, g3, g4⟩ := HG.out; rw [g1, g2, g3, g4]; exact HE.out), hb⟩
            case measure => simp [intOf]; omega
      · have hkk : k = L.length := by omega
        have HE : Hid (L = M) := dlist_ext HL.out fun j hj => HA.out j (by omega)
        clear hkk
        go_wp2
        go_ret
        exact ⟨ret_bool (by symm; rw [decide_eq_true_iff]; exact HE.out), hb⟩
  · have hb0 : ((L.length : Int) != (M.length : Int)) = true := by simp; omega
    go_enter Try.func69, Try.ntmps69
    go_wp2
    go_ret
    exact ⟨ret_bool (by symm; rw [decide_eq_false_iff_not]; intro e; exact hlen (by rw [e])), Below.refl _ _⟩

def eqTabF (n k : Int) (A B : List (List Int)) : Bool := (n == k) && decide (A = B)
set_option maxHeartbeats 800000 in
theorem c_specEqualTables (n k : Int) (oa ob) (ca cb : Nat) (A B : List (List Int)) (w : World) (hA : RowsAt w oa A) (hB : RowsAt w ob B) :
    Ans Try.prog 64 #[.agg #[.int .i64 n, .slice oa A.length ca], .agg #[.int .i64 k, .slice ob B.length cb]] w (.bool (eqTabF n k A B)) := by
  unfold Ans
  have hn : A.length ≤ 1073741824 := hA.len
  have hb := bel2 w (.cells #[.int .i64 n, .slice oa A.length ca] 26) (.cells #[.int .i64 k, .slice ob B.length cb] 26)
  have a0 := two_a w #[.int .i64 n, .slice oa A.length ca] 26 #[.int .i64 k, .slice ob B.length cb] 26 0 _ rfl
  have a1 := two_a w #[.int .i64 n, .slice oa A.length ca] 26 #[.int .i64 k, .slice ob B.length cb] 26 1 _ rfl
  have b0 := two_b w #[.int .i64 n, .slice oa A.length ca] 26 #[.int .i64 k, .slice ob B.length cb] 26 0 _ rfl
  have b1 := two_b w #[.int .i64 n, .slice oa A.length ca] 26 #[.int .i64 k, .slice ob B.length cb] 26 1 _ rfl
  cases h : (n == k)
  · have h' : (n != k) = true := by simp at h ⊢; exact h
    have HM : Hid (eqTabF n k A B = false) := by show eqTabF n k A B = false; unfold eqTabF; rw [h]; rfl
    go_enter Try.func64, Try.ntmps64
    go_wp2
    go_ret
    exact ⟨ret_bool HM.out.symm, hb⟩
  have h' : (n != k) = false := by simp at h ⊢; exact h
  have HM : Hid (eqTabF n k A B = decide (A = B)) := by show eqTabF n k A B = _; unfold eqTabF; rw [h]; rfl
  by_cases hlen : A.length = B.length
  · have hb0 : ((A.length : Int) != (B.length : Int)) = false := by simp [hlen]
    have HL : Hid (A.length = B.length) := hlen
    have hlm : A.length ≤ B.length := by omega
    clear hlen
    go_enter Try.func64, Try.ntmps64
    go_wp2
    go_loopw [5] (fun i wr => ∃ k' : Nat, i = .int .i64 k' ∧ k' ≤ A.length ∧ (∀ j, j < k' → row A j = row B j) ∧ wr.cell? ⟨w.heap.size, 1, none⟩ = some (.slice oa A.length ca) ∧ wr.cell? ⟨w.heap.size + 1, 1, none⟩ = some (.slice ob B.length cb) ∧ Below w.heap.size w wr) (fun i _ => A.length - (intOf i).toNat)
    case atStart => exact ⟨0, rfl, Nat.zero_le _, fun j hj => absurd hj (by omega), a1, b1, hb⟩
    case round =>
      clear a0 a1 b0 b1 hb
      obtain ⟨k', rfl, hk, hall, a1, b1, hb⟩ := hrel
      have HA : Hid (∀ j, j < k' → row A j = row B j) := hall
      clear hall
      by_cases hlt : k' < A.length
      · obtain ⟨b, off, rfl, hbs, hc⟩ := hA.at_ (by omega)
        obtain ⟨b', off', rfl, hbs', hc'⟩ := hB.at_ (by omega)
        obtain ⟨o1, c1, h1, r1⟩ := hc k' hlt
        obtain ⟨o2, c2, h2, r2⟩ := hc' k' (by omega)
        have hc1 := cell_keep h1 hb
        have hc2 := cell_keep h2 hb
        have hx1 := fun (x : After wr) => (r1.keep hb).keep x.bel
        have hx2 := fun (x : After wr) => (r2.keep hb).keep x.bel
        have HN : Hid (A = B → row A k' = row B k') := fun e => by rw [e]
        clear hc hc' h1 h2
        cases he : decide (row A k' = row B k')
        · go_wp2_with fail
          (refine wp_region_after (by kernel_rfl) (by kernel_rfl) ?_; have q_a1 := fun (x : After _) => cell_keep a1 x.bel; have q_b1 := fun (x : After _) => cell_keep b1 x.bel; have q_hc1 := fun (x : After _) => cell_keep hc1 x.bel; have q_hc2 := fun (x : After _) => cell_keep hc2 x.bel; (repeat (go_big_quiet_step ((first | (go_at_call 139; exact Ans.after (Ans.eqb (c_l2Ints _ _ _ _ _ _ _ (hx1 _) (hx2 _)) he)))))); clear q_a1; clear q_b1; clear q_hc1; clear q_hc2; refine wpQuiet_nil ?_; rintro _ ⟨⟨w1, hbn⟩, rfl⟩; (try simp only [After.w]); replace a1 := cell_keep a1 hbn; replace b1 := cell_keep b1 hbn; replace hc1 := cell_keep hc1 hbn; replace hc2 := cell_keep hc2 hbn; replace hb := bel_to (w := w) (by first | exact hb | exact hb.alloc hb.size _ | exact (hb.alloc hb.size _).alloc (Nat.le_trans hb.size (by simp)) _ | exact hb.setCell (by simp [hb.size]) _) hbn; clear hbn)
          go_wp2
          go_ret
          exact ⟨ret_bool (by rw [HM.out]; symm; rw [decide_eq_false_iff_not]; intro e; exact (of_decide_eq_false he) (HN.out e)), hb⟩
        · have HE : Hid (row A k' = row B k') := (show row A k' = row B k' from of_decide_eq_true he)
          go_wp2_with fail
          (refine wp_region_after (by kernel_rfl) (by kernel_rfl) ?_; have q_a1 := fun (x : After _) => cell_keep a1 x.bel; have q_b1 := fun (x : After _) => cell_keep b1 x.bel; have q_hc1 := fun (x : After _) => cell_keep hc1 x.bel; have q_hc2 := fun (x : After _) => cell_keep hc2 x.bel; (repeat (go_big_quiet_step ((first | (go_at_call 139; exact Ans.after (Ans.eqb (c_l2Ints _ _ _ _ _ _ _ (hx1 _) (hx2 _)) he)))))); clear q_a1; clear q_b1; clear q_hc1; clear q_hc2; refine wpQuiet_nil ?_; rintro _ ⟨⟨w1, hbn⟩, rfl⟩; (try simp only [After.w]); replace a1 := cell_keep a1 hbn; replace b1 := cell_keep b1 hbn; replace hc1 := cell_keep hc1 hbn; replace hc2 := cell_keep hc2 hbn; replace hb := bel_to (w := w) (by first | exact hb | exact hb.alloc hb.size _ | exact (hb.alloc hb.size _).alloc (Nat.le_trans hb.size (by simp)) _ | exact hb.setCell (by simp [hb.size]) _) hbn; clear hbn)
          go_wp2
          go_roundw
          case rel => exact ⟨k' + 1, by go_num, by omega, lt_step (p := fun j => row A j = row B j) HA.out HE.out, a1, b1, hb⟩
          case measure => simp [intOf]; omega
      · have HE : Hid (A = B) := rows_ext' HL.out fun j hj => HA.out j (by omega)
        go_wp2
        go_ret
        exact ⟨ret_bool (by rw [HM.out]; symm; rw [decide_eq_true_iff]; exact HE.out), hb⟩
  · have hb0 : ((A.length : Int) != (B.length : Int)) = true := by simp; omega
    go_enter Try.func64, Try.ntmps64
    go_wp2
    go_ret
    exact ⟨ret_bool (by rw [HM.out]; symm; rw [decide_eq_false_iff_not]; intro e; exact hlen (by rw [e])), hb⟩
end Go.Proofs.Ytjbmpnbfiahdhaa
namespace Go.Proofs.Ytjbmpnbfiahdhaa
open Go.RowKit
set_option linter.unusedVariables false
set_option maxRecDepth 100000

structure Sr where
  n : Int
  R : List (List Int)
  m : Int
  a : Int
  F : List (Int × Int)
  t : Int
def eqSrF (A B : Sr) : Bool := (((eqTabF A.n B.n A.R B.R && (A.m == B.m)) && (A.a == B.a)) && decide (A.F = B.F)) && (A.t == B.t)
end Go.Proofs.Ytjbmpnbfiahdhaa
namespace Go.Proofs.Ytjbmpnbfiahdhaa
open Go.ChangeShapes Go.WideShapes Go.ChangeAt Go.RowKit
set_option linter.unusedVariables false
set_option maxRecDepth 100000

theorem open_ints {H : Type} {enc : TypeId × Value → H} {W : World} {base : Nat} {held : Bool} {v : Value} {d : DataW H} {ps : List MemPlace} (hok : Value.okWide Try.prog W .any base 68 v)
    (h : DataW.Trod enc Try.prog W 0 (fun _ => true) held 68 v d ps) : InInts W v := by
  obtain ⟨a0, len0, cap0, rfl⟩ := okWide_slice Try.underlying68 hok
  obtain ⟨fuel, hf⟩ := h
  rcases Go.ChangeShapes.open_ints Try.underlying68 Try.underlying3 (by kernel_rfl) hf with ⟨hcs, _⟩ | ⟨x, l, c, zs, hcs, _, hl, hm, hz, _, hcell, hwz⟩
  · simp [Value.cells] at hcs
    obtain ⟨rfl, rfl, rfl⟩ := hcs
    exact ⟨_, _, _, [], rfl, .inl ⟨rfl, rfl, rfl, rfl⟩⟩
  · simp [Value.cells] at hcs
    obtain ⟨rfl, rfl, rfl⟩ := hcs
    exact ⟨_, _, _, zs, rfl, .inr ⟨_, rfl, hl, hm, by simpa using hz, hcell, hwz⟩⟩
end Go.Proofs.Ytjbmpnbfiahdhaa
namespace Go.Proofs.Ytjbmpnbfiahdhaa
open Go.ChangeShapes Go.WideShapes Go.ChangeAt Go.RowKit Go.Joins
set_option linter.unusedVariables false
set_option maxRecDepth 100000

theorem add_at (b off j : Nat) : (⟨b, off, none⟩ : Addr).add j = ⟨b, off + j, none⟩ := by unfold Addr.add; split <;> simp_all

theorem open_deps {H : Type} {enc : TypeId × Value → H} {W : World} {base : Nat} {held : Bool} {v : Value} {d : DataW H} {ps : List MemPlace} (hok : Value.okWide Try.prog W .any base 22 v)
    (h : DataW.Trod enc Try.prog W 0 (fun _ => true) held 22 v d ps) : InDeps W v := by
  obtain ⟨a0, len0, cap0, rfl⟩ := okWide_slice Try.underlying22 hok
  obtain ⟨fuel, hf⟩ := h
  rcases Go.Deep.open_slice_pairs Try.underlying22 Try.underlying104 (by kernel_rfl) rfl rfl (by kernel_rfl) (by kernel_rfl) hf with ⟨hcs, _⟩ | ⟨x, l, c, m, n, V0, V1, D0, D1, P0, P1, hcs, _, hl, hm, hmm, _, hcell⟩
  · simp [Value.cells] at hcs
    obtain ⟨rfl, rfl, rfl⟩ := hcs
    exact ⟨_, _, _, rfl, Nat.zero_le _, fun _ => ⟨[], rfl, by simp, fun h => absurd h (by simp)⟩⟩
  · simp [Value.cells] at hcs
    obtain ⟨rfl, rfl, rfl⟩ := hcs
    simp only [if_true] at hmm
    subst hmm
    refine ⟨_, _, _, rfl, Nat.le_trans hl hm, fun hr => ?_⟩
    have each : ∀ i, i < len0 → ∃ q : Int × Int, V0 i = .int .i64 q.1 ∧ V1 i = .int .i64 q.2 := by
      intro i hi
      obtain ⟨_, _, t0, t1⟩ := hcell i (by omega)
      obtain ⟨z0, e0, _⟩ := DataW.trod_int Try.underlying3 t0
      obtain ⟨z1, e1, _⟩ := DataW.trod_int Try.underlying3 t1
      simp at e0 e1
      exact ⟨(z0, z1), e0, e1⟩
    obtain ⟨q, hq⟩ := Go.Deep.choose_lt each
    refine ⟨(List.range len0).map q, by simp, by simpa using hr, fun h0 => ?_⟩
    simp only [List.length_map, List.length_range] at h0
    obtain ⟨b, off, spot⟩ := x
    have hc := (hcell 0 (by omega)).1
    have hspot : spot = none := by simpa [Addr.add] using World.cell?_spot hc
    subst hspot
    refine ⟨b, off, rfl, World.block_lt_of_cell? W ⟨b, off, none⟩ (by simpa [Addr.add] using hc), fun k hk => ?_⟩
    simp only [List.length_map, List.length_range] at hk
    obtain ⟨c0, c1, _⟩ := hcell k (by omega)
    rw [add_at] at c0 c1
    obtain ⟨e0, e1⟩ := hq k hk
    rw [e0] at c0
    rw [e1] at c1
    rw [Nat.add_assoc, c0, c1]
    have e : ((List.range len0).map q).getD k (0, 0) = q k := by simp [List.getD, hk]
    unfold nl nr
    rw [e]; exact ⟨rfl, rfl⟩

theorem open_dep {H : Type} {enc : TypeId × Value → H} {W : World} {base : Nat} {held : Bool} {v : Value} {d : DataW H} {ps : List MemPlace} (hok : Value.okWide Try.prog W .any base 104 v)
    (h : DataW.Trod enc Try.prog W 0 (fun _ => true) held 104 v d ps) : ∃ l r : Int, v = .agg #[.int .i64 l, .int .i64 r] ∧ (Lit.int .i64 l).wf = true ∧ (Lit.int .i64 r).wf = true := by
  obtain ⟨c0, c1, y0, y1, m, rfl, rfl, rfl, hy0, hy1⟩ := open_agg2 Try.underlying104 (by kernel_rfl) (by kernel_rfl) hok h
  obtain ⟨z0, e0, _, w0⟩ := DataW.trod_int Try.underlying3 hy0
  obtain ⟨z1, e1, _, w1⟩ := DataW.trod_int Try.underlying3 hy1
  simp at e0 e1
  subst e0 e1
  exact ⟨_, _, rfl, w0, w1⟩
end Go.Proofs.Ytjbmpnbfiahdhaa
namespace Go.Proofs.Ytjbmpnbfiahdhaa
open Go.ChangeShapes Go.WideShapes Go.ChangeAt Go.RowKit Go.Joins
set_option linter.unusedVariables false
set_option maxRecDepth 100000

def InTab (w : World) (v : Value) : Prop := ∃ (n : Int) (oa : Option Addr) (l c : Nat) (Ln : Nat → Nat), v = .agg #[.int .i64 n, .slice oa l c] ∧ RowsIn w oa l Ln
theorem open_table {H : Type} {enc : TypeId × Value → H} {W : World} {base : Nat} {held : Bool} {v : Value} {d : DataW H} {ps : List MemPlace} (hok : Value.okWide Try.prog W .any base 36 v)
    (h : DataW.Trod enc Try.prog W 0 (fun _ => true) held 36 v d ps) : InTab W v := by
  obtain ⟨c0, c1, y0, y1, m, rfl, rfl, rfl, hy0, hy1⟩ := open_agg2 Try.underlying36 (by kernel_rfl) (by kernel_rfl) hok h
  obtain ⟨z0, e0, _, w0⟩ := DataW.trod_int Try.underlying3 hy0
  simp at e0
  subst e0
  rcases Go.Deep.open_int_rows Try.underlying24 Try.underlying68 Try.underlying3 (by kernel_rfl) (by kernel_rfl) hy1 with ⟨hcs, _⟩ | ⟨a, len, cap, A, L, C, Z, hcs, _, hl, hm, _, hr⟩
  · simp at hcs
    subst hcs
    exact ⟨_, _, _, _, fun _ => 0, rfl, Nat.zero_le _, fun h => absurd h (by simp)⟩
  · simp at hcs
    subst hcs
    refine ⟨_, _, _, _, L, rfl, Nat.le_trans hl hm, fun h0 => ?_⟩
    obtain ⟨b, off, spot⟩ := a
    have hc := (hr 0 (by omega)).1
    have hspot : spot = none := by simpa [Addr.add] using World.cell?_spot hc
    subst hspot
    refine ⟨b, off, rfl, World.block_lt_of_cell? W ⟨b, off, none⟩ (by simpa [Addr.add] using hc), fun r hrl => ?_⟩
    obtain ⟨h1, h2, h3, h4, h5, h6, h7⟩ := hr r (by omega)
    rw [add_at] at h1
    refine ⟨Nat.le_trans h2 h3, A r, C r, h1, fun hroom => ?_⟩
    refine IsRow.ints (cap := C r) (zs := Z r) ?_ hroom
    cases hA : A r with
    | none =>
      have hz : C r = 0 := h6 hA
      refine .inl ⟨rfl, by omega, hz, List.eq_nil_of_length_eq_zero (by omega)⟩
    | some a' =>
      obtain ⟨_, hcell⟩ := h7 a' hA
      exact .inr ⟨a', rfl, h2, h3, h4, fun i hi => hcell i (by omega), h5⟩
theorem RowsIn.keep {w w' : World} {oa : Option Addr} {l : Nat} {Ln : Nat → Nat} (h : RowsIn w oa l Ln) (hk : Below w.heap.size w w') : RowsIn w' oa l Ln :=
  ⟨h.len, fun h0 => by
    obtain ⟨b, off, e, hlt, hr⟩ := h.rows h0
    exact ⟨b, off, e, Nat.lt_of_lt_of_le hlt hk.size, fun r hrl => by
      obtain ⟨m, o, c, h1, h2⟩ := hr r hrl
      exact ⟨m, o, c, cell_keep h1 hk, fun hq => by
        obtain ⟨L, e1, e2⟩ := h2 hq
        exact ⟨L, e1, e2.keep hk⟩⟩⟩⟩
end Go.Proofs.Ytjbmpnbfiahdhaa
namespace Go.Proofs.Ytjbmpnbfiahdhaa
open Go.ChangeShapes Go.WideShapes Go.ChangeAt Go.RowKit Go.Joins
set_option linter.unusedVariables false
set_option maxRecDepth 100000

theorem deps_of_trod {H : Type} {enc : TypeId × Value → H} {W : World} {held : Bool} {fuel : Nat} {v : Value} {x : DataW H × List MemPlace} (hf : DataW.trod enc Try.prog W 0 (fun _ => true) held fuel 22 [v] = some x) : InDeps W v := by
  rcases Go.Deep.open_slice_pairs Try.underlying22 Try.underlying104 (by kernel_rfl) rfl rfl (by kernel_rfl) (by kernel_rfl) hf with ⟨hcs, _⟩ | ⟨x, l, c, m, n, V0, V1, D0, D1, P0, P1, hcs, _, hl, hm, hmm, _, hcell⟩
  · simp at hcs
    subst hcs
    exact ⟨_, _, _, rfl, Nat.zero_le _, fun _ => ⟨[], rfl, by simp, fun h => absurd h (by simp)⟩⟩
  · simp at hcs
    subst hcs
    simp only [if_true] at hmm
    subst hmm
    refine ⟨_, _, _, rfl, Nat.le_trans hl hm, fun hr => ?_⟩
    have each : ∀ i, i < l → ∃ q : Int × Int, V0 i = .int .i64 q.1 ∧ V1 i = .int .i64 q.2 := by
      intro i hi
      obtain ⟨_, _, t0, t1⟩ := hcell i (by omega)
      obtain ⟨z0, e0, _⟩ := DataW.trod_int Try.underlying3 t0
      obtain ⟨z1, e1, _⟩ := DataW.trod_int Try.underlying3 t1
      simp at e0 e1
      exact ⟨(z0, z1), e0, e1⟩
    obtain ⟨q, hq⟩ := Go.Deep.choose_lt each
    refine ⟨(List.range l).map q, by simp, by simpa using hr, fun h0 => ?_⟩
    simp only [List.length_map, List.length_range] at h0
    obtain ⟨b, off, spot⟩ := x
    have hc := (hcell 0 (by omega)).1
    have hspot : spot = none := by simpa [Addr.add] using World.cell?_spot hc
    subst hspot
    refine ⟨b, off, rfl, World.block_lt_of_cell? W ⟨b, off, none⟩ (by simpa [Addr.add] using hc), fun k hk => ?_⟩
    simp only [List.length_map, List.length_range] at hk
    obtain ⟨c0, c1, _⟩ := hcell k (by omega)
    rw [add_at] at c0 c1
    obtain ⟨e0, e1⟩ := hq k hk
    rw [e0] at c0
    rw [e1] at c1
    rw [Nat.add_assoc, c0, c1]
    have e : ((List.range l).map q).getD k (0, 0) = q k := by simp [List.getD, hk]
    unfold nl nr
    rw [e]; exact ⟨rfl, rfl⟩
theorem rows_of_trod {H : Type} {enc : TypeId × Value → H} {W : World} {held : Bool} {fuel : Nat} {v : Value} {x : DataW H × List MemPlace} (hy1 : DataW.trod enc Try.prog W 0 (fun _ => true) held fuel 24 [v] = some x) : ∃ (oa : Option Addr) (l c : Nat) (Ln : Nat → Nat), v = .slice oa l c ∧ RowsIn W oa l Ln := by
  rcases Go.Deep.open_int_rows Try.underlying24 Try.underlying68 Try.underlying3 (by kernel_rfl) (by kernel_rfl) hy1 with ⟨hcs, _⟩ | ⟨a, len, cap, A, L, C, Z, hcs, _, hl, hm, _, hr⟩
  · simp at hcs
    subst hcs
    exact ⟨_, _, _, fun _ => 0, rfl, Nat.zero_le _, fun h => absurd h (by simp)⟩
  · simp at hcs
    subst hcs
    refine ⟨_, _, _, L, rfl, Nat.le_trans hl hm, fun h0 => ?_⟩
    obtain ⟨b, off, spot⟩ := a
    have hc := (hr 0 (by omega)).1
    have hspot : spot = none := by simpa [Addr.add] using World.cell?_spot hc
    subst hspot
    refine ⟨b, off, rfl, World.block_lt_of_cell? W ⟨b, off, none⟩ (by simpa [Addr.add] using hc), fun r hrl => ?_⟩
    obtain ⟨h1, h2, h3, h4, h5, h6, h7⟩ := hr r (by omega)
    rw [add_at] at h1
    refine ⟨Nat.le_trans h2 h3, A r, C r, h1, fun hroom => ?_⟩
    refine IsRow.ints (cap := C r) (zs := Z r) ?_ hroom
    cases hA : A r with
    | none =>
      have hz : C r = 0 := h6 hA
      refine .inl ⟨rfl, by omega, hz, List.eq_nil_of_length_eq_zero (by omega)⟩
    | some a' =>
      obtain ⟨_, hcell⟩ := h7 a' hA
      exact .inr ⟨a', rfl, h2, h3, h4, fun i hi => hcell i (by omega), h5⟩
def InSr (w : World) (v : Value) : Prop := ∃ (n m a t : Int) (oa : Option Addr) (l c : Nat) (Ln : Nat → Nat) (vD : Value), v = .agg #[.int .i64 n, .slice oa l c, .int .i64 m, .int .i64 a, vD, .int .i64 t] ∧ RowsIn w oa l Ln ∧ InDeps w vD
  ∧ (Lit.int .i64 m).wf = true ∧ (Lit.int .i64 a).wf = true ∧ (Lit.int .i64 t).wf = true
theorem open_search {H : Type} {enc : TypeId × Value → H} {W : World} {base : Nat} {held : Bool} {v : Value} {d : DataW H} {ps : List MemPlace} (hok : Value.okWide Try.prog W .any base 47 v)
    (h : DataW.Trod enc Try.prog W 0 (fun _ => true) held 47 v d ps) : InSr W v := by
  obtain ⟨cs, rfl, hsz⟩ := okWide_struct Try.underlying47 hok
  obtain ⟨l⟩ := cs
  have hC : Try.prog.cellsOf 47 = 6 := by kernel_rfl
  match l, hsz.trans hC with
  | [v0, v1, v2, v3, v4, v5], _ =>
    obtain ⟨fuel, hf⟩ := h
    obtain ⟨xs, n, _, hx, _, hlen, hg⟩ := DataW.trod_struct Try.underlying47 hf
    match xs, hlen with
    | [y0, y1, y2, y3, y4], _ =>
      have g0 := hg 0 _ rfl
      have g1 := hg 1 _ rfl
      have g2 := hg 2 _ rfl
      have g3 := hg 3 _ rfl
      have g4 := hg 4 _ rfl
      have ci : Try.prog.cellsOf 3 = 1 := by kernel_rfl
      have ct : Try.prog.cellsOf 36 = 2 := by kernel_rfl
      have cd : Try.prog.cellsOf 22 = 1 := by kernel_rfl
      simp [Value.cells, ci, ct, cd] at g0 g1 g2 g3 g4
      obtain ⟨zs, k, _, _, _, hzl, hz⟩ := DataW.trod_struct Try.underlying36 g0
      match zs, hzl with
      | [z0, z1], _ =>
        have q0 := hz 0 _ rfl
        have q1 := hz 1 _ rfl
        have cr : Try.prog.cellsOf 24 = 1 := by kernel_rfl
        simp [ci, cr] at q0 q1
        obtain ⟨i0, e0, _, w0⟩ := DataW.trod_int Try.underlying3 q0
        obtain ⟨i1, e1, _, w1⟩ := DataW.trod_int Try.underlying3 g1
        obtain ⟨i2, e2, _, w2⟩ := DataW.trod_int Try.underlying3 g2
        obtain ⟨i4, e4, _, w4⟩ := DataW.trod_int Try.underlying3 g4
        simp at e0 e1 e2 e4
        subst e0 e1 e2 e4
        obtain ⟨oa, lr, cr, Ln, rfl, hR⟩ := rows_of_trod q1
        exact ⟨_, _, _, _, _, _, _, _, _, rfl, hR, deps_of_trod g3, w1, w2, w4⟩
end Go.Proofs.Ytjbmpnbfiahdhaa
