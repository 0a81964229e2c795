/- ViolatedBorder, of the program and of the reference. -/
import Derived.Test.YtaomdnibnnobiaaParts
import Derived.Test.YtaomdnibnnobiaaMax
import Derived.Test.YtaomdnibnnobiaaKeysT
import Derived.Test.YtaomdnibnnobiaaHold2
namespace Go.Proofs.Ytaomdnibnnobiaa
open Go.RowKit
set_option linter.unusedVariables false
set_option maxRecDepth 100000

def bordP (R : List (List Int)) (m r x : Int) : Bool := !hasc x r && !holdsF R m x r
def bordOk (n : Int) (R : List (List Int)) (m r : Int) : Bool := (isTabF n R && modeF m) && (decide (0 ≤ r) && decide (r < n))
def bordF (n : Int) (R : List (List Int)) (m r : Int) : List Int := if bordOk n R m r then maxF (flt (bordP R m r) (2 ^ n.toNat)) else []
theorem bord_len (n : Int) (R : List (List Int)) (m r : Int) : (bordF n R m r).length ≤ Room := by
  unfold bordF
  split
  · have := maxF_len (flt (bordP R m r) (2 ^ n.toNat)); unfold Room; omega
  · simp
theorem all_same {p : Int → Bool} {L M : List Int} (h : ∀ x, x ∈ L ↔ x ∈ M) : L.all p = M.all p := by
  rw [Bool.eq_iff_iff, List.all_eq_true, List.all_eq_true]
  exact ⟨fun H x hx => H x ((h x).2 hx), fun H x hx => H x ((h x).1 hx)⟩
theorem maxF_same {L M : List Int} (h : ∀ x, x ∈ L ↔ x ∈ M) (hl : L.length ≤ 100) (hm : M.length ≤ 100) : maxF L = maxF M := by
  unfold maxF
  have e1 : setsF L = setsF M := all_same h
  have e2 : (fun x => inB' L x && maxB L x) = fun x => inB' M x && maxB M x := by
    funext x
    unfold inB' maxB
    rw [all_same h]
    congr 1
    rw [decide_eq_decide]
    exact h x
  rw [e1, e2]
  simp [hl, hm]
theorem bord_dep {n : Int} {R : List (List Int)} {m r x : Int} (h : bordOk n R m r = true) (h0 : 0 ≤ x) (hx : x < 2 ^ n.toNat) : askF n R m x r = true ∧ St x := by
  unfold bordOk at h
  simp only [Bool.and_eq_true, decide_eq_true_eq] at h
  obtain ⟨⟨ht, hm⟩, hr0, hrn⟩ := h
  obtain ⟨h1, h5, _, _⟩ := isTab_of ht
  have hp := (pow_wrap (n := n) (by omega) h5).2.1
  refine ⟨?_, ⟨h0, by omega⟩⟩
  unfold askF isDepF isAttr
  rw [ht, hm]
  simp only [Bool.and_eq_true, decide_eq_true_eq, Bool.and_self, Bool.true_and]
  exact ⟨⟨⟨h1, ⟨⟨⟨by omega, h5⟩, h0⟩, hx⟩⟩, hr0⟩, hrn⟩
theorem c_hasColumn (n : Int) (v : Value) (c : Int) (w : World) : Ans Try.prog 73 #[.agg #[.int .i64 n, v], .int .i64 c] w (.bool (decide (0 ≤ c) && decide (c < n))) := by
  unfold Ans
  have hb := (Below.refl w.heap.size w).alloc (Nat.le_refl _) (.cells #[.int .i64 n, v] 41)
  by_cases h : 0 ≤ c
  · go_enter Try.func73, Try.ntmps73
    go_wp2
    go_ret
    exact ⟨ret_bool (by simp [h]), hb⟩
  · go_enter Try.func73, Try.ntmps73
    go_wp2
    go_ret
    exact ⟨ret_bool (by rw [decide_eq_false (show ¬ (0 ≤ c) by omega)]; rfl), hb⟩

set_option maxHeartbeats 1600000 in
theorem c_ViolatedBorder (n : Int) (oa) (cap : Nat) (R : List (List Int)) (m r : Int) (w : World) (hR : RowsAt w oa R) :
    Calls Try.prog 33 #[.agg #[.int .i64 n, .slice oa R.length cap], .int .i64 m, .int .i64 r] w fun e w' => ∃ v, e = .returned v ∧ OwnI w' w.heap.size v (bordF n R m r) ∧ Below w.heap.size w w' := by
  obtain ⟨i0, hi, hz0, hz1, hz2⟩ := info_parts info_int
  have hb := bel2 w (.cells #[.int .i64 n, .slice oa R.length cap] 41) (.cells #[] 3)
  have a0 := two_a w #[.int .i64 n, .slice oa R.length cap] 41 #[] 3 0 _ rfl
  have a1 := two_a w #[.int .i64 n, .slice oa R.length cap] 41 #[] 3 1 _ rfl
  have hI : OwnI ((w.alloc (.cells #[.int .i64 n, .slice oa R.length cap] 41)).alloc (.cells #[] 3)) (w.heap.size + 1) (.slice (some ⟨w.heap.size + 1, 0, none⟩) 0 0) [] := by
    have h := (OwnI.empty (w.alloc (.cells #[.int .i64 n, .slice oa R.length cap] 41)) _ (Nat.le_refl _))
    simpa using h
  cases ht : isTabF n R
  · have HM : Hid (bordF n R m r = []) := by show bordF n R m r = []; unfold bordF bordOk; rw [ht]; rfl
    go_enter Try.func33, Try.ntmps33
    go_wp2_with (first | (go_at_call 62; refine Calls.mono (Ans.eqb (c_IsTable _ _ _ _ _ (hR.keep hb)) ht) ?_; rintro e w1 ⟨rfl, hbn⟩; replace a0 := cell_keep a0 hbn; replace a1 := cell_keep a1 hbn; replace hI := hI.keep hbn; replace hb := bel_to (w := w) (by first | exact hb | exact hb.alloc hb.size _ | exact (hb.alloc hb.size _).alloc (Nat.le_trans hb.size (by simp)) _ | exact hb.setCell (by simp [hb.size]) _) hbn; clear hbn))
    go_ret
    exact ⟨_, rfl, by rw [HM.out]; exact hI.based (Nat.le_succ _), hb⟩
  cases hm : modeF m
  · have HM : Hid (bordF n R m r = []) := by show bordF n R m r = []; unfold bordF bordOk; rw [ht, hm]; rfl
    go_enter Try.func33, Try.ntmps33
    go_wp2_with (first | (go_at_call 62; refine Calls.mono (Ans.eqb (c_IsTable _ _ _ _ _ (hR.keep hb)) ht) ?_; rintro e w1 ⟨rfl, hbn⟩; replace a0 := cell_keep a0 hbn; replace a1 := cell_keep a1 hbn; replace hI := hI.keep hbn; replace hb := bel_to (w := w) (by first | exact hb | exact hb.alloc hb.size _ | exact (hb.alloc hb.size _).alloc (Nat.le_trans hb.size (by simp)) _ | exact hb.setCell (by simp [hb.size]) _) hbn; clear hbn) | (go_at_call 63; refine Calls.mono (Ans.eqb (c_isMode _ _) hm) ?_; rintro e w1 ⟨rfl, hbn⟩; replace a0 := cell_keep a0 hbn; replace a1 := cell_keep a1 hbn; replace hI := hI.keep hbn; replace hb := bel_to (w := w) (by first | exact hb | exact hb.alloc hb.size _ | exact (hb.alloc hb.size _).alloc (Nat.le_trans hb.size (by simp)) _ | exact hb.setCell (by simp [hb.size]) _) hbn; clear hbn))
    go_ret
    exact ⟨_, rfl, by rw [HM.out]; exact hI.based (Nat.le_succ _), hb⟩
  cases hc : (decide (0 ≤ r) && decide (r < n))
  · have HM : Hid (bordF n R m r = []) := by show bordF n R m r = []; unfold bordF bordOk; rw [ht, hm, hc]; rfl
    go_enter Try.func33, Try.ntmps33
    go_wp2_with (first | (go_at_call 62; refine Calls.mono (Ans.eqb (c_IsTable _ _ _ _ _ (hR.keep hb)) ht) ?_; rintro e w1 ⟨rfl, hbn⟩; replace a0 := cell_keep a0 hbn; replace a1 := cell_keep a1 hbn; replace hI := hI.keep hbn; replace hb := bel_to (w := w) (by first | exact hb | exact hb.alloc hb.size _ | exact (hb.alloc hb.size _).alloc (Nat.le_trans hb.size (by simp)) _ | exact hb.setCell (by simp [hb.size]) _) hbn; clear hbn) | (go_at_call 63; refine Calls.mono (Ans.eqb (c_isMode _ _) hm) ?_; rintro e w1 ⟨rfl, hbn⟩; replace a0 := cell_keep a0 hbn; replace a1 := cell_keep a1 hbn; replace hI := hI.keep hbn; replace hb := bel_to (w := w) (by first | exact hb | exact hb.alloc hb.size _ | exact (hb.alloc hb.size _).alloc (Nat.le_trans hb.size (by simp)) _ | exact hb.setCell (by simp [hb.size]) _) hbn; clear hbn) | (go_at_call 73; refine Calls.mono (Ans.eqb (c_hasColumn _ _ _ _) hc) ?_; rintro e w1 ⟨rfl, hbn⟩; replace a0 := cell_keep a0 hbn; replace a1 := cell_keep a1 hbn; replace hI := hI.keep hbn; replace hb := bel_to (w := w) (by first | exact hb | exact hb.alloc hb.size _ | exact (hb.alloc hb.size _).alloc (Nat.le_trans hb.size (by simp)) _ | exact hb.setCell (by simp [hb.size]) _) hbn; clear hbn))
    go_ret
    exact ⟨_, rfl, by rw [HM.out]; exact hI.based (Nat.le_succ _), hb⟩
  have hok : bordOk n R m r = true := by unfold bordOk; rw [ht, hm, hc]; rfl
  obtain ⟨hn1, hn5, _, _⟩ := isTab_of ht
  have hc' : 0 ≤ r ∧ r < n := by simpa using hc
  have hr64 : 0 ≤ r ∧ r < 64 := ⟨hc'.1, by omega⟩
  have hpl := partsF_len n
  have HM : Hid (bordF n R m r = maxF ((partsF n).filter (bordP R m r))) := by
    show bordF n R m r = maxF ((partsF n).filter (bordP R m r))
    unfold bordF
    rw [if_pos hok]
    have hp := pow_nat (n := n) (by omega) hn5
    refine maxF_same (fun x => ?_) (Nat.le_trans (flt_le _ _) (by omega)) (Nat.le_trans (List.length_filter_le _ _) (by omega))
    rw [flt_mem, List.mem_filter, partsF_mem (by omega) hn5, hp.1]
  have HK : Hid (∀ x ∈ partsF n, askF n R m x r = true) := fun x hx => by
    have h := (partsF_mem (n := n) (by omega) hn5).1 hx
    exact (bord_dep hok h.1 h.2).1
  clear hc' hok
  go_enter Try.func33, Try.ntmps33
  go_wp2_with (first | (go_at_call 62; refine Calls.mono (Ans.eqb (c_IsTable _ _ _ _ _ (hR.keep hb)) ht) ?_; rintro e w1 ⟨rfl, hbn⟩; replace a0 := cell_keep a0 hbn; replace a1 := cell_keep a1 hbn; replace hI := hI.keep hbn; replace hb := bel_to (w := w) (by first | exact hb | exact hb.alloc hb.size _ | exact (hb.alloc hb.size _).alloc (Nat.le_trans hb.size (by simp)) _ | exact hb.setCell (by simp [hb.size]) _) hbn; clear hbn) | (go_at_call 63; refine Calls.mono (Ans.eqb (c_isMode _ _) hm) ?_; rintro e w1 ⟨rfl, hbn⟩; replace a0 := cell_keep a0 hbn; replace a1 := cell_keep a1 hbn; replace hI := hI.keep hbn; replace hb := bel_to (w := w) (by first | exact hb | exact hb.alloc hb.size _ | exact (hb.alloc hb.size _).alloc (Nat.le_trans hb.size (by simp)) _ | exact hb.setCell (by simp [hb.size]) _) hbn; clear hbn) | (go_at_call 73; refine Calls.mono (Ans.eqb (c_hasColumn _ _ _ _) hc) ?_; rintro e w1 ⟨rfl, hbn⟩; replace a0 := cell_keep a0 hbn; replace a1 := cell_keep a1 hbn; replace hI := hI.keep hbn; replace hb := bel_to (w := w) (by first | exact hb | exact hb.alloc hb.size _ | exact (hb.alloc hb.size _).alloc (Nat.le_trans hb.size (by simp)) _ | exact hb.setCell (by simp [hb.size]) _) hbn; clear hbn))
  have old := hI
  refine (c_PartsBySize n _).mono ?_
  rintro e w2 ⟨v2, rfl, hM, hbn⟩
  have ap_hM := (apart_old old hM).symm
  replace hI := hI.keep hbn
  replace hM := hM.based (World.block_lt_of_cell? _ _ a1)
  replace a0 := cell_keep a0 hbn
  replace a1 := cell_keep a1 hbn
  replace hb := bel_to hb hbn
  clear old hbn
  generalize partsF n = M at *
  obtain ⟨o1, c1, rfl⟩ := hM.shape
  go_wp2
  go_loopw [7, 30] (fun v i wr => ∃ k : Nat, i = .int .i64 k ∧ k ≤ M.length ∧ OwnI wr (w.heap.size + 1) v ((M.take k).filter (bordP R m r)) ∧ OwnI wr (w.heap.size + 1) (.slice o1 M.length c1) M ∧ Apart (.slice o1 M.length c1) v ∧ wr.cell? ⟨w.heap.size, 0, none⟩ = some (.int .i64 n) ∧ wr.cell? ⟨w.heap.size, 1, none⟩ = some (.slice oa R.length cap) ∧ Below w.heap.size w wr) (fun _ i _ => M.length - (intOf i).toNat)
  case atStart => exact ⟨0, rfl, Nat.zero_le _, by simpa using hI, hM, ap_hM, a0, a1, hb⟩
  case round =>
    clear hI hM ap_hM a0 a1 hb
    obtain ⟨k, rfl, hk, hI, hM, ap_hM, a0, a1, hb⟩ := hrel
    by_cases hlt : k < M.length
    · obtain ⟨b2, off2, rfl, hbs2, hca⟩ := (hM.ints rfl (by unfold Room; omega)).at_ (by omega)
      have hc2 := hca k hlt
      have HT : Hid ((M.take (k + 1)).filter (bordP R m r) = (M.take k).filter (bordP R m r) ++ (if bordP R m r (nth M k) then [nth M k] else [])) := filter_take_succ _ _ _ hlt
      have hfl : ((M.take k).filter (bordP R m r)).length ≤ 32 := by
        have := List.length_filter_le (bordP R m r) (M.take k)
        rw [List.length_take] at this
        omega
      have HA : Hid (askF n R m (nth M k) r = true) := HK.out _ (List.mem_iff_getElem?.2 ⟨k, nth_eq hlt⟩)
      clear hca
      generalize nth M k = x at *
      generalize (M.take k).filter (bordP R m r) = F at *
      cases h1 : hasc x r
      · cases h2 : holdsF R m x r
        · have hh : (askF n R m x r && holdsF R m x r) = false := by rw [HA.out, h2]; rfl
          have HP : Hid (bordP R m r x = true) := by show bordP R m r x = true; unfold bordP; rw [h1, h2]; rfl
          go_wp2_with (first | (go_at_call 48; refine Calls.mono (Ans.eqb (c_has _ _ hr64 _) h1) ?_; rintro e w1 ⟨rfl, hbn⟩; replace a0 := cell_keep a0 hbn; replace a1 := cell_keep a1 hbn; replace hI := hI.keep hbn; replace hM := hM.keep hbn; replace hb := bel_to (w := w) (by first | exact hb | exact hb.alloc hb.size _ | exact (hb.alloc hb.size _).alloc (Nat.le_trans hb.size (by simp)) _ | exact hb.setCell (by simp [hb.size]) _) hbn; clear hbn) | (go_at_call 70; refine Calls.mono (Ans.eqb (c_HoldsDep _ _ _ _ _ _ _ _ (hR.keep hb)) hh) ?_; rintro e w1 ⟨rfl, hbn⟩; replace a0 := cell_keep a0 hbn; replace a1 := cell_keep a1 hbn; replace hI := hI.keep hbn; replace hM := hM.keep hbn; replace hb := bel_to (w := w) (by first | exact hb | exact hb.alloc hb.size _ | exact (hb.alloc hb.size _).alloc (Nat.le_trans hb.size (by simp)) _ | exact hb.setCell (by simp [hb.size]) _) hbn; clear hbn) | (at_builtin; refine wpList_append_fresh rfl _ _ 22 rfl (w.heap.size + 1) 3 i0 (.int .i64 0) 1 8 Try.underlying22 hi hz0 hz1 hz2 rfl (by decide) _ _ _ rfl (World.ownsRow.alloc hI _) _ 1 1 [.int .i64 (x)] rfl rfl (by intro j u hj; match j, hj with | 0, hj => simp at hj; subst hj; simp [Addr.add]) (by intro u hu; simp at hu; subst hu; rfl) (by unfold maxLen; omega) (by omega) (by have := World.block_lt_of_cell? _ _ a1; simp at this; simp; omega) ?_; intro v' w1 hown hgrow hfr; replace hb := (hb.alloc hb.size _).grown hgrow (by have := hb.size; simp; omega) (fun g hg => Nat.le_trans (Nat.le_succ _) (World.ownsRow.lt hI g hg).1); replace a0 := cell_gr (cell_al a0 _) (World.ownsRow.alloc hI _) (by omega) hgrow; replace a1 := cell_gr (cell_al a1 _) (World.ownsRow.alloc hI _) (by omega) hgrow; obtain ⟨hM, ap_hM⟩ := OwnI.past hM hgrow ap_hM hfr; replace hI := OwnI.snoc hown; clear hown hgrow hfr) | fail)
          go_roundw
          case rel => exact ⟨k + 1, by go_num, by omega, by rw [HT.out, HP.out]; exact hI, hM, ap_hM, a0, a1, hb⟩
          case measure => simp [intOf]; omega
        · have hh : (askF n R m x r && holdsF R m x r) = true := by rw [HA.out, h2]; rfl
          have HP : Hid (bordP R m r x = false) := by show bordP R m r x = false; unfold bordP; rw [h1, h2]; rfl
          go_wp2_with (first | (go_at_call 48; refine Calls.mono (Ans.eqb (c_has _ _ hr64 _) h1) ?_; rintro e w1 ⟨rfl, hbn⟩; replace a0 := cell_keep a0 hbn; replace a1 := cell_keep a1 hbn; replace hI := hI.keep hbn; replace hM := hM.keep hbn; replace hb := bel_to (w := w) (by first | exact hb | exact hb.alloc hb.size _ | exact (hb.alloc hb.size _).alloc (Nat.le_trans hb.size (by simp)) _ | exact hb.setCell (by simp [hb.size]) _) hbn; clear hbn) | (go_at_call 70; refine Calls.mono (Ans.eqb (c_HoldsDep _ _ _ _ _ _ _ _ (hR.keep hb)) hh) ?_; rintro e w1 ⟨rfl, hbn⟩; replace a0 := cell_keep a0 hbn; replace a1 := cell_keep a1 hbn; replace hI := hI.keep hbn; replace hM := hM.keep hbn; replace hb := bel_to (w := w) (by first | exact hb | exact hb.alloc hb.size _ | exact (hb.alloc hb.size _).alloc (Nat.le_trans hb.size (by simp)) _ | exact hb.setCell (by simp [hb.size]) _) hbn; clear hbn) | fail)
          go_roundw
          case rel => exact ⟨k + 1, by go_num, by omega, by rw [HT.out, HP.out]; simpa using hI, hM, ap_hM, a0, a1, hb⟩
          case measure => simp [intOf]; omega
      · have HP : Hid (bordP R m r x = false) := by show bordP R m r x = false; unfold bordP; rw [h1]; rfl
        go_wp2_with (first | (go_at_call 48; refine Calls.mono (Ans.eqb (c_has _ _ hr64 _) h1) ?_; rintro e w1 ⟨rfl, hbn⟩; replace a0 := cell_keep a0 hbn; replace a1 := cell_keep a1 hbn; replace hI := hI.keep hbn; replace hM := hM.keep hbn; replace hb := bel_to (w := w) (by first | exact hb | exact hb.alloc hb.size _ | exact (hb.alloc hb.size _).alloc (Nat.le_trans hb.size (by simp)) _ | exact hb.setCell (by simp [hb.size]) _) hbn; clear hbn) | fail)
        go_roundw
        case rel => exact ⟨k + 1, by go_num, by omega, by rw [HT.out, HP.out]; simpa using hI, hM, ap_hM, a0, a1, hb⟩
        case measure => simp [intOf]; omega
    · have hkk : k = M.length := by omega
      have HE : Hid ((M.take k).filter (bordP R m r) = M.filter (bordP R m r)) := by show (M.take k).filter (bordP R m r) = M.filter (bordP R m r); rw [hkk, List.take_length]
      have hfr : ((M.take k).filter (bordP R m r)).length ≤ Room := by
        have := List.length_filter_le (bordP R m r) (M.take k)
        rw [List.length_take] at this
        unfold Room; omega
      clear hkk
      obtain ⟨oF, cF, rfl, hcF, hnF⟩ := hI.cap
      go_wp2_with fail
      refine (c_MaximalSets _ _ _ _ (hI.ints rfl hfr) hnF).mono ?_
      rintro e w3 ⟨v3, rfl, hR2, hbn⟩
      replace hR2 := hR2.based hb.size
      replace hb := bel_to hb hbn
      clear hbn
      go_wp2
      go_ret
      exact ⟨_, rfl, by rw [HM.out, ← HE.out]; exact hR2, hb⟩
set_option maxHeartbeats 1600000 in
theorem c_specViolatedBorder (n : Int) (oa) (cap : Nat) (R : List (List Int)) (m r : Int) (w : World) (hR : RowsAt w oa R) :
    Calls Try.prog 32 #[.agg #[.int .i64 n, .slice oa R.length cap], .int .i64 m, .int .i64 r] w fun e w' => ∃ v, e = .returned v ∧ OwnI w' w.heap.size v (bordF n R m r) ∧ Below w.heap.size w w' := by
  obtain ⟨i0, hi, hz0, hz1, hz2⟩ := info_parts info_int
  have hb := bel2 w (.cells #[.int .i64 n, .slice oa R.length cap] 41) (.cells #[] 3)
  have a0 := two_a w #[.int .i64 n, .slice oa R.length cap] 41 #[] 3 0 _ rfl
  have a1 := two_a w #[.int .i64 n, .slice oa R.length cap] 41 #[] 3 1 _ rfl
  have hI : OwnI ((w.alloc (.cells #[.int .i64 n, .slice oa R.length cap] 41)).alloc (.cells #[] 3)) (w.heap.size + 1) (.slice (some ⟨w.heap.size + 1, 0, none⟩) 0 0) [] := by
    have h := (OwnI.empty (w.alloc (.cells #[.int .i64 n, .slice oa R.length cap] 41)) _ (Nat.le_refl _))
    simpa using h
  cases hf : (isTabF n R && modeF m)
  · have HM : Hid (bordF n R m r = []) := by show bordF n R m r = []; unfold bordF bordOk; rw [hf]; rfl
    go_enter Try.func32, Try.ntmps32
    go_wp2_with (first | (go_at_call 57; refine Calls.mono (Ans.eqb (c_l4Fine _ _ _ _ _ _ (hR.keep hb)) hf) ?_; rintro e w1 ⟨rfl, hbn⟩; replace a0 := cell_keep a0 hbn; replace a1 := cell_keep a1 hbn; replace hI := hI.keep hbn; replace hb := bel_to (w := w) (by first | exact hb | exact hb.alloc hb.size _ | exact (hb.alloc hb.size _).alloc (Nat.le_trans hb.size (by simp)) _ | exact hb.setCell (by simp [hb.size]) _) hbn; clear hbn))
    go_ret
    exact ⟨_, rfl, by rw [HM.out]; exact hI.based (Nat.le_succ _), hb⟩
  have ht : isTabF n R = true := by have := hf; simp only [Bool.and_eq_true] at this; exact this.1
  obtain ⟨hn1, hn5, _, _⟩ := isTab_of ht
  cases hc : inB r 0 (n - 1)
  · have HM : Hid (bordF n R m r = []) := by
      have e : (decide (0 ≤ r) && decide (r < n)) = false := by rw [← hc]; unfold inB; congr 1; rw [decide_eq_decide]; omega
      show bordF n R m r = []; unfold bordF bordOk; rw [e]; simp
    clear ht
    go_enter Try.func32, Try.ntmps32
    go_wp2_with (first | (go_at_call 57; refine Calls.mono (Ans.eqb (c_l4Fine _ _ _ _ _ _ (hR.keep hb)) hf) ?_; rintro e w1 ⟨rfl, hbn⟩; replace a0 := cell_keep a0 hbn; replace a1 := cell_keep a1 hbn; replace hI := hI.keep hbn; replace hb := bel_to (w := w) (by first | exact hb | exact hb.alloc hb.size _ | exact (hb.alloc hb.size _).alloc (Nat.le_trans hb.size (by simp)) _ | exact hb.setCell (by simp [hb.size]) _) hbn; clear hbn) | (go_at_call 40; refine Calls.mono (Ans.eqb (c_l1In _ _ _ _) hc) ?_; rintro e w1 ⟨rfl, hbn⟩; replace a0 := cell_keep a0 hbn; replace a1 := cell_keep a1 hbn; replace hI := hI.keep hbn; replace hb := bel_to (w := w) (by first | exact hb | exact hb.alloc hb.size _ | exact (hb.alloc hb.size _).alloc (Nat.le_trans hb.size (by simp)) _ | exact hb.setCell (by simp [hb.size]) _) hbn; clear hbn))
    go_ret
    exact ⟨_, rfl, by rw [HM.out]; exact hI.based (Nat.le_succ _), hb⟩
  have hok : bordOk n R m r = true := by
    have e : (decide (0 ≤ r) && decide (r < n)) = true := by rw [← hc]; unfold inB; congr 1; rw [decide_eq_decide]; omega
    unfold bordOk; rw [hf, e]; rfl
  have hc' : 0 ≤ r ∧ r < n := by unfold inB at hc; simp only [Bool.and_eq_true, decide_eq_true_eq] at hc; omega
  have HM : Hid (bordF n R m r = maxF (flt (bordP R m r) (2 ^ n.toNat))) := by show bordF n R m r = _; unfold bordF; rw [if_pos hok]
  have hn01 : 0 ≤ n ∧ n ≤ 5 := ⟨by omega, hn5⟩
  obtain ⟨hp1, hp2, hp3⟩ := pow_nat (n := n) (by omega) hn5
  have hr1 := hc'.1
  have hr2 : r < 5 := by omega
  have HH : Hid (∀ (w' : World) (x : Int), St x → RowsAt w' oa R → Ans Try.prog 71 #[.agg #[.int .i64 n, .slice oa R.length cap], .int .i64 m, .agg #[.int .i64 x, .int .i64 r]] w' (.bool (holdsF R m x r))) := fun w' x hx h => c_l7Holds n oa cap R m x r w' h ht hx ⟨hr1, hr2⟩
  have HCo : Hid (Co r) := ⟨hr1, hr2⟩
  generalize hN : (2 : Nat) ^ n.toNat = N at *
  have hAll : allM n = (N : Int) - 1 := by unfold allM; rw [← hp1]
  clear hp1 hN ht hok hc'
  go_enter Try.func32, Try.ntmps32
  go_wp2_with (first | (go_at_call 57; refine Calls.mono (Ans.eqb (c_l4Fine _ _ _ _ _ _ (hR.keep hb)) hf) ?_; rintro e w1 ⟨rfl, hbn⟩; replace a0 := cell_keep a0 hbn; replace a1 := cell_keep a1 hbn; replace hI := hI.keep hbn; replace hb := bel_to (w := w) (by first | exact hb | exact hb.alloc hb.size _ | exact (hb.alloc hb.size _).alloc (Nat.le_trans hb.size (by simp)) _ | exact hb.setCell (by simp [hb.size]) _) hbn; clear hbn) | (go_at_call 40; refine Calls.mono (Ans.eqb (c_l1In _ _ _ _) hc) ?_; rintro e w1 ⟨rfl, hbn⟩; replace a0 := cell_keep a0 hbn; replace a1 := cell_keep a1 hbn; replace hI := hI.keep hbn; replace hb := bel_to (w := w) (by first | exact hb | exact hb.alloc hb.size _ | exact (hb.alloc hb.size _).alloc (Nat.le_trans hb.size (by simp)) _ | exact hb.setCell (by simp [hb.size]) _) hbn; clear hbn))
  go_loopw [7, 8] (fun v i wr => ∃ k : Nat, i = .int .i64 k ∧ k ≤ N ∧ OwnI wr (w.heap.size + 1) v (flt (bordP R m r) k) ∧ wr.cell? ⟨w.heap.size, 0, none⟩ = some (.int .i64 n) ∧ wr.cell? ⟨w.heap.size, 1, none⟩ = some (.slice oa R.length cap) ∧ Below w.heap.size w wr) (fun _ i _ => N - (intOf i).toNat)
  case atStart => exact ⟨0, rfl, Nat.zero_le _, hI, a0, a1, hb⟩
  case round =>
    clear hI a0 a1 hb
    obtain ⟨k, rfl, hk, hI, a0, a1, hb⟩ := hrel
    have HS : Hid (flt (bordP R m r) (k + 1) = flt (bordP R m r) k ++ (if bordP R m r k then [(k : Int)] else [])) := flt_succ _ k
    have hle := flt_le (bordP R m r) k
    by_cases hlt : k < N
    · have hst : Hid (St (k : Int)) := ⟨by omega, by omega⟩
      have hd : decide ((k : Int) ≤ (N : Int) - 1) = true := by simp; omega
      cases h1 : hasc (k : Int) r
      · have h1' : (bits BinOp.and IntKind.i64 ((k : Int) / 2 ^ r.toNat) 1 == 0) = true := (hasn_eq hst.out HCo.out).trans (by rw [h1]; rfl)
        cases h2 : holdsF R m (k : Int) r
        · have HP : Hid (bordP R m r (k : Int) = true) := by show bordP R m r (k : Int) = true; unfold bordP; rw [h1, h2]; rfl
          go_wp2_with (first | (go_at_call 59; refine Calls.mono (c_l2All _ hn01 _) ?_; rintro e w1 ⟨rfl, hbn⟩; replace a0 := cell_keep a0 hbn; replace a1 := cell_keep a1 hbn; replace hI := hI.keep hbn; replace hb := bel_to (w := w) (by first | exact hb | exact hb.alloc hb.size _ | exact (hb.alloc hb.size _).alloc (Nat.le_trans hb.size (by simp)) _ | exact hb.setCell (by simp [hb.size]) _) hbn; clear hbn) | (go_at_call 71; refine Calls.mono (Ans.eqb (HH.out _ _ hst.out (hR.keep hb)) h2) ?_; rintro e w1 ⟨rfl, hbn⟩; replace a0 := cell_keep a0 hbn; replace a1 := cell_keep a1 hbn; replace hI := hI.keep hbn; replace hb := bel_to (w := w) (by first | exact hb | exact hb.alloc hb.size _ | exact (hb.alloc hb.size _).alloc (Nat.le_trans hb.size (by simp)) _ | exact hb.setCell (by simp [hb.size]) _) hbn; clear hbn) | (at_builtin; refine wpList_append_fresh rfl _ _ 22 rfl (w.heap.size + 1) 3 i0 (.int .i64 0) 1 8 Try.underlying22 hi hz0 hz1 hz2 rfl (by decide) _ _ _ rfl (World.ownsRow.alloc hI _) _ 1 1 [.int .i64 ((k : Int))] rfl rfl (by intro j u hj; match j, hj with | 0, hj => simp at hj; subst hj; simp [Addr.add]) (by intro u hu; simp at hu; subst hu; rfl) (by unfold maxLen; omega) (by omega) (by have := World.block_lt_of_cell? _ _ a1; simp at this; simp; omega) ?_; intro v' w1 hown hgrow hfr; replace hb := (hb.alloc hb.size _).grown hgrow (by have := hb.size; simp; omega) (fun g hg => Nat.le_trans (Nat.le_succ _) (World.ownsRow.lt hI g hg).1); replace a0 := cell_gr (cell_al a0 _) (World.ownsRow.alloc hI _) (by omega) hgrow; replace a1 := cell_gr (cell_al a1 _) (World.ownsRow.alloc hI _) (by omega) hgrow; replace hI := OwnI.snoc hown; clear hown hgrow hfr) | fail)
          go_roundw
          case rel => exact ⟨k + 1, by go_num, by omega, by rw [HS.out, HP.out]; exact hI, a0, a1, hb⟩
          case measure => simp [intOf]; omega
        · have HP : Hid (bordP R m r (k : Int) = false) := by show bordP R m r (k : Int) = false; unfold bordP; rw [h1, h2]; rfl
          go_wp2_with (first | (go_at_call 59; refine Calls.mono (c_l2All _ hn01 _) ?_; rintro e w1 ⟨rfl, hbn⟩; replace a0 := cell_keep a0 hbn; replace a1 := cell_keep a1 hbn; replace hI := hI.keep hbn; replace hb := bel_to (w := w) (by first | exact hb | exact hb.alloc hb.size _ | exact (hb.alloc hb.size _).alloc (Nat.le_trans hb.size (by simp)) _ | exact hb.setCell (by simp [hb.size]) _) hbn; clear hbn) | (go_at_call 71; refine Calls.mono (Ans.eqb (HH.out _ _ hst.out (hR.keep hb)) h2) ?_; rintro e w1 ⟨rfl, hbn⟩; replace a0 := cell_keep a0 hbn; replace a1 := cell_keep a1 hbn; replace hI := hI.keep hbn; replace hb := bel_to (w := w) (by first | exact hb | exact hb.alloc hb.size _ | exact (hb.alloc hb.size _).alloc (Nat.le_trans hb.size (by simp)) _ | exact hb.setCell (by simp [hb.size]) _) hbn; clear hbn) | fail)
          go_roundw
          case rel => exact ⟨k + 1, by go_num, by omega, by rw [HS.out, HP.out]; simpa using hI, a0, a1, hb⟩
          case measure => simp [intOf]; omega
      · have h1' : (bits BinOp.and IntKind.i64 ((k : Int) / 2 ^ r.toNat) 1 == 0) = false := (hasn_eq hst.out HCo.out).trans (by rw [h1]; rfl)
        have HP : Hid (bordP R m r (k : Int) = false) := by show bordP R m r (k : Int) = false; unfold bordP; rw [h1]; rfl
        go_wp2_with (first | (go_at_call 59; refine Calls.mono (c_l2All _ hn01 _) ?_; rintro e w1 ⟨rfl, hbn⟩; replace a0 := cell_keep a0 hbn; replace a1 := cell_keep a1 hbn; replace hI := hI.keep hbn; replace hb := bel_to (w := w) (by first | exact hb | exact hb.alloc hb.size _ | exact (hb.alloc hb.size _).alloc (Nat.le_trans hb.size (by simp)) _ | exact hb.setCell (by simp [hb.size]) _) hbn; clear hbn) | fail)
        go_roundw
        case rel => exact ⟨k + 1, by go_num, by omega, by rw [HS.out, HP.out]; simpa using hI, a0, a1, hb⟩
        case measure => simp [intOf]; omega
    · have hkk : k = N := by omega
      have HK : Hid (k = N) := hkk
      have hd : decide ((k : Int) ≤ (N : Int) - 1) = false := by simp; omega
      clear hkk
      have hfr : (flt (bordP R m r) k).length ≤ Room := by unfold Room; omega
      obtain ⟨oF, cF, rfl⟩ := hI.shape
      go_wp2_with (first | (go_at_call 59; refine Calls.mono (c_l2All _ hn01 _) ?_; rintro e w1 ⟨rfl, hbn⟩; replace a0 := cell_keep a0 hbn; replace a1 := cell_keep a1 hbn; replace hI := hI.keep hbn; replace hb := bel_to (w := w) (by first | exact hb | exact hb.alloc hb.size _ | exact (hb.alloc hb.size _).alloc (Nat.le_trans hb.size (by simp)) _ | exact hb.setCell (by simp [hb.size]) _) hbn; clear hbn) | fail)
      refine (c_specMaximalSets _ _ _ _ (hI.ints rfl hfr)).mono ?_
      rintro e w3 ⟨v3, rfl, hR2, hbn⟩
      replace hR2 := hR2.based hb.size
      replace hb := bel_to hb hbn
      clear hbn
      go_wp2
      go_ret
      exact ⟨_, rfl, by rw [HM.out, ← HK.out]; exact hR2, hb⟩
end Go.Proofs.Ytaomdnibnnobiaa
