/- Tables, lists of dependencies and searches, compared: the program and the reference. -/
import Derived.Test.YtkanbnbofoabeaaIntsEq
import Derived.Test.YtkanbnbofoabeaaHold
import Derived.Test.YtkanbnbofoabeaaConv
namespace Go.Proofs.Ytkanbnbofoabeaa
open Go.RowKit
set_option linter.unusedVariables false
set_option maxRecDepth 100000

theorem rows_ext' {A B : List (List Int)} (hl : A.length = B.length) (h : ∀ k, k < A.length → row A k = row B k) : A = B := by
  apply List.ext_getElem hl
  intro j h1 h2
  have := h j h1
  simp [row, List.getD, h1, h2] at this
  exact this

set_option maxHeartbeats 800000 in
theorem c_SameDeps (oa ob) (ca cb : Nat) (L M : List (Int × Int)) (w : World) (hL : DepsAt w oa L) (hM : DepsAt w ob M) :
    Ans Try.prog 86 #[.slice oa L.length ca, .slice ob M.length cb] w (.bool (decide (L = M))) := by
  unfold Ans
  have hn : L.length ≤ 1073741824 := hL.len
  by_cases hlen : L.length = M.length
  · have hb0 : ((L.length : Int) != (M.length : Int)) = false := by simp [hlen]
    have HL : Hid (L.length = M.length) := hlen
    have hlm : L.length ≤ M.length := by omega
    clear hlen
    go_enter Try.func86, Try.ntmps86
    go_wp2
    go_loopw [13] (fun i wr => ∃ k : Nat, i = .int .i64 k ∧ k ≤ L.length ∧ (∀ j, j < k → nl L j = nl M j ∧ nr L j = nr M j) ∧ Below w.heap.size w wr) (fun i _ => L.length - (intOf i).toNat)
    case atStart => exact ⟨0, rfl, Nat.zero_le _, fun j hj => absurd hj (by omega), Below.refl _ _⟩
    case round =>
      obtain ⟨k, rfl, hk, hall, hb⟩ := hrel
      have HA : Hid (∀ j, j < k → nl L j = nl M j ∧ nr L j = nr M j) := hall
      clear hall
      by_cases hlt : k < L.length
      · obtain ⟨b, off, rfl, hbs, hc⟩ := hL.at_ (by omega)
        obtain ⟨b', off', rfl, hbs', hc'⟩ := hM.at_ (by omega)
        have hc1 := cell_keep (hc k hlt).1 hb
        have hc2 := cell_keep (hc k hlt).2 hb
        have hc3 := cell_keep (hc' k (by omega)).1 hb
        have hc4 := cell_keep (hc' k (by omega)).2 hb
        have HN : Hid (L = M → nl L k = nl M k ∧ nr L k = nr M k) := fun e => by subst e; exact ⟨rfl, rfl⟩
        clear hc hc'
        generalize gh1 : nl L k = a at *
        generalize gh2 : nr L k = b at *
        generalize gh3 : nl M k = c at *
        generalize gh4 : nr M k = d at *
        have HG : Hid (nl L k = a ∧ nr L k = b ∧ nl M k = c ∧ nr M k = d) := ⟨gh1, gh2, gh3, gh4⟩
        clear gh1 gh2 gh3 gh4
        cases e1 : (a == c)
        · go_wp2_with fail
          (refine wp_region_after (by kernel_rfl) (by kernel_rfl) ?_; have q_hc1 := fun (x : After _) => cell_keep hc1 x.bel; have q_hc2 := fun (x : After _) => cell_keep hc2 x.bel; have q_hc3 := fun (x : After _) => cell_keep hc3 x.bel; have q_hc4 := fun (x : After _) => cell_keep hc4 x.bel; (repeat (go_big_quiet_step (fail))); clear q_hc1; clear q_hc2; clear q_hc3; clear q_hc4; refine wpQuiet_nil ?_; rintro _ ⟨⟨w1, hbn⟩, rfl⟩; (try simp only [After.w]); replace hc1 := cell_keep hc1 hbn; replace hc2 := cell_keep hc2 hbn; replace hc3 := cell_keep hc3 hbn; replace hc4 := cell_keep hc4 hbn; replace hb := bel_to (w := w) (by first | exact hb | exact hb.alloc hb.size _ | exact (hb.alloc hb.size _).alloc (Nat.le_trans hb.size (by simp)) _ | exact hb.setCell (by simp [hb.size]) _) hbn; clear hbn)
          go_wp2
          go_ret
          exact ⟨ret_bool (by symm; rw [decide_eq_false_iff_not]; intro e; have := (HN.out e).1; simp at e1; exact e1 this), hb⟩
        · cases e2 : (b == d)
          · go_wp2_with fail
            (refine wp_region_after (by kernel_rfl) (by kernel_rfl) ?_; have q_hc1 := fun (x : After _) => cell_keep hc1 x.bel; have q_hc2 := fun (x : After _) => cell_keep hc2 x.bel; have q_hc3 := fun (x : After _) => cell_keep hc3 x.bel; have q_hc4 := fun (x : After _) => cell_keep hc4 x.bel; (repeat (go_big_quiet_step (fail))); clear q_hc1; clear q_hc2; clear q_hc3; clear q_hc4; refine wpQuiet_nil ?_; rintro _ ⟨⟨w1, hbn⟩, rfl⟩; (try simp only [After.w]); replace hc1 := cell_keep hc1 hbn; replace hc2 := cell_keep hc2 hbn; replace hc3 := cell_keep hc3 hbn; replace hc4 := cell_keep hc4 hbn; replace hb := bel_to (w := w) (by first | exact hb | exact hb.alloc hb.size _ | exact (hb.alloc hb.size _).alloc (Nat.le_trans hb.size (by simp)) _ | exact hb.setCell (by simp [hb.size]) _) hbn; clear hbn)
            go_wp2
            go_ret
            exact ⟨ret_bool (by symm; rw [decide_eq_false_iff_not]; intro e; have := (HN.out e).2; simp at e2; exact e2 this), hb⟩
          · have HE : Hid (a = c ∧ b = d) := by show a = c ∧ b = d; simp at e1 e2; exact ⟨e1, e2⟩
            go_wp2_with fail
            (refine wp_region_after (by kernel_rfl) (by kernel_rfl) ?_; have q_hc1 := fun (x : After _) => cell_keep hc1 x.bel; have q_hc2 := fun (x : After _) => cell_keep hc2 x.bel; have q_hc3 := fun (x : After _) => cell_keep hc3 x.bel; have q_hc4 := fun (x : After _) => cell_keep hc4 x.bel; (repeat (go_big_quiet_step (fail))); clear q_hc1; clear q_hc2; clear q_hc3; clear q_hc4; refine wpQuiet_nil ?_; rintro _ ⟨⟨w1, hbn⟩, rfl⟩; (try simp only [After.w]); replace hc1 := cell_keep hc1 hbn; replace hc2 := cell_keep hc2 hbn; replace hc3 := cell_keep hc3 hbn; replace hc4 := cell_keep hc4 hbn; replace hb := bel_to (w := w) (by first | exact hb | exact hb.alloc hb.size _ | exact (hb.alloc hb.size _).alloc (Nat.le_trans hb.size (by simp)) _ | exact hb.setCell (by simp [hb.size]) _) hbn; clear hbn)
            go_wp2
            go_roundw
            case rel => exact ⟨k + 1, by go_num, by omega, lt_step (p := fun j => nl L j = nl M j ∧ nr L j = nr M j) HA.out (by obtain ⟨g1, g2, g3, g4⟩ := HG.out; rw [g1, g2, g3, g4]; exact HE.out), hb⟩
            case measure => simp [intOf]; omega
      · have hkk : k = L.length := by omega
        have HE : Hid (L = M) := dlist_ext HL.out fun j hj => HA.out j (by omega)
        clear hkk
        go_wp2
        go_ret
        exact ⟨ret_bool (by symm; rw [decide_eq_true_iff]; exact HE.out), hb⟩
  · have hb0 : ((L.length : Int) != (M.length : Int)) = true := by simp; omega
    go_enter Try.func86, Try.ntmps86
    go_wp2
    go_ret
    exact ⟨ret_bool (by symm; rw [decide_eq_false_iff_not]; intro e; exact hlen (by rw [e])), Below.refl _ _⟩

set_option maxHeartbeats 800000 in
theorem c_specSameDeps (oa ob) (ca cb : Nat) (L M : List (Int × Int)) (w : World) (hL : DepsAt w oa L) (hM : DepsAt w ob M) :
    Ans Try.prog 84 #[.slice oa L.length ca, .slice ob M.length cb] w (.bool (decide (L = M))) := by
  unfold Ans
  have hn : L.length ≤ 1073741824 := hL.len
  by_cases hlen : L.length = M.length
  · have hb0 : ((L.length : Int) != (M.length : Int)) = false := by simp [hlen]
    have HL : Hid (L.length = M.length) := hlen
    have hlm : L.length ≤ M.length := by omega
    clear hlen
    go_enter Try.func84, Try.ntmps84
    go_wp2
    go_loopw [5] (fun i wr => ∃ k : Nat, i = .int .i64 k ∧ k ≤ L.length ∧ (∀ j, j < k → nl L j = nl M j ∧ nr L j = nr M j) ∧ Below w.heap.size w wr) (fun i _ => L.length - (intOf i).toNat)
    case atStart => exact ⟨0, rfl, Nat.zero_le _, fun j hj => absurd hj (by omega), Below.refl _ _⟩
    case round =>
      obtain ⟨k, rfl, hk, hall, hb⟩ := hrel
      have HA : Hid (∀ j, j < k → nl L j = nl M j ∧ nr L j = nr M j) := hall
      clear hall
      by_cases hlt : k < L.length
      · obtain ⟨b, off, rfl, hbs, hc⟩ := hL.at_ (by omega)
        obtain ⟨b', off', rfl, hbs', hc'⟩ := hM.at_ (by omega)
        have hc1 := cell_keep (hc k hlt).1 hb
        have hc2 := cell_keep (hc k hlt).2 hb
        have hc3 := cell_keep (hc' k (by omega)).1 hb
        have hc4 := cell_keep (hc' k (by omega)).2 hb
        have HN : Hid (L = M → nl L k = nl M k ∧ nr L k = nr M k) := fun e => by subst e; exact ⟨rfl, rfl⟩
        clear hc hc'
        generalize gh1 : nl L k = a at *
        generalize gh2 : nr L k = b at *
        generalize gh3 : nl M k = c at *
        generalize gh4 : nr M k = d at *
        have HG : Hid (nl L k = a ∧ nr L k = b ∧ nl M k = c ∧ nr M k = d) := ⟨gh1, gh2, gh3, gh4⟩
        clear gh1 gh2 gh3 gh4
        cases e1 : (a == c)
        · go_wp2_with fail
          (refine wp_region_after (by kernel_rfl) (by kernel_rfl) ?_; have q_hc1 := fun (x : After _) => cell_keep hc1 x.bel; have q_hc2 := fun (x : After _) => cell_keep hc2 x.bel; have q_hc3 := fun (x : After _) => cell_keep hc3 x.bel; have q_hc4 := fun (x : After _) => cell_keep hc4 x.bel; (repeat (go_big_quiet_step (fail))); clear q_hc1; clear q_hc2; clear q_hc3; clear q_hc4; refine wpQuiet_nil ?_; rintro _ ⟨⟨w1, hbn⟩, rfl⟩; (try simp only [After.w]); replace hc1 := cell_keep hc1 hbn; replace hc2 := cell_keep hc2 hbn; replace hc3 := cell_keep hc3 hbn; replace hc4 := cell_keep hc4 hbn; replace hb := bel_to (w := w) (by first | exact hb | exact hb.alloc hb.size _ | exact (hb.alloc hb.size _).alloc (Nat.le_trans hb.size (by simp)) _ | exact hb.setCell (by simp [hb.size]) _) hbn; clear hbn)
          go_wp2
          go_ret
          exact ⟨ret_bool (by symm; rw [decide_eq_false_iff_not]; intro e; have := (HN.out e).1; simp at e1; exact e1 this), hb⟩
        · cases e2 : (b == d)
          · go_wp2_with fail
            (refine wp_region_after (by kernel_rfl) (by kernel_rfl) ?_; have q_hc1 := fun (x : After _) => cell_keep hc1 x.bel; have q_hc2 := fun (x : After _) => cell_keep hc2 x.bel; have q_hc3 := fun (x : After _) => cell_keep hc3 x.bel; have q_hc4 := fun (x : After _) => cell_keep hc4 x.bel; (repeat (go_big_quiet_step (fail))); clear q_hc1; clear q_hc2; clear q_hc3; clear q_hc4; refine wpQuiet_nil ?_; rintro _ ⟨⟨w1, hbn⟩, rfl⟩; (try simp only [After.w]); replace hc1 := cell_keep hc1 hbn; replace hc2 := cell_keep hc2 hbn; replace hc3 := cell_keep hc3 hbn; replace hc4 := cell_keep hc4 hbn; replace hb := bel_to (w := w) (by first | exact hb | exact hb.alloc hb.size _ | exact (hb.alloc hb.size _).alloc (Nat.le_trans hb.size (by simp)) _ | exact hb.setCell (by simp [hb.size]) _) hbn; clear hbn)
            go_wp2
            go_ret
            exact ⟨ret_bool (by symm; rw [decide_eq_false_iff_not]; intro e; have := (HN.out e).2; simp at e2; exact e2 this), hb⟩
          · have HE : Hid (a = c ∧ b = d) := by show a = c ∧ b = d; simp at e1 e2; exact ⟨e1, e2⟩
            go_wp2_with fail
            (refine wp_region_after (by kernel_rfl) (by kernel_rfl) ?_; have q_hc1 := fun (x : After _) => cell_keep hc1 x.bel; have q_hc2 := fun (x : After _) => cell_keep hc2 x.bel; have q_hc3 := fun (x : After _) => cell_keep hc3 x.bel; have q_hc4 := fun (x : After _) => cell_keep hc4 x.bel; (repeat (go_big_quiet_step (fail))); clear q_hc1; clear q_hc2; clear q_hc3; clear q_hc4; refine wpQuiet_nil ?_; rintro _ ⟨⟨w1, hbn⟩, rfl⟩; (try simp only [After.w]); replace hc1 := cell_keep hc1 hbn; replace hc2 := cell_keep hc2 hbn; replace hc3 := cell_keep hc3 hbn; replace hc4 := cell_keep hc4 hbn; replace hb := bel_to (w := w) (by first | exact hb | exact hb.alloc hb.size _ | exact (hb.alloc hb.size _).alloc (Nat.le_trans hb.size (by simp)) _ | exact hb.setCell (by simp [hb.size]) _) hbn; clear hbn)
            go_wp2
            go_roundw
            case rel => exact ⟨k + 1, by go_num, by omega, lt_step (p := fun j => nl L j = nl M j ∧ nr L j = nr M j) HA.out (by obtain ⟨g1, g2, g3, g4⟩ := HG.out; rw [g1, g2, g3, g4]; exact HE.out), hb⟩
            case measure => simp [intOf]; omega
      · have hkk : k = L.length := by omega
        have HE : Hid (L = M) := dlist_ext HL.out fun j hj => HA.out j (by omega)
        clear hkk
        go_wp2
        go_ret
        exact ⟨ret_bool (by symm; rw [decide_eq_true_iff]; exact HE.out), hb⟩
  · have hb0 : ((L.length : Int) != (M.length : Int)) = true := by simp; omega
    go_enter Try.func84, Try.ntmps84
    go_wp2
    go_ret
    exact ⟨ret_bool (by symm; rw [decide_eq_false_iff_not]; intro e; exact hlen (by rw [e])), Below.refl _ _⟩

set_option maxHeartbeats 800000 in
theorem c_EqualFunc (oa ob) (ca cb : Nat) (A B : List (List Int)) (w : World) (hA : RowsAt w oa A) (hB : RowsAt w ob B) :
    Ans Try.prog 129 #[.slice oa A.length ca, .slice ob B.length cb, .func (.func 130) #[] #[]] w (.bool (decide (A = B))) := by
  unfold Ans
  have hn : A.length ≤ 1073741824 := hA.len
  by_cases hlen : A.length = B.length
  · have hb0 : ((A.length : Int) != (B.length : Int)) = false := by simp [hlen]
    have HL : Hid (A.length = B.length) := hlen
    have hlm : A.length ≤ B.length := by omega
    clear hlen
    go_enter Try.func129, Try.ntmps129
    go_wp2
    go_loopw [17] (fun i wr => ∃ k : Nat, i = .int .i64 k ∧ k ≤ A.length ∧ (∀ j, j < k → row A j = row B j) ∧ Below w.heap.size w wr) (fun i _ => A.length - (intOf i).toNat)
    case atStart => exact ⟨0, rfl, Nat.zero_le _, fun j hj => absurd hj (by omega), Below.refl _ _⟩
    case round =>
      obtain ⟨k, rfl, hk, hall, hb⟩ := hrel
      have HA : Hid (∀ j, j < k → row A j = row B j) := hall
      clear hall
      by_cases hlt : k < A.length
      · obtain ⟨b, off, rfl, hbs, hc⟩ := hA.at_ (by omega)
        obtain ⟨b', off', rfl, hbs', hc'⟩ := hB.at_ (by omega)
        obtain ⟨o1, c1, h1, r1⟩ := hc k hlt
        obtain ⟨o2, c2, h2, r2⟩ := hc' k (by omega)
        have hc1 := cell_keep h1 hb
        have hc2 := cell_keep h2 hb
        have HN : Hid (A = B → row A k = row B k) := fun e => by rw [e]
        clear hc hc' h1 h2
        cases he : decide (row A k = row B k)
        · go_wp2_with (first | (go_at_call 130; refine Calls.mono (Ans.eqb (c_sameInts _ _ _ _ _ _ _ (r1.keep hb) (r2.keep hb)) he) ?_; rintro e w1 ⟨rfl, hbn⟩; replace hb := bel_to (w := w) (by first | exact hb | exact hb.alloc hb.size _ | exact (hb.alloc hb.size _).alloc (Nat.le_trans hb.size (by simp)) _ | exact hb.setCell (by simp [hb.size]) _) hbn; clear hbn) | fail)
          go_ret
          exact ⟨ret_bool (by symm; rw [decide_eq_false_iff_not]; intro e; exact (of_decide_eq_false he) (HN.out e)), hb⟩
        · have HE : Hid (row A k = row B k) := (show row A k = row B k from of_decide_eq_true he)
          go_wp2_with (first | (go_at_call 130; refine Calls.mono (Ans.eqb (c_sameInts _ _ _ _ _ _ _ (r1.keep hb) (r2.keep hb)) he) ?_; rintro e w1 ⟨rfl, hbn⟩; replace hb := bel_to (w := w) (by first | exact hb | exact hb.alloc hb.size _ | exact (hb.alloc hb.size _).alloc (Nat.le_trans hb.size (by simp)) _ | exact hb.setCell (by simp [hb.size]) _) hbn; clear hbn) | fail)
          go_roundw
          case rel => exact ⟨k + 1, by go_num, by omega, lt_step (p := fun j => row A j = row B j) HA.out HE.out, hb⟩
          case measure => simp [intOf]; omega
      · have HE : Hid (A = B) := rows_ext' HL.out fun j hj => HA.out j (by omega)
        go_wp2
        go_ret
        exact ⟨ret_bool (by symm; rw [decide_eq_true_iff]; exact HE.out), hb⟩
  · have hb0 : ((A.length : Int) != (B.length : Int)) = true := by simp; omega
    go_enter Try.func129, Try.ntmps129
    go_wp2
    go_ret
    exact ⟨ret_bool (by symm; rw [decide_eq_false_iff_not]; intro e; exact hlen (by rw [e])), Below.refl _ _⟩
def eqTabF (n k : Int) (A B : List (List Int)) : Bool := (n == k) && decide (A = B)
theorem c_EqualTables (n k : Int) (oa ob) (ca cb : Nat) (A B : List (List Int)) (w : World) (hA : RowsAt w oa A) (hB : RowsAt w ob B) :
    Ans Try.prog 85 #[.agg #[.int .i64 n, .slice oa A.length ca], .agg #[.int .i64 k, .slice ob B.length cb]] w (.bool (eqTabF n k A B)) := by
  unfold Ans eqTabF
  have hb := bel2 w (.cells #[.int .i64 n, .slice oa A.length ca] 28) (.cells #[.int .i64 k, .slice ob B.length cb] 28)
  have a1 := two_a w #[.int .i64 n, .slice oa A.length ca] 28 #[.int .i64 k, .slice ob B.length cb] 28 1 _ rfl
  have b1 := two_b w #[.int .i64 n, .slice oa A.length ca] 28 #[.int .i64 k, .slice ob B.length cb] 28 1 _ rfl
  cases h : (n == k)
  · go_enter Try.func85, Try.ntmps85
    go_wp2
    go_ret
    exact ⟨rfl, hb⟩
  · go_enter Try.func85, Try.ntmps85
    go_wp2_with (first | (go_at_call 129; refine Calls.mono (c_EqualFunc _ _ _ _ _ _ _ (hA.keep hb) (hB.keep hb)) ?_; rintro e w1 ⟨rfl, hbn⟩; replace hb := bel_to hb hbn; clear hbn) | fail)
    go_ret
    exact ⟨rfl, hb⟩
set_option maxHeartbeats 800000 in
theorem c_specEqualTables (n k : Int) (oa ob) (ca cb : Nat) (A B : List (List Int)) (w : World) (hA : RowsAt w oa A) (hB : RowsAt w ob B) :
    Ans Try.prog 83 #[.agg #[.int .i64 n, .slice oa A.length ca], .agg #[.int .i64 k, .slice ob B.length cb]] w (.bool (eqTabF n k A B)) := by
  unfold Ans
  have hn : A.length ≤ 1073741824 := hA.len
  have hb := bel2 w (.cells #[.int .i64 n, .slice oa A.length ca] 28) (.cells #[.int .i64 k, .slice ob B.length cb] 28)
  have a0 := two_a w #[.int .i64 n, .slice oa A.length ca] 28 #[.int .i64 k, .slice ob B.length cb] 28 0 _ rfl
  have a1 := two_a w #[.int .i64 n, .slice oa A.length ca] 28 #[.int .i64 k, .slice ob B.length cb] 28 1 _ rfl
  have b0 := two_b w #[.int .i64 n, .slice oa A.length ca] 28 #[.int .i64 k, .slice ob B.length cb] 28 0 _ rfl
  have b1 := two_b w #[.int .i64 n, .slice oa A.length ca] 28 #[.int .i64 k, .slice ob B.length cb] 28 1 _ rfl
  cases h : (n == k)
  · have h' : (n != k) = true := by simp at h ⊢; exact h
    have HM : Hid (eqTabF n k A B = false) := by show eqTabF n k A B = false; unfold eqTabF; rw [h]; rfl
    go_enter Try.func83, Try.ntmps83
    go_wp2
    go_ret
    exact ⟨ret_bool HM.out.symm, hb⟩
  have h' : (n != k) = false := by simp at h ⊢; exact h
  have HM : Hid (eqTabF n k A B = decide (A = B)) := by show eqTabF n k A B = _; unfold eqTabF; rw [h]; rfl
  by_cases hlen : A.length = B.length
  · have hb0 : ((A.length : Int) != (B.length : Int)) = false := by simp [hlen]
    have HL : Hid (A.length = B.length) := hlen
    have hlm : A.length ≤ B.length := by omega
    clear hlen
    go_enter Try.func83, Try.ntmps83
    go_wp2
    go_loopw [5] (fun i wr => ∃ k' : Nat, i = .int .i64 k' ∧ k' ≤ A.length ∧ (∀ j, j < k' → row A j = row B j) ∧ wr.cell? ⟨w.heap.size, 1, none⟩ = some (.slice oa A.length ca) ∧ wr.cell? ⟨w.heap.size + 1, 1, none⟩ = some (.slice ob B.length cb) ∧ Below w.heap.size w wr) (fun i _ => A.length - (intOf i).toNat)
    case atStart => exact ⟨0, rfl, Nat.zero_le _, fun j hj => absurd hj (by omega), a1, b1, hb⟩
    case round =>
      clear a0 a1 b0 b1 hb
      obtain ⟨k', rfl, hk, hall, a1, b1, hb⟩ := hrel
      have HA : Hid (∀ j, j < k' → row A j = row B j) := hall
      clear hall
      by_cases hlt : k' < A.length
      · obtain ⟨b, off, rfl, hbs, hc⟩ := hA.at_ (by omega)
        obtain ⟨b', off', rfl, hbs', hc'⟩ := hB.at_ (by omega)
        obtain ⟨o1, c1, h1, r1⟩ := hc k' hlt
        obtain ⟨o2, c2, h2, r2⟩ := hc' k' (by omega)
        have hc1 := cell_keep h1 hb
        have hc2 := cell_keep h2 hb
        have hx1 := fun (x : After wr) => (r1.keep hb).keep x.bel
        have hx2 := fun (x : After wr) => (r2.keep hb).keep x.bel
        have HN : Hid (A = B → row A k' = row B k') := fun e => by rw [e]
        clear hc hc' h1 h2
        cases he : decide (row A k' = row B k')
        · go_wp2_with fail
          (refine wp_region_after (by kernel_rfl) (by kernel_rfl) ?_; have q_a1 := fun (x : After _) => cell_keep a1 x.bel; have q_b1 := fun (x : After _) => cell_keep b1 x.bel; have q_hc1 := fun (x : After _) => cell_keep hc1 x.bel; have q_hc2 := fun (x : After _) => cell_keep hc2 x.bel; (repeat (go_big_quiet_step ((first | (go_at_call 128; exact Ans.after (Ans.eqb (c_l2Ints _ _ _ _ _ _ _ (hx1 _) (hx2 _)) he)))))); clear q_a1; clear q_b1; clear q_hc1; clear q_hc2; refine wpQuiet_nil ?_; rintro _ ⟨⟨w1, hbn⟩, rfl⟩; (try simp only [After.w]); replace a1 := cell_keep a1 hbn; replace b1 := cell_keep b1 hbn; replace hc1 := cell_keep hc1 hbn; replace hc2 := cell_keep hc2 hbn; replace hb := bel_to (w := w) (by first | exact hb | exact hb.alloc hb.size _ | exact (hb.alloc hb.size _).alloc (Nat.le_trans hb.size (by simp)) _ | exact hb.setCell (by simp [hb.size]) _) hbn; clear hbn)
          go_wp2
          go_ret
          exact ⟨ret_bool (by rw [HM.out]; symm; rw [decide_eq_false_iff_not]; intro e; exact (of_decide_eq_false he) (HN.out e)), hb⟩
        · have HE : Hid (row A k' = row B k') := (show row A k' = row B k' from of_decide_eq_true he)
          go_wp2_with fail
          (refine wp_region_after (by kernel_rfl) (by kernel_rfl) ?_; have q_a1 := fun (x : After _) => cell_keep a1 x.bel; have q_b1 := fun (x : After _) => cell_keep b1 x.bel; have q_hc1 := fun (x : After _) => cell_keep hc1 x.bel; have q_hc2 := fun (x : After _) => cell_keep hc2 x.bel; (repeat (go_big_quiet_step ((first | (go_at_call 128; exact Ans.after (Ans.eqb (c_l2Ints _ _ _ _ _ _ _ (hx1 _) (hx2 _)) he)))))); clear q_a1; clear q_b1; clear q_hc1; clear q_hc2; refine wpQuiet_nil ?_; rintro _ ⟨⟨w1, hbn⟩, rfl⟩; (try simp only [After.w]); replace a1 := cell_keep a1 hbn; replace b1 := cell_keep b1 hbn; replace hc1 := cell_keep hc1 hbn; replace hc2 := cell_keep hc2 hbn; replace hb := bel_to (w := w) (by first | exact hb | exact hb.alloc hb.size _ | exact (hb.alloc hb.size _).alloc (Nat.le_trans hb.size (by simp)) _ | exact hb.setCell (by simp [hb.size]) _) hbn; clear hbn)
          go_wp2
          go_roundw
          case rel => exact ⟨k' + 1, by go_num, by omega, lt_step (p := fun j => row A j = row B j) HA.out HE.out, a1, b1, hb⟩
          case measure => simp [intOf]; omega
      · have HE : Hid (A = B) := rows_ext' HL.out fun j hj => HA.out j (by omega)
        go_wp2
        go_ret
        exact ⟨ret_bool (by rw [HM.out]; symm; rw [decide_eq_true_iff]; exact HE.out), hb⟩
  · have hb0 : ((A.length : Int) != (B.length : Int)) = true := by simp; omega
    go_enter Try.func83, Try.ntmps83
    go_wp2
    go_ret
    exact ⟨ret_bool (by rw [HM.out]; symm; rw [decide_eq_false_iff_not]; intro e; exact hlen (by rw [e])), hb⟩
end Go.Proofs.Ytkanbnbofoabeaa
