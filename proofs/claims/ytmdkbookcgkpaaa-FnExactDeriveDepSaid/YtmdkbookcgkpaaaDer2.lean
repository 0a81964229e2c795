/- The law's copies, comparisons and marks of derivation steps. -/
import Derived.Test.YtmdkbookcgkpaaaDer
namespace Go.Proofs.Ytmdkbookcgkpaaa
open Go.RowKit
set_option linter.unusedVariables false
set_option maxRecDepth 100000

theorem c_toDerived (a b c : Int) (w : World) : Ans Try.prog 72 #[.agg #[.int .i64 a, .int .i64 b, .int .i64 c]] w (.agg #[.int .i64 a, .int .i64 b, .int .i64 c]) := by
  unfold Ans
  go_enter Try.func72, Try.ntmps72
  go_wp2
  exact bodyPost_ret (v := .agg #[.int .i64 a, .int .i64 b, .int .i64 c]) (by simp [results, Try.results72, go_sem]) rfl ⟨rfl, (((Below.refl _ _).alloc (Nat.le_refl _) _).alloc (by simp) _).alloc (by simp; omega) _⟩
theorem c_eqDerived (a b c a' b' c' : Int) (w : World) : Ans Try.prog 75 #[.agg #[.int .i64 a, .int .i64 b, .int .i64 c], .agg #[.int .i64 a', .int .i64 b', .int .i64 c']] w (.bool (derEqB a b c a' b' c')) := by
  unfold Ans
  have hB : Below w.heap.size w ((w.alloc (.cells #[.int .i64 a, .int .i64 b, .int .i64 c] 73)).alloc (.cells #[.int .i64 a', .int .i64 b', .int .i64 c'] 73)) := ((Below.refl _ _).alloc (Nat.le_refl _) _).alloc (by simp) _
  by_cases h1 : a = a'
  · have e1 : (a != a') = false := by simp [h1]
    by_cases h2 : b = b'
    · have e2 : (b != b') = false := by simp [h2]
      by_cases h3 : c = c'
      · have e3 : (c != c') = false := by simp [h3]
        have HV : Hid (derEqB a b c a' b' c' = true) := by simp [derEqB, h1, h2, h3, Hid]
        clear h1 h2 h3
        go_enter Try.func75, Try.ntmps75
        go_wp2
        go_ret
        exact ⟨ret_bool HV.out.symm, hB⟩
      · have e3 : (c != c') = true := by simp [h3]
        have HV : Hid (derEqB a b c a' b' c' = false) := by simp [derEqB, h3, Hid]
        clear h1 h2 h3
        go_enter Try.func75, Try.ntmps75
        go_wp2
        go_ret
        exact ⟨ret_bool HV.out.symm, hB⟩
    · have e2 : (b != b') = true := by simp [h2]
      have HV : Hid (derEqB a b c a' b' c' = false) := by simp [derEqB, h2, Hid]
      clear h1 h2
      go_enter Try.func75, Try.ntmps75
      go_wp2
      go_ret
      exact ⟨ret_bool HV.out.symm, hB⟩
  · have e1 : (a != a') = true := by simp [h1]
    have HV : Hid (derEqB a b c a' b' c' = false) := by simp [derEqB, h1, Hid]
    clear h1
    go_enter Try.func75, Try.ntmps75
    go_wp2
    go_ret
    exact ⟨ret_bool HV.out.symm, hB⟩

theorem c_eqDerivedS (oa ob) (ca cb : Nat) (L M : List T3) (w : World) (hL : DersAt w oa L) (hM : DersAt w ob M) :
    Ans Try.prog 38 #[.slice oa L.length ca, .slice ob M.length cb] w (.bool (decide (L = M))) := by
  unfold Ans
  have hn : L.length ≤ 1073741824 := hL.len
  by_cases hlen : L.length = M.length
  · have hb0 : ((L.length : Int) != (M.length : Int)) = false := by simp [hlen]
    have HL : Hid (L.length = M.length) := hlen
    have hlm : L.length ≤ M.length := by omega
    clear hlen
    go_enter Try.func38, Try.ntmps38
    go_wp2
    go_loopw [5] (fun i wr => ∃ k : Nat, i = .int .i64 k ∧ k ≤ L.length ∧ (∀ j, j < k → ta L j = ta M j ∧ tb L j = tb M j ∧ tc L j = tc M j) ∧ Below w.heap.size w wr) (fun i _ => L.length - (intOf i).toNat)
    case atStart => exact ⟨0, rfl, Nat.zero_le _, fun j hj => absurd hj (by omega), Below.refl _ _⟩
    case round =>
      obtain ⟨k, rfl, hk, hall, hb⟩ := hrel
      have HA : Hid (∀ j, j < k → ta L j = ta M j ∧ tb L j = tb M j ∧ tc L j = tc M j) := hall
      clear hall
      by_cases hlt : k < L.length
      · obtain ⟨b, off, rfl, hbs, hc⟩ := hL.at_ (by omega)
        obtain ⟨b', off', rfl, hbs', hc'⟩ := hM.at_ (by omega)
        have hc1 := cell_keep (hc k hlt).1 hb
        have hc2 := cell_keep (hc k hlt).2.1 hb
        have hc3 := cell_keep (hc k hlt).2.2 hb
        have hc4 := cell_keep (hc' k (by omega)).1 hb
        have hc5 := cell_keep (hc' k (by omega)).2.1 hb
        have hc6 := cell_keep (hc' k (by omega)).2.2 hb
        clear hc hc'
        cases he : derEqB (ta L k) (tb L k) (tc L k) (ta M k) (tb M k) (tc M k)
        · go_wp2_with fail
          (refine wp_region_after (by kernel_rfl) (by kernel_rfl) ?_; have q_hc1 := fun (x : After _) => cell_keep hc1 x.bel; have q_hc2 := fun (x : After _) => cell_keep hc2 x.bel; have q_hc3 := fun (x : After _) => cell_keep hc3 x.bel; have q_hc4 := fun (x : After _) => cell_keep hc4 x.bel; have q_hc5 := fun (x : After _) => cell_keep hc5 x.bel; have q_hc6 := fun (x : After _) => cell_keep hc6 x.bel; (repeat (go_big_quiet_step ((first | (go_at_call 75; exact Ans.after (Ans.eqb (c_eqDerived _ _ _ _ _ _ _) he)))))); clear q_hc1; clear q_hc2; clear q_hc3; clear q_hc4; clear q_hc5; clear q_hc6; refine wpQuiet_nil ?_; rintro _ ⟨⟨w1, hbn⟩, rfl⟩; (try simp only [After.w]); replace hc1 := cell_keep hc1 hbn; replace hc2 := cell_keep hc2 hbn; replace hc3 := cell_keep hc3 hbn; replace hc4 := cell_keep hc4 hbn; replace hc5 := cell_keep hc5 hbn; replace hc6 := cell_keep hc6 hbn; replace hb := bel_to (w := w) (by first | exact hb | exact hb.alloc hb.size _ | exact (hb.alloc hb.size _).alloc (Nat.le_trans hb.size (by simp)) _ | exact hb.setCell (by simp [hb.size]) _) hbn; clear hbn)
          go_wp2
          go_ret
          exact ⟨ret_bool (by symm; rw [decide_eq_false_iff_not]; intro e; subst e; simp [derEqB] at he), hb⟩
        · have HE0 : ta L k = ta M k ∧ tb L k = tb M k ∧ tc L k = tc M k := by simpa [derEqB] using he
          have HE : Hid (ta L k = ta M k ∧ tb L k = tb M k ∧ tc L k = tc M k) := HE0
          clear HE0
          go_wp2_with fail
          (refine wp_region_after (by kernel_rfl) (by kernel_rfl) ?_; have q_hc1 := fun (x : After _) => cell_keep hc1 x.bel; have q_hc2 := fun (x : After _) => cell_keep hc2 x.bel; have q_hc3 := fun (x : After _) => cell_keep hc3 x.bel; have q_hc4 := fun (x : After _) => cell_keep hc4 x.bel; have q_hc5 := fun (x : After _) => cell_keep hc5 x.bel; have q_hc6 := fun (x : After _) => cell_keep hc6 x.bel; (repeat (go_big_quiet_step ((first | (go_at_call 75; exact Ans.after (Ans.eqb (c_eqDerived _ _ _ _ _ _ _) he)))))); clear q_hc1; clear q_hc2; clear q_hc3; clear q_hc4; clear q_hc5; clear q_hc6; refine wpQuiet_nil ?_; rintro _ ⟨⟨w1, hbn⟩, rfl⟩; (try simp only [After.w]); replace hc1 := cell_keep hc1 hbn; replace hc2 := cell_keep hc2 hbn; replace hc3 := cell_keep hc3 hbn; replace hc4 := cell_keep hc4 hbn; replace hc5 := cell_keep hc5 hbn; replace hc6 := cell_keep hc6 hbn; replace hb := bel_to (w := w) (by first | exact hb | exact hb.alloc hb.size _ | exact (hb.alloc hb.size _).alloc (Nat.le_trans hb.size (by simp)) _ | exact hb.setCell (by simp [hb.size]) _) hbn; clear hbn)
          go_wp2
          go_roundw
          case rel => exact ⟨k + 1, by go_num, by omega, lt_step (p := fun j => ta L j = ta M j ∧ tb L j = tb M j ∧ tc L j = tc M j) HA.out HE.out, hb⟩
          case measure => simp [intOf]; omega
      · have hkk : k = L.length := by omega
        have HE : Hid (L = M) := tlist_ext HL.out fun j hj => HA.out j (by omega)
        clear hkk
        go_wp2
        go_ret
        exact ⟨ret_bool (by symm; rw [decide_eq_true_iff]; exact HE.out), hb⟩
  · have hb0 : ((L.length : Int) != (M.length : Int)) = true := by simp; omega
    go_enter Try.func38, Try.ntmps38
    go_wp2
    go_ret
    exact ⟨ret_bool (by symm; rw [decide_eq_false_iff_not]; intro e; exact hlen (by rw [e])), Below.refl _ _⟩

theorem c_toDerivedS (oa) (ca : Nat) (D : List T3) (w : World) (hD : DersAt w oa D) :
    Calls Try.prog 36 #[.slice oa D.length ca] w fun e w' => ∃ v, e = .returned v ∧ OwnT w' w.heap.size v D ∧ Below w.heap.size w w' := by
  have hn : D.length ≤ 1073741824 := hD.len
  obtain ⟨i0, hi, hz0, hz1, hz2⟩ := info_parts info_derived
  go_enter Try.func36, Try.ntmps36
  go_wp2_with (first | (at_make; refine wpList_make_full _ rfl _ _ 48 rfl w.heap.size 73 i0 (.agg #[.int .i64 0, .int .i64 0, .int .i64 0]) 3 Try.underlying48 hi hz0 hz1 .i64 .i64 _ _ D.length rfl rfl rfl rfl (by rw [hz2]; omega) (by unfold maxLen; omega) (Nat.le_refl _) ?_; intro w1 hown hgrow))
  rw [madeT] at hown
  have hI : OwnT w1 w.heap.size (.slice (some ⟨w.heap.size, 0, none⟩) D.length D.length) (List.replicate D.length (0, 0, 0)) := by unfold OwnT; rw [List.length_replicate]; exact hown
  have hb1 : Below w.heap.size w w1 := below_grown hgrow (Nat.le_refl _) (by simp)
  clear hown hgrow hi hz0 hz1 hz2 i0
  go_loopw [4] (fun i wr => ∃ (k : Nat) (M : List T3), i = .int .i64 k ∧ k ≤ D.length ∧ M.length = D.length ∧ (∀ j, j < k → ta M j = ta D j ∧ tb M j = tb D j ∧ tc M j = tc D j) ∧
      OwnT wr w.heap.size (.slice (some ⟨w.heap.size, 0, none⟩) D.length D.length) M ∧ Below w.heap.size w wr) (fun i _ => D.length - (intOf i).toNat)
  case atStart => exact ⟨0, _, rfl, Nat.zero_le _, by simp, fun j hj => absurd hj (by omega), hI, hb1⟩
  case round =>
    clear hI hb1
    obtain ⟨k, M, rfl, hk, hM, hall, hI, hb⟩ := hrel
    have HM : Hid (M.length = D.length) := hM
    have HA : Hid (∀ j, j < k → ta M j = ta D j ∧ tb M j = tb D j ∧ tc M j = tc D j) := hall
    clear hall hM
    by_cases hlt : k < D.length
    · obtain ⟨b, off, rfl, hbs, hc⟩ := hD.at_ (by omega)
      have hc1 := cell_keep (hc k hlt).1 hb
      have hc2 := cell_keep (hc k hlt).2.1 hb
      have hc3 := cell_keep (hc k hlt).2.2 hb
      clear hc
      go_wp2_with fail
      refine Calls.mono (c_toDerived _ _ _ _) ?_
      rintro e w1 ⟨rfl, hbn⟩
      replace hI := hI.keep hbn
      replace hb := bel_to (w := w) hb hbn
      obtain ⟨⟨hg1, hg2, hg3⟩, hf1, hf2, hf3⟩ := hI.cell HM.out.symm k hlt
      have HI2 := (show Hid _ from hI.store HM.out.symm k (ta D k) (tb D k) (tc D k))
      clear hc1 hc2 hc3 hbn
      go_wp2
      go_roundw
      case rel =>
        refine ⟨k + 1, M.set k (ta D k, tb D k, tc D k), by go_num, by omega, by rw [List.length_set]; exact HM.out, ?_, HI2.out, ((hb.setCell (Nat.le_refl _) _).setCell (Nat.le_refl _) _).setCell (Nat.le_refl _) _⟩
        intro j hj
        have hs := t_set (L := M) (j := k) (k := j) (x := (ta D k, tb D k, tc D k)) (by have := HM.out; omega)
        rw [hs.1, hs.2.1, hs.2.2]
        by_cases h : j = k
        · subst h; simp
        · simp only [if_neg h]; exact HA.out j (by omega)
      case measure => simp [intOf]; omega
    · have hkk : k = D.length := by omega
      have HK : Hid (k = D.length) := hkk
      clear hkk
      go_wp2
      go_ret
      have : M = D := tlist_ext HM.out fun j hj => HA.out j (by have := HM.out; have := HK.out; omega)
      subst this
      exact ⟨_, rfl, hI, hb⟩

/-- A slice of derivation steps that came in. -/
def InDers (w : World) (v : Value) : Prop := ∃ a len cap, v = .slice a len cap ∧ len ≤ maxLen ∧ (len ≤ Room → ∃ D : List T3, D.length = len ∧ DersAt w a D)

theorem c_szDerivedS_ok (oa) (n cap : Nat) (left : Int) (h0 : left ≤ 1048576) (h : (n : Int) ≤ left) (w : World) :
    Ans Try.prog 34 #[.slice oa n cap, .int .i64 left] w (.int .i64 (left - n)) := by
  unfold Ans
  go_enter Try.func34, Try.ntmps34
  go_wp2
  go_ret
  exact ⟨rfl, Below.refl _ _⟩
theorem c_szDerivedS_no (oa) (n cap : Nat) (left : Int) (h0 : 0 ≤ left ∧ left ≤ 1048576) (h : left < (n : Int)) (hn : n ≤ maxLen) (w : World) :
    Ans Try.prog 34 #[.slice oa n cap, .int .i64 left] w (.int .i64 (-1)) := by
  unfold Ans
  unfold maxLen at hn
  go_enter Try.func34, Try.ntmps34
  go_wp2
  go_ret
  exact ⟨rfl, Below.refl _ _⟩
end Go.Proofs.Ytmdkbookcgkpaaa
