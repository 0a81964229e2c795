/- IsMinimalDep, of the reference. -/
import Derived.Test.YtaomdnibnnobiaaMinDep
namespace Go.Proofs.Ytaomdnibnnobiaa
open Go.RowKit
set_option linter.unusedVariables false
set_option maxRecDepth 100000

/-- what l7Minimal says -/
def l7F (n : Int) (R : List (List Int)) (m l r : Int) : Bool := !hasc l r && (holdsF R m l r && (membersUpTo l n.toNat).all fun c => !holdsF R m (dif l (one c)) r)
theorem members_below {n l : Int} (h0 : 0 ≤ n) (h5 : n ≤ 5) (hl : 0 ≤ l) (hn : l < 2 ^ n.toNat) : membersUpTo l n.toNat = membersF l := by
  obtain ⟨k, rfl⟩ := Int.eq_ofNat_of_zero_le h0
  obtain ⟨x, rfl⟩ := Int.eq_ofNat_of_zero_le hl
  have hk : k < 6 := by omega
  have h32 : ∀ m < 6, (2 : Int) ^ ((m : Nat) : Int).toNat ≤ 32 := by decide
  have hx : x < 32 := by have := h32 k hk; omega
  have h : ∀ k < 6, ∀ x < 32, ((x : Nat) : Int) < 2 ^ ((k : Nat) : Int).toNat → membersUpTo ((x : Nat) : Int) ((k : Nat) : Int).toNat = membersF ((x : Nat) : Int) := by decide +kernel
  exact h k hk x hx hn
theorem isMin_l7 {n : Int} {R : List (List Int)} {m l r : Int} (h : askF n R m l r = true) : isMinF n R m l r = l7F n R m l r := by
  have h' := h
  unfold askF at h'
  simp only [Bool.and_eq_true] at h'
  have h5 := (isTab_of h'.1.1).2.1
  have hd := h'.2
  unfold isDepF isAttr at hd
  simp only [Bool.and_eq_true, decide_eq_true_eq] at hd
  unfold isMinF l7F
  rw [h, members_below (by omega) h5 hd.1.1.2.1.2 hd.1.1.2.2]
  cases hasc l r <;> cases holdsF R m l r <;> rfl
set_option maxHeartbeats 1600000 in
theorem c_l7Minimal (n : Int) (oa) (cap : Nat) (R : List (List Int)) (m l r : Int) (w : World) (hR : RowsAt w oa R) (ht : isTabF n R = true) (hsl : St l) (hcr : Co r) :
    Ans Try.prog 68 #[.agg #[.int .i64 n, .slice oa R.length cap], .int .i64 m, .agg #[.int .i64 l, .int .i64 r]] w (.bool (l7F n R m l r)) := by
  unfold Ans
  have hb := bel2 w (.cells #[.int .i64 n, .slice oa R.length cap] 41) (.cells #[.int .i64 l, .int .i64 r] 54)
  have a0 := two_a w #[.int .i64 n, .slice oa R.length cap] 41 #[.int .i64 l, .int .i64 r] 54 0 _ rfl
  have a1 := two_a w #[.int .i64 n, .slice oa R.length cap] 41 #[.int .i64 l, .int .i64 r] 54 1 _ rfl
  have d0 := two_b w #[.int .i64 n, .slice oa R.length cap] 41 #[.int .i64 l, .int .i64 r] 54 0 _ rfl
  have d1 := two_b w #[.int .i64 n, .slice oa R.length cap] 41 #[.int .i64 l, .int .i64 r] 54 1 _ rfl
  obtain ⟨hn1, hn5, hr40, _⟩ := isTab_of ht
  have hr1 := hcr.1
  have hr2 := hcr.2
  have HH : Hid (∀ (w' : World) (l' : Int), St l' → RowsAt w' oa R → Ans Try.prog 71 #[.agg #[.int .i64 n, .slice oa R.length cap], .int .i64 m, .agg #[.int .i64 l', .int .i64 r]] w' (.bool (holdsF R m l' r))) := fun w' l' hl' h => c_l7Holds n oa cap R m l' r w' h ht hl' hcr
  have HSL : Hid (St l) := hsl
  clear ht hcr hsl
  cases hlr : hasc l r
  case true =>
    have hlr2 : (bits BinOp.and IntKind.i64 (l / 2 ^ r.toNat) 1 == 1) = true := hlr
    have HM : Hid (l7F n R m l r = false) := by show l7F n R m l r = false; unfold l7F; rw [hlr]; rfl
    go_enter Try.func68, Try.ntmps68
    go_wp2
    go_ret
    exact ⟨ret_bool HM.out.symm, hb⟩
  have hlr2 : (bits BinOp.and IntKind.i64 (l / 2 ^ r.toNat) 1 == 1) = false := hlr
  cases hh : holdsF R m l r
  case false =>
    have HM : Hid (l7F n R m l r = false) := by show l7F n R m l r = false; unfold l7F; rw [hlr, hh]; rfl
    go_enter Try.func68, Try.ntmps68
    go_wp2_with (first | (go_at_call 71; refine Calls.mono (Ans.eqb (HH.out _ l HSL.out (hR.keep hb)) hh) ?_; rintro e w1 ⟨rfl, hbn⟩; replace a0 := cell_keep a0 hbn; replace a1 := cell_keep a1 hbn; replace d0 := cell_keep d0 hbn; replace d1 := cell_keep d1 hbn; replace hb := bel_to (w := w) (by first | exact hb | exact hb.alloc hb.size _ | exact (hb.alloc hb.size _).alloc (Nat.le_trans hb.size (by simp)) _ | exact hb.setCell (by simp [hb.size]) _) hbn; clear hbn))
    go_ret
    exact ⟨ret_bool HM.out.symm, hb⟩
  have HM : Hid (l7F n R m l r = (membersUpTo l n.toNat).all fun c => !holdsF R m (dif l (one c)) r) := by show l7F n R m l r = _; unfold l7F; rw [hlr, hh]; rfl
  obtain ⟨N, rfl⟩ := Int.eq_ofNat_of_zero_le (show 0 ≤ n by omega)
  go_enter Try.func68, Try.ntmps68
  go_wp2_with (first | (go_at_call 71; refine Calls.mono (Ans.eqb (HH.out _ l HSL.out (hR.keep hb)) hh) ?_; rintro e w1 ⟨rfl, hbn⟩; replace a0 := cell_keep a0 hbn; replace a1 := cell_keep a1 hbn; replace d0 := cell_keep d0 hbn; replace d1 := cell_keep d1 hbn; replace hb := bel_to (w := w) (by first | exact hb | exact hb.alloc hb.size _ | exact (hb.alloc hb.size _).alloc (Nat.le_trans hb.size (by simp)) _ | exact hb.setCell (by simp [hb.size]) _) hbn; clear hbn))
  go_loopw [7] (fun i wr => ∃ k : Nat, i = .int .i64 k ∧ k ≤ N ∧ (membersUpTo l k).all (fun c => !holdsF R m (dif l (one c)) r) = true ∧ wr.cell? ⟨w.heap.size, 0, none⟩ = some (.int .i64 N) ∧ wr.cell? ⟨w.heap.size, 1, none⟩ = some (.slice oa R.length cap) ∧ wr.cell? ⟨w.heap.size + 1, 0, none⟩ = some (.int .i64 l) ∧ wr.cell? ⟨w.heap.size + 1, 1, none⟩ = some (.int .i64 r) ∧ Below w.heap.size w wr) (fun i _ => N - (intOf i).toNat)
  case atStart => exact ⟨0, rfl, Nat.zero_le _, by simp [membersUpTo], a0, a1, d0, d1, hb⟩
  case round =>
    clear a0 a1 d0 d1 hb
    obtain ⟨k, rfl, hk, hall, a0, a1, d0, d1, hb⟩ := hrel
    have HA : Hid ((membersUpTo l k).all (fun c => !holdsF R m (dif l (one c)) r) = true) := hall
    clear hall
    by_cases hlt : k < N
    · have HT : Hid ((membersUpTo l (k + 1)) = membersUpTo l k ++ (if hasc l k then [(k : Int)] else [])) := membersUpTo_succ l k
      have hco : Co (k : Int) := ⟨by omega, by omega⟩
      have HSD : Hid (St (dif l (one (k : Int)))) := dif_st HSL.out (one_st hco)
      have hx := fun (x : After wr) => (hR.keep hb).keep x.bel
      clear hco
      cases hkc : hasc l (k : Int)
      · have hk2 : (bits BinOp.and IntKind.i64 (l / 2 ^ k) 1 == 1) = false := hkc
        go_wp2_with fail
        (refine wp_region_after (by kernel_rfl) (by kernel_rfl) ?_; have q_a0 := fun (x : After _) => cell_keep a0 x.bel; have q_a1 := fun (x : After _) => cell_keep a1 x.bel; have q_d0 := fun (x : After _) => cell_keep d0 x.bel; have q_d1 := fun (x : After _) => cell_keep d1 x.bel; (repeat (go_big_quiet_step (fail))); clear q_a0; clear q_a1; clear q_d0; clear q_d1; refine wpQuiet_nil ?_; rintro _ ⟨⟨w1, hbn⟩, rfl⟩; (try simp only [After.w]); replace a0 := cell_keep a0 hbn; replace a1 := cell_keep a1 hbn; replace d0 := cell_keep d0 hbn; replace d1 := cell_keep d1 hbn; replace hb := bel_to (w := w) (by first | exact hb | exact hb.alloc hb.size _ | exact (hb.alloc hb.size _).alloc (Nat.le_trans hb.size (by simp)) _ | exact hb.setCell (by simp [hb.size]) _) hbn; clear hbn)
        go_wp2
        go_roundw
        case rel => exact ⟨k + 1, by go_num, by omega, by rw [HT.out, hkc]; simpa using HA.out, a0, a1, d0, d1, hb⟩
        case measure => simp [intOf]; omega
      · have hk2 : (bits BinOp.and IntKind.i64 (l / 2 ^ k) 1 == 1) = true := hkc
        cases hy : holdsF R m (dif l (one (k : Int))) r
        · go_wp2_with fail
          (refine wp_region_after (by kernel_rfl) (by kernel_rfl) ?_; have q_a0 := fun (x : After _) => cell_keep a0 x.bel; have q_a1 := fun (x : After _) => cell_keep a1 x.bel; have q_d0 := fun (x : After _) => cell_keep d0 x.bel; have q_d1 := fun (x : After _) => cell_keep d1 x.bel; (repeat (go_big_quiet_step ((first | (go_at_call 71; exact Ans.after (Ans.eqb (b' := false) (HH.out _ (dif l (one (k : Int))) HSD.out (hx _)) hy)))))); clear q_a0; clear q_a1; clear q_d0; clear q_d1; refine wpQuiet_nil ?_; rintro _ ⟨⟨w1, hbn⟩, rfl⟩; (try simp only [After.w]); replace a0 := cell_keep a0 hbn; replace a1 := cell_keep a1 hbn; replace d0 := cell_keep d0 hbn; replace d1 := cell_keep d1 hbn; replace hb := bel_to (w := w) (by first | exact hb | exact hb.alloc hb.size _ | exact (hb.alloc hb.size _).alloc (Nat.le_trans hb.size (by simp)) _ | exact hb.setCell (by simp [hb.size]) _) hbn; clear hbn)
          go_wp2
          go_roundw
          case rel => exact ⟨k + 1, by go_num, by omega, by rw [HT.out, hkc, List.all_append, HA.out]; simp [hy], a0, a1, d0, d1, hb⟩
          case measure => simp [intOf]; omega
        · have HF : Hid ((membersUpTo l N).all (fun c => !holdsF R m (dif l (one c)) r) = false) := by
            show (membersUpTo l N).all (fun c => !holdsF R m (dif l (one c)) r) = false
            rw [List.all_eq_false]
            refine ⟨(k : Int), ?_, by simp [hy]⟩
            unfold membersUpTo
            exact List.mem_filter.2 ⟨List.mem_map.2 ⟨k, List.mem_range.2 hlt, rfl⟩, hkc⟩
          go_wp2_with fail
          (refine wp_region_after (by kernel_rfl) (by kernel_rfl) ?_; have q_a0 := fun (x : After _) => cell_keep a0 x.bel; have q_a1 := fun (x : After _) => cell_keep a1 x.bel; have q_d0 := fun (x : After _) => cell_keep d0 x.bel; have q_d1 := fun (x : After _) => cell_keep d1 x.bel; (repeat (go_big_quiet_step ((first | (go_at_call 71; exact Ans.after (Ans.eqb (b' := true) (HH.out _ (dif l (one (k : Int))) HSD.out (hx _)) hy)))))); clear q_a0; clear q_a1; clear q_d0; clear q_d1; refine wpQuiet_nil ?_; rintro _ ⟨⟨w1, hbn⟩, rfl⟩; (try simp only [After.w]); replace a0 := cell_keep a0 hbn; replace a1 := cell_keep a1 hbn; replace d0 := cell_keep d0 hbn; replace d1 := cell_keep d1 hbn; replace hb := bel_to (w := w) (by first | exact hb | exact hb.alloc hb.size _ | exact (hb.alloc hb.size _).alloc (Nat.le_trans hb.size (by simp)) _ | exact hb.setCell (by simp [hb.size]) _) hbn; clear hbn)
          go_wp2
          go_ret
          exact ⟨ret_bool (by rw [HM.out]; exact HF.out.symm), hb⟩
    · have hkk : k = N := by omega
      have HS : Hid ((membersUpTo l N).all (fun c => !holdsF R m (dif l (one c)) r) = true) := by have := HA.out; rw [hkk] at this; exact this
      clear hkk
      go_wp2
      go_ret
      exact ⟨ret_bool (by rw [HM.out]; exact HS.out.symm), hb⟩
end Go.Proofs.Ytaomdnibnnobiaa
