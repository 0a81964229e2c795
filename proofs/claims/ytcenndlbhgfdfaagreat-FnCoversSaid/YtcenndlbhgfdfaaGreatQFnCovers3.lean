/- Contracts and lemmas for FnCovers, part 3 of 6. -/
import Derived.Test.YtcenndlbhgfdfaaGreatQFnCovers1
import Derived.Test.YtcenndlbhgfdfaaGreatQFnCovers2
import Derived.Laws.AppendOwnNone
import Derived.Outline
import Derived.ProofKit
import Derived.OpenShut
import Derived.Lib.SmallJoins
import Derived.Deep.RegionHeld3
import Derived.Deep.AppendLies
namespace Go.Proofs.YtcenndlbhgfdfaaGreat
open Go.RowKit
set_option linter.unusedVariables false
set_option maxRecDepth 100000

/-- what l7Minimal says -/
def l7F (n : Int) (R : List (List Int)) (m l r : Int) : Bool := !hasc l r && (holdsF R m l r && (membersUpTo l n.toNat).all fun c => !holdsF R m (dif l (one c)) r)
theorem members_below {n l : Int} (h0 : 0 ≤ n) (h5 : n ≤ 5) (hl : 0 ≤ l) (hn : l < 2 ^ n.toNat) : membersUpTo l n.toNat = membersF l := by
  obtain ⟨k, rfl⟩ := Int.eq_ofNat_of_zero_le h0
  obtain ⟨x, rfl⟩ := Int.eq_ofNat_of_zero_le hl
  have hk : k < 6 := by omega
  have h32 : ∀ m < 6, (2 : Int) ^ ((m : Nat) : Int).toNat ≤ 32 := by decide
  have hx : x < 32 := by have := h32 k hk; omega
  have h : ∀ k < 6, ∀ x < 32, ((x : Nat) : Int) < 2 ^ ((k : Nat) : Int).toNat → membersUpTo ((x : Nat) : Int) ((k : Nat) : Int).toNat = membersF ((x : Nat) : Int) := by decide +kernel
  exact h k hk x hx hn
theorem isMin_l7 {n : Int} {R : List (List Int)} {m l r : Int} (h : askF n R m l r = true) : isMinF n R m l r = l7F n R m l r := by
  have h' := h
  unfold askF at h'
  simp only [Bool.and_eq_true] at h'
  have h5 := (isTab_of h'.1.1).2.1
  have hd := h'.2
  unfold isDepF isAttr at hd
  simp only [Bool.and_eq_true, decide_eq_true_eq] at hd
  unfold isMinF l7F
  rw [h, members_below (by omega) h5 hd.1.1.2.1.2 hd.1.1.2.2]
  cases hasc l r <;> cases holdsF R m l r <;> rfl
set_option maxHeartbeats 1600000 in
theorem c_l7Minimal (n : Int) (oa) (cap : Nat) (R : List (List Int)) (m l r : Int) (w : World) (hR : RowsAt w oa R) (ht : isTabF n R = true) (hsl : St l) (hcr : Co r) :
    Ans Tryz.prog 57 #[.agg #[.int .i64 n, .slice oa R.length cap], .int .i64 m, .agg #[.int .i64 l, .int .i64 r]] w (.bool (l7F n R m l r)) := by
  unfold Ans
  have hb := bel2 w (.cells #[.int .i64 n, .slice oa R.length cap] 26) (.cells #[.int .i64 l, .int .i64 r] 38)
  have a0 := two_a w #[.int .i64 n, .slice oa R.length cap] 26 #[.int .i64 l, .int .i64 r] 38 0 _ rfl
  have a1 := two_a w #[.int .i64 n, .slice oa R.length cap] 26 #[.int .i64 l, .int .i64 r] 38 1 _ rfl
  have d0 := two_b w #[.int .i64 n, .slice oa R.length cap] 26 #[.int .i64 l, .int .i64 r] 38 0 _ rfl
  have d1 := two_b w #[.int .i64 n, .slice oa R.length cap] 26 #[.int .i64 l, .int .i64 r] 38 1 _ rfl
  obtain ⟨hn1, hn5, hr40, _⟩ := isTab_of ht
  have hr1 := hcr.1
  have hr2 := hcr.2
  have HH : Hid (∀ (w' : World) (l' : Int), St l' → RowsAt w' oa R → Ans Tryz.prog 72 #[.agg #[.int .i64 n, .slice oa R.length cap], .int .i64 m, .agg #[.int .i64 l', .int .i64 r]] w' (.bool (holdsF R m l' r))) := fun w' l' hl' h => c_l7Holds n oa cap R m l' r w' h ht hl' hcr
  have HSL : Hid (St l) := hsl
  clear ht hcr hsl
  cases hlr : hasc l r
  case true =>
    have hlr2 : (bits BinOp.and IntKind.i64 (l / 2 ^ r.toNat) 1 == 1) = true := hlr
    have HM : Hid (l7F n R m l r = false) := by show l7F n R m l r = false; unfold l7F; rw [hlr]; rfl
    go_enter Tryz.func57, Tryz.ntmps57
    go_wp2
    go_ret
    exact ⟨ret_bool HM.out.symm, hb⟩
  have hlr2 : (bits BinOp.and IntKind.i64 (l / 2 ^ r.toNat) 1 == 1) = false := hlr
  cases hh : holdsF R m l r
  case false =>
    have HM : Hid (l7F n R m l r = false) := by show l7F n R m l r = false; unfold l7F; rw [hlr, hh]; rfl
    go_enter Tryz.func57, Tryz.ntmps57
    go_wp2_with (first | (go_at_call 72; refine Calls.mono (Ans.eqb (HH.out _ l HSL.out (hR.keep hb)) hh) ?_; rintro e w1 ⟨rfl, hbn⟩; replace a0 := cell_keep a0 hbn; replace a1 := cell_keep a1 hbn; replace d0 := cell_keep d0 hbn; replace d1 := cell_keep d1 hbn; replace hb := bel_to (w := w) (by first | exact hb | exact hb.alloc hb.size _ | exact (hb.alloc hb.size _).alloc (Nat.le_trans hb.size (by simp)) _ | exact hb.setCell (by simp [hb.size]) _) hbn; clear hbn))
    go_ret
    exact ⟨ret_bool HM.out.symm, hb⟩
  have HM : Hid (l7F n R m l r = (membersUpTo l n.toNat).all fun c => !holdsF R m (dif l (one c)) r) := by show l7F n R m l r = _; unfold l7F; rw [hlr, hh]; rfl
  obtain ⟨N, rfl⟩ := Int.eq_ofNat_of_zero_le (show 0 ≤ n by omega)
  go_enter Tryz.func57, Tryz.ntmps57
  go_wp2_with (first | (go_at_call 72; refine Calls.mono (Ans.eqb (HH.out _ l HSL.out (hR.keep hb)) hh) ?_; rintro e w1 ⟨rfl, hbn⟩; replace a0 := cell_keep a0 hbn; replace a1 := cell_keep a1 hbn; replace d0 := cell_keep d0 hbn; replace d1 := cell_keep d1 hbn; replace hb := bel_to (w := w) (by first | exact hb | exact hb.alloc hb.size _ | exact (hb.alloc hb.size _).alloc (Nat.le_trans hb.size (by simp)) _ | exact hb.setCell (by simp [hb.size]) _) hbn; clear hbn))
  go_loopw [7] (fun i wr => ∃ k : Nat, i = .int .i64 k ∧ k ≤ N ∧ (membersUpTo l k).all (fun c => !holdsF R m (dif l (one c)) r) = true ∧ wr.cell? ⟨w.heap.size, 0, none⟩ = some (.int .i64 N) ∧ wr.cell? ⟨w.heap.size, 1, none⟩ = some (.slice oa R.length cap) ∧ wr.cell? ⟨w.heap.size + 1, 0, none⟩ = some (.int .i64 l) ∧ wr.cell? ⟨w.heap.size + 1, 1, none⟩ = some (.int .i64 r) ∧ Below w.heap.size w wr) (fun i _ => N - (intOf i).toNat)
  case atStart => exact ⟨0, rfl, Nat.zero_le _, by simp [membersUpTo], a0, a1, d0, d1, hb⟩
  case round =>
    clear a0 a1 d0 d1 hb
    obtain ⟨k, rfl, hk, hall, a0, a1, d0, d1, hb⟩ := hrel
    have HA : Hid ((membersUpTo l k).all (fun c => !holdsF R m (dif l (one c)) r) = true) := hall
    clear hall
    by_cases hlt : k < N
    · have HT : Hid ((membersUpTo l (k + 1)) = membersUpTo l k ++ (if hasc l k then [(k : Int)] else [])) := membersUpTo_succ l k
      have hco : Co (k : Int) := ⟨by omega, by omega⟩
      have HSD : Hid (St (dif l (one (k : Int)))) := dif_st HSL.out (one_st hco)
      have hx := fun (x : After wr) => (hR.keep hb).keep x.bel
      clear hco
      cases hkc : hasc l (k : Int)
      · have hk2 : (bits BinOp.and IntKind.i64 (l / 2 ^ k) 1 == 1) = false := hkc
        go_wp2_with fail
        (refine wp_region_after (by kernel_rfl) (by kernel_rfl) ?_; have q_a0 := fun (x : After _) => cell_keep a0 x.bel; have q_a1 := fun (x : After _) => cell_keep a1 x.bel; have q_d0 := fun (x : After _) => cell_keep d0 x.bel; have q_d1 := fun (x : After _) => cell_keep d1 x.bel; (repeat (go_big_quiet_step (fail))); clear q_a0; clear q_a1; clear q_d0; clear q_d1; refine wpQuiet_nil ?_; rintro _ ⟨⟨w1, hbn⟩, rfl⟩; (try simp only [After.w]); replace a0 := cell_keep a0 hbn; replace a1 := cell_keep a1 hbn; replace d0 := cell_keep d0 hbn; replace d1 := cell_keep d1 hbn; replace hb := bel_to (w := w) (by first | exact hb | exact hb.alloc hb.size _ | exact (hb.alloc hb.size _).alloc (Nat.le_trans hb.size (by simp)) _ | exact hb.setCell (by simp [hb.size]) _) hbn; clear hbn)
        go_wp2
        go_roundw
        case rel => exact ⟨k + 1, by go_num, by omega, by rw [HT.out, hkc]; simpa using HA.out, a0, a1, d0, d1, hb⟩
        case measure => simp [intOf]; omega
      · have hk2 : (bits BinOp.and IntKind.i64 (l / 2 ^ k) 1 == 1) = true := hkc
        cases hy : holdsF R m (dif l (one (k : Int))) r
        · go_wp2_with fail
          (refine wp_region_after (by kernel_rfl) (by kernel_rfl) ?_; have q_a0 := fun (x : After _) => cell_keep a0 x.bel; have q_a1 := fun (x : After _) => cell_keep a1 x.bel; have q_d0 := fun (x : After _) => cell_keep d0 x.bel; have q_d1 := fun (x : After _) => cell_keep d1 x.bel; (repeat (go_big_quiet_step ((first | (go_at_call 72; exact Ans.after (Ans.eqb (b' := false) (HH.out _ (dif l (one (k : Int))) HSD.out (hx _)) hy)))))); clear q_a0; clear q_a1; clear q_d0; clear q_d1; refine wpQuiet_nil ?_; rintro _ ⟨⟨w1, hbn⟩, rfl⟩; (try simp only [After.w]); replace a0 := cell_keep a0 hbn; replace a1 := cell_keep a1 hbn; replace d0 := cell_keep d0 hbn; replace d1 := cell_keep d1 hbn; replace hb := bel_to (w := w) (by first | exact hb | exact hb.alloc hb.size _ | exact (hb.alloc hb.size _).alloc (Nat.le_trans hb.size (by simp)) _ | exact hb.setCell (by simp [hb.size]) _) hbn; clear hbn)
          go_wp2
          go_roundw
          case rel => exact ⟨k + 1, by go_num, by omega, by rw [HT.out, hkc, List.all_append, HA.out]; simp [hy], a0, a1, d0, d1, hb⟩
          case measure => simp [intOf]; omega
        · have HF : Hid ((membersUpTo l N).all (fun c => !holdsF R m (dif l (one c)) r) = false) := by
            show (membersUpTo l N).all (fun c => !holdsF R m (dif l (one c)) r) = false
            rw [List.all_eq_false]
            refine ⟨(k : Int), ?_, by simp [hy]⟩
            unfold membersUpTo
            exact List.mem_filter.2 ⟨List.mem_map.2 ⟨k, List.mem_range.2 hlt, rfl⟩, hkc⟩
          go_wp2_with fail
          (refine wp_region_after (by kernel_rfl) (by kernel_rfl) ?_; have q_a0 := fun (x : After _) => cell_keep a0 x.bel; have q_a1 := fun (x : After _) => cell_keep a1 x.bel; have q_d0 := fun (x : After _) => cell_keep d0 x.bel; have q_d1 := fun (x : After _) => cell_keep d1 x.bel; (repeat (go_big_quiet_step ((first | (go_at_call 72; exact Ans.after (Ans.eqb (b' := true) (HH.out _ (dif l (one (k : Int))) HSD.out (hx _)) hy)))))); clear q_a0; clear q_a1; clear q_d0; clear q_d1; refine wpQuiet_nil ?_; rintro _ ⟨⟨w1, hbn⟩, rfl⟩; (try simp only [After.w]); replace a0 := cell_keep a0 hbn; replace a1 := cell_keep a1 hbn; replace d0 := cell_keep d0 hbn; replace d1 := cell_keep d1 hbn; replace hb := bel_to (w := w) (by first | exact hb | exact hb.alloc hb.size _ | exact (hb.alloc hb.size _).alloc (Nat.le_trans hb.size (by simp)) _ | exact hb.setCell (by simp [hb.size]) _) hbn; clear hbn)
          go_wp2
          go_ret
          exact ⟨ret_bool (by rw [HM.out]; exact HF.out.symm), hb⟩
    · have hkk : k = N := by omega
      have HS : Hid ((membersUpTo l N).all (fun c => !holdsF R m (dif l (one c)) r) = true) := by have := HA.out; rw [hkk] at this; exact this
      clear hkk
      go_wp2
      go_ret
      exact ⟨ret_bool (by rw [HM.out]; exact HS.out.symm), hb⟩
theorem c_specIsMinimalDep (n : Int) (oa) (cap : Nat) (R : List (List Int)) (m l r : Int) (w : World) (hR : RowsAt w oa R) :
    Ans Tryz.prog 38 #[.agg #[.int .i64 n, .slice oa R.length cap], .int .i64 m, .agg #[.int .i64 l, .int .i64 r]] w (.bool (isMinF n R m l r)) := by
  unfold Ans
  have hb := bel2 w (.cells #[.int .i64 n, .slice oa R.length cap] 26) (.cells #[.int .i64 l, .int .i64 r] 38)
  have a0 := two_a w #[.int .i64 n, .slice oa R.length cap] 26 #[.int .i64 l, .int .i64 r] 38 0 _ rfl
  have a1 := two_a w #[.int .i64 n, .slice oa R.length cap] 26 #[.int .i64 l, .int .i64 r] 38 1 _ rfl
  have d0 := two_b w #[.int .i64 n, .slice oa R.length cap] 26 #[.int .i64 l, .int .i64 r] 38 0 _ rfl
  have d1 := two_b w #[.int .i64 n, .slice oa R.length cap] 26 #[.int .i64 l, .int .i64 r] 38 1 _ rfl
  cases hf : (isTabF n R && modeF m)
  · have HM : Hid (isMinF n R m l r = false) := by show isMinF n R m l r = false; unfold isMinF askF; rw [hf]; rfl
    go_enter Tryz.func38, Tryz.ntmps38
    go_wp2_with (first | (go_at_call 51; refine Calls.mono (Ans.eqb (c_l4Fine _ _ _ _ _ _ (hR.keep hb)) hf) ?_; rintro e w1 ⟨rfl, hbn⟩; replace a0 := cell_keep a0 hbn; replace a1 := cell_keep a1 hbn; replace d0 := cell_keep d0 hbn; replace d1 := cell_keep d1 hbn; replace hb := bel_to (w := w) (by first | exact hb | exact hb.alloc hb.size _ | exact (hb.alloc hb.size _).alloc (Nat.le_trans hb.size (by simp)) _ | exact hb.setCell (by simp [hb.size]) _) hbn; clear hbn))
    go_ret
    exact ⟨ret_bool HM.out.symm, hb⟩
  · cases hd : isDepF n l r
    · have HM : Hid (isMinF n R m l r = false) := by show isMinF n R m l r = false; unfold isMinF askF; rw [hf, hd]; rfl
      go_enter Tryz.func38, Tryz.ntmps38
      go_wp2_with (first | (go_at_call 51; refine Calls.mono (Ans.eqb (c_l4Fine _ _ _ _ _ _ (hR.keep hb)) hf) ?_; rintro e w1 ⟨rfl, hbn⟩; replace a0 := cell_keep a0 hbn; replace a1 := cell_keep a1 hbn; replace d0 := cell_keep d0 hbn; replace d1 := cell_keep d1 hbn; replace hb := bel_to (w := w) (by first | exact hb | exact hb.alloc hb.size _ | exact (hb.alloc hb.size _).alloc (Nat.le_trans hb.size (by simp)) _ | exact hb.setCell (by simp [hb.size]) _) hbn; clear hbn) | (go_at_call 81; refine Calls.mono (Ans.eqb (c_specIsDep _ _ _ _) hd) ?_; rintro e w1 ⟨rfl, hbn⟩; replace a0 := cell_keep a0 hbn; replace a1 := cell_keep a1 hbn; replace d0 := cell_keep d0 hbn; replace d1 := cell_keep d1 hbn; replace hb := bel_to (w := w) (by first | exact hb | exact hb.alloc hb.size _ | exact (hb.alloc hb.size _).alloc (Nat.le_trans hb.size (by simp)) _ | exact hb.setCell (by simp [hb.size]) _) hbn; clear hbn))
      go_ret
      exact ⟨ret_bool HM.out.symm, hb⟩
    · have ht : isTabF n R = true := by have := hf; simp only [Bool.and_eq_true] at this; exact this.1
      have HM : Hid (isMinF n R m l r = l7F n R m l r) := isMin_l7 (by unfold askF; rw [hf, hd]; rfl)
      have hS := dep_of hd (isTab_of ht).2.1
      have HW : Hid (∀ w' : World, RowsAt w' oa R → Ans Tryz.prog 57 #[.agg #[.int .i64 n, .slice oa R.length cap], .int .i64 m, .agg #[.int .i64 l, .int .i64 r]] w' (.bool (l7F n R m l r))) := fun w' h => c_l7Minimal n oa cap R m l r w' h ht hS.1 hS.2
      clear ht hS
      go_enter Tryz.func38, Tryz.ntmps38
      go_wp2_with (first | (go_at_call 51; refine Calls.mono (Ans.eqb (c_l4Fine _ _ _ _ _ _ (hR.keep hb)) hf) ?_; rintro e w1 ⟨rfl, hbn⟩; replace a0 := cell_keep a0 hbn; replace a1 := cell_keep a1 hbn; replace d0 := cell_keep d0 hbn; replace d1 := cell_keep d1 hbn; replace hb := bel_to (w := w) (by first | exact hb | exact hb.alloc hb.size _ | exact (hb.alloc hb.size _).alloc (Nat.le_trans hb.size (by simp)) _ | exact hb.setCell (by simp [hb.size]) _) hbn; clear hbn) | (go_at_call 81; refine Calls.mono (Ans.eqb (c_specIsDep _ _ _ _) hd) ?_; rintro e w1 ⟨rfl, hbn⟩; replace a0 := cell_keep a0 hbn; replace a1 := cell_keep a1 hbn; replace d0 := cell_keep d0 hbn; replace d1 := cell_keep d1 hbn; replace hb := bel_to (w := w) (by first | exact hb | exact hb.alloc hb.size _ | exact (hb.alloc hb.size _).alloc (Nat.le_trans hb.size (by simp)) _ | exact hb.setCell (by simp [hb.size]) _) hbn; clear hbn) | (go_at_call 57; refine Calls.mono (HW.out _ (hR.keep hb)) ?_; rintro e w1 ⟨rfl, hbn⟩; replace a0 := cell_keep a0 hbn; replace a1 := cell_keep a1 hbn; replace d0 := cell_keep d0 hbn; replace d1 := cell_keep d1 hbn; replace hb := bel_to (w := w) (by first | exact hb | exact hb.alloc hb.size _ | exact (hb.alloc hb.size _).alloc (Nat.le_trans hb.size (by simp)) _ | exact hb.setCell (by simp [hb.size]) _) hbn; clear hbn))
      go_ret
      exact ⟨ret_bool HM.out.symm, hb⟩
end Go.Proofs.YtcenndlbhgfdfaaGreat
namespace Go.Proofs.YtcenndlbhgfdfaaGreat
open Go.RowKit Go.Shelf Go.Lib Go.Sort
set_option linter.unusedVariables false
set_option maxRecDepth 100000

theorem c_specMembers (x : Int) (w : World) :
    Calls Tryz.prog 115 #[.int .i64 x] w fun e w' => ∃ v, e = .returned v ∧ OwnI w' w.heap.size v (membersF x) ∧ Below w.heap.size w w' := by
  obtain ⟨i0, hi, hz0, hz1, hz2⟩ := info_parts info_int
  cases hst : stB x
  · have HM : Hid (membersF x = []) := by unfold membersF; rw [hst]; rfl
    go_enter Tryz.func115, Tryz.ntmps115
    go_wp2
    go_loopw [3, 4] (fun v i wr => i = .int .i64 0 ∧ OwnI wr w.heap.size v [] ∧ Below w.heap.size w wr) (fun _ _ _ => 0)
    case atStart => exact ⟨rfl, OwnI.empty _ _ (Nat.le_refl _), (Below.refl _ _).alloc (Nat.le_refl _) _⟩
    case round =>
      obtain ⟨rfl, hI, hb⟩ := hrel
      go_wp2_with (first | (go_at_call 122; refine Calls.mono (Ans.eqb (c_l2Valid _ _) hst) ?_; rintro e w1 ⟨rfl, hbn⟩; replace hI := hI.keep hbn; replace hb := bel_to (w := w) (by first | exact hb | exact hb.alloc hb.size _ | exact (hb.alloc hb.size _).alloc (Nat.le_trans hb.size (by simp)) _ | exact hb.setCell (by simp [hb.size]) _) hbn; clear hbn))
      go_ret
      exact ⟨_, rfl, by rw [HM.out]; exact hI, hb⟩
  · have HM : Hid (membersF x = membersUpTo x 5) := by unfold membersF; rw [hst]; rfl
    have hsx : St x := by simpa [stB] using hst
    go_enter Tryz.func115, Tryz.ntmps115
    go_wp2
    go_loopw [3, 4] (fun v i wr => ∃ k : Nat, i = .int .i64 k ∧ k ≤ 5 ∧ OwnI wr w.heap.size v (membersUpTo x k) ∧ Below w.heap.size w wr) (fun _ i _ => 5 - (intOf i).toNat)
    case atStart => exact ⟨0, rfl, Nat.zero_le _, OwnI.empty _ _ (Nat.le_refl _), (Below.refl _ _).alloc (Nat.le_refl _) _⟩
    case round =>
      obtain ⟨k, rfl, hk, hI, hb⟩ := hrel
      have HS := membersUpTo_succ x k
      have hle := membersUpTo_le x k
      have HS2 : Hid (membersUpTo x (k + 1) = membersUpTo x k ++ (if hasc x k then [(k : Int)] else [])) := HS
      clear HS
      by_cases hlt : k < 5
      · have hk64 : 0 ≤ (k : Int) ∧ (k : Int) < 64 := by omega
        cases hh : hasc x k
        · have hk2 : (bits BinOp.and IntKind.i64 (x / 2 ^ k) 1 == 1) = false := hh
          go_wp2_with (first | (go_at_call 122; refine Calls.mono (Ans.eqb (c_l2Valid _ _) hst) ?_; rintro e w1 ⟨rfl, hbn⟩; replace hI := hI.keep hbn; replace hb := bel_to (w := w) (by first | exact hb | exact hb.alloc hb.size _ | exact (hb.alloc hb.size _).alloc (Nat.le_trans hb.size (by simp)) _ | exact hb.setCell (by simp [hb.size]) _) hbn; clear hbn))
          go_roundw
          case rel => exact ⟨k + 1, by go_num, by omega, by rw [HS2.out, hh]; simpa using hI, hb⟩
          case measure => simp [intOf]; omega
        · have hk2 : (bits BinOp.and IntKind.i64 (x / 2 ^ k) 1 == 1) = true := hh
          go_wp2_with (first | (go_at_call 122; refine Calls.mono (Ans.eqb (c_l2Valid _ _) hst) ?_; rintro e w1 ⟨rfl, hbn⟩; replace hI := hI.keep hbn; replace hb := bel_to (w := w) (by first | exact hb | exact hb.alloc hb.size _ | exact (hb.alloc hb.size _).alloc (Nat.le_trans hb.size (by simp)) _ | exact hb.setCell (by simp [hb.size]) _) hbn; clear hbn) | (at_builtin; refine wpList_append_own _ rfl _ _ 50 rfl w.heap.size 3 i0 (.int .i64 0) 1 8 Tryz.underlying50 hi hz0 hz1 hz2 rfl (by decide) _ _ _ rfl (World.ownsRow.alloc hI _) _ 1 1 [.int .i64 ((k : Int))] rfl rfl (by intro j u hj; match j, hj with | 0, hj => simp at hj; subst hj; simp [Addr.add]) (by intro u hu; simp at hu; subst hu; rfl) (by unfold maxLen; omega) (by omega) (by have := hb.size; simp; omega) ?_; intro v' w1 hown hgrow _; replace hb := (hb.alloc hb.size _).grown hgrow (by have := hb.size; simp; omega) (fun g hg => (World.ownsRow.lt hI g hg).1); replace hI := OwnI.snoc hown; clear hown hgrow))
          go_roundw
          case rel => exact ⟨k + 1, by go_num, by omega, by rw [HS2.out, hh]; exact hI, hb⟩
          case measure => simp [intOf]; omega
      · have hkk : k = 5 := by omega
        have HK : Hid (k = 5) := hkk
        clear hkk
        go_wp2_with (first | (go_at_call 122; refine Calls.mono (Ans.eqb (c_l2Valid _ _) hst) ?_; rintro e w1 ⟨rfl, hbn⟩; replace hI := hI.keep hbn; replace hb := bel_to (w := w) (by first | exact hb | exact hb.alloc hb.size _ | exact (hb.alloc hb.size _).alloc (Nat.le_trans hb.size (by simp)) _ | exact hb.setCell (by simp [hb.size]) _) hbn; clear hbn))
        go_ret
        exact ⟨_, rfl, by rw [HM.out, ← HK.out]; exact hI, hb⟩

theorem c_specCountMembers (x : Int) (w : World) : Ans Tryz.prog 93 #[.int .i64 x] w (.int .i64 (membersF x).length) := by
  unfold Ans
  have hl := members_len x
  go_enter Tryz.func93, Tryz.ntmps93
  go_wp2_with fail
  refine (c_specMembers x _).mono ?_
  rintro e w1 ⟨v1, rfl, hM, hb⟩
  generalize hMM : membersF x = M at *
  have HMM : Hid (membersF x = M) := hMM
  clear hMM
  obtain ⟨o1, c1, rfl⟩ := hM.shape
  go_wp2
  go_ret
  exact ⟨ret_int (by rw [HMM.out]), hb⟩
def szP (s : Nat) (x : Int) : Bool := ((membersF x).length : Int) == s
def bySize (n s : Nat) : List Int := (List.range s).flatMap fun t => flt (szP t) (2 ^ n)
theorem bySize_succ (n s : Nat) : bySize n (s + 1) = bySize n s ++ flt (szP s) (2 ^ n) := by unfold bySize; rw [List.range_succ, List.flatMap_append]; simp
theorem bySize_len (n s : Nat) (hn : n ≤ 5) : (bySize n s).length ≤ 32 * s := by
  induction s with
  | zero => simp [bySize]
  | succ s ih =>
    rw [bySize_succ, List.length_append]
    have := flt_le (szP s) (2 ^ n)
    have h : ∀ n < 6, 2 ^ n ≤ 32 := by decide
    have := h n (by omega)
    omega
def keyS (x : Fin 32) : Int := (pcN x.val : Int) * 32 + (x.val : Int)
theorem keyS_lt (x y : Fin 32) : ltOf cfS x y = decide (keyS x < keyS y) := by
  rw [ltS, decide_eq_decide]
  have h1 := x.isLt
  have h2 := y.isLt
  unfold keyS
  constructor <;> intro h <;> omega
theorem keyS_inj {x y : Fin 32} (h : keyS x = keyS y) : x = y := by
  have h1 := x.isLt
  have h2 := y.isLt
  unfold keyS at h
  exact Fin.ext (by omega)
theorem sortS_up {L : List (Fin 32)} (hd : L.Nodup) : Up ((sortS L).map keyS) := by
  unfold Up
  rw [List.pairwise_map]
  have h1 := List.pairwise_mergeSort (le := fun (x y : Fin 32) => !(ltOf cfS) y x) (fun a b c h1 h2 => by
    simp only [keyS_lt, Bool.not_eq_true', decide_eq_false_iff_not] at *; omega) (fun a b => by
    simp only [keyS_lt, Bool.or_eq_true, Bool.not_eq_true', decide_eq_false_iff_not]; omega) L
  have h2 : (sortS L).Nodup := (List.mergeSort_perm L _).nodup_iff.2 hd
  have h3 := h1.and h2
  refine h3.imp ?_
  rintro a b ⟨h, hne⟩
  simp only [keyS_lt, Bool.not_eq_true', decide_eq_false_iff_not] at h
  have : keyS a ≠ keyS b := fun e => hne (keyS_inj e)
  omega
def byF (n : Nat) : List (Fin 32) := (List.range (n + 1)).flatMap fun s => (finsB (2 ^ n)).filter fun x => pcN x.val == s
theorem byF_up : ∀ n < 6, Up ((byF n).map keyS) := by unfold Up; decide +kernel
theorem byF_mem : ∀ n < 6, ∀ x : Fin 32, x ∈ byF n ↔ x ∈ finsB (2 ^ n) := by decide +kernel
theorem byF_val : ∀ n < 6, valS (byF n) = bySize n (n + 1) := by decide +kernel
theorem finsB_nodup : ∀ n < 6, (finsB (2 ^ n)).Nodup := by decide +kernel
theorem map_inj : ∀ {A B : List (Fin 32)}, A.map keyS = B.map keyS → A = B
  | [], [], _ => rfl
  | [], b :: B, h => by simp at h
  | a :: A, [], h => by simp at h
  | a :: A, b :: B, h => by
    simp only [List.map_cons, List.cons.injEq] at h
    rw [keyS_inj h.1, map_inj h.2]
theorem parts_bySize (n : Nat) (hn : n ≤ 5) : partsF n = bySize n (n + 1) := by
  unfold partsF
  rw [if_pos ⟨by omega, by omega⟩, Int.toNat_natCast, ← byF_val n (by omega)]
  congr 1
  refine map_inj (up_ext (sortS_up (finsB_nodup n (by omega))) (byF_up n (by omega)) fun z => ?_)
  rw [List.mem_map, List.mem_map]
  constructor
  · rintro ⟨x, hx, e⟩; exact ⟨x, (byF_mem n (by omega) x).2 ((List.mergeSort_perm _ _).mem_iff.1 hx), e⟩
  · rintro ⟨x, hx, e⟩; exact ⟨x, (List.mergeSort_perm _ _).mem_iff.2 ((byF_mem n (by omega) x).1 hx), e⟩
set_option maxHeartbeats 800000 in
theorem c_specPartsBySize (n : Int) (w : World) :
    Calls Tryz.prog 56 #[.int .i64 n] w fun e w' => ∃ v, e = .returned v ∧ OwnI w' w.heap.size v (partsF n) ∧ Below w.heap.size w w' := by
  obtain ⟨i0, hi, hz0, hz1, hz2⟩ := info_parts info_int
  have hb := (Below.refl w.heap.size w).alloc (Nat.le_refl _) (.cells #[] 3)
  have hI := OwnI.empty w w.heap.size (Nat.le_refl _)
  by_cases hok : 0 ≤ n ∧ n ≤ 5
  case neg =>
    have HM : Hid (partsF n = []) := by show partsF n = []; unfold partsF; rw [if_neg hok]
    have hin : inB n 0 5 = false := by simp [inB]; omega
    go_enter Tryz.func56, Tryz.ntmps56
    go_wp2
    go_loopw [3, 4] (fun v i wr => i = .int .i64 0 ∧ OwnI wr w.heap.size v [] ∧ Below w.heap.size w wr) (fun _ _ _ => 0)
    case atStart => exact ⟨rfl, hI, hb⟩
    case round =>
      clear hI hb
      obtain ⟨rfl, hI, hb⟩ := hrel
      by_cases h0 : 0 ≤ n
      · go_wp2_with (first | (go_at_call 52; refine Calls.mono (Ans.eqb (c_l1In _ _ _ _) hin) ?_; rintro e w1 ⟨rfl, hbn⟩; replace hI := hI.keep hbn; replace hb := bel_to (w := w) (by first | exact hb | exact hb.alloc hb.size _ | exact (hb.alloc hb.size _).alloc (Nat.le_trans hb.size (by simp)) _ | exact hb.setCell (by simp [hb.size]) _) hbn; clear hbn))
        go_ret
        exact ⟨_, rfl, by rw [HM.out]; exact hI, hb⟩
      · go_wp2
        go_ret
        exact ⟨_, rfl, by rw [HM.out]; exact hI, hb⟩
  obtain ⟨N, rfl⟩ := Int.eq_ofNat_of_zero_le hok.1
  have hN5 : N ≤ 5 := by omega
  have HM : Hid (partsF N = bySize N (N + 1)) := parts_bySize N hN5
  have hin : inB N 0 5 = true := by simp [inB]; omega
  have hn01 : 0 ≤ (N : Int) ∧ (N : Int) ≤ 5 := by omega
  have hp32 : 2 ^ N ≤ 32 := by
    have h : ∀ n < 6, 2 ^ n ≤ 32 := by decide
    exact h N (by omega)
  have hAll : allM (N : Int) = ((2 ^ N : Nat) : Int) - 1 := by unfold allM; rw [Int.toNat_natCast]; push_cast; rfl
  generalize hQ : 2 ^ N = Q at *
  have HBS : Hid (∀ s, bySize N (s + 1) = bySize N s ++ flt (szP s) Q) := fun s => by rw [← hQ]; exact bySize_succ N s
  clear hok
  go_enter Tryz.func56, Tryz.ntmps56
  go_wp2
  go_loopw [3, 4] (fun v i wr => ∃ s : Nat, i = .int .i64 s ∧ s ≤ N + 1 ∧ OwnI wr w.heap.size v (bySize N s) ∧ Below w.heap.size w wr) (fun _ i _ => N + 1 - (intOf i).toNat)
  case atStart => exact ⟨0, rfl, Nat.zero_le _, by simpa [bySize] using hI, hb⟩
  case round =>
    clear hI hb
    obtain ⟨s, rfl, hs, hI, hb⟩ := hrel
    have hbl := bySize_len N s hN5
    by_cases hlt : s ≤ N
    · have hB : Hid (bySize N (s + 1) = bySize N s ++ flt (szP s) Q) := HBS.out s
      generalize bySize N s = F at *
      go_wp2_with (first | (go_at_call 52; refine Calls.mono (Ans.eqb (c_l1In _ _ _ _) hin) ?_; rintro e w1 ⟨rfl, hbn⟩; replace hI := hI.keep hbn; replace hb := bel_to (w := w) (by first | exact hb | exact hb.alloc hb.size _ | exact (hb.alloc hb.size _).alloc (Nat.le_trans hb.size (by simp)) _ | exact hb.setCell (by simp [hb.size]) _) hbn; clear hbn))
      go_loopw [3, 5] (fun v i wr => ∃ k : Nat, i = .int .i64 k ∧ k ≤ Q ∧ OwnI wr w.heap.size v (F ++ flt (szP s) k) ∧ Below w.heap.size w wr) (fun _ i _ => Q - (intOf i).toNat)
      case atStart => exact ⟨0, rfl, Nat.zero_le _, by simpa [flt] using hI, hb⟩
      case round =>
        clear hI hb
        obtain ⟨k, rfl, hk, hI, hb⟩ := hrel
        have hfk := flt_le (szP s) k
        have hfl : (F ++ flt (szP s) k).length ≤ 300 := by rw [List.length_append]; omega
        by_cases hlk : k < Q
        · have hd : decide ((k : Int) ≤ (Q : Int) - 1) = true := by simp; omega
          have HS : Hid (flt (szP s) (k + 1) = flt (szP s) k ++ (if szP s k then [(k : Int)] else [])) := flt_succ _ k
          have HA : Hid (F ++ flt (szP s) (k + 1) = (F ++ flt (szP s) k) ++ (if szP s k then [(k : Int)] else [])) := by
            show F ++ flt (szP s) (k + 1) = (F ++ flt (szP s) k) ++ (if szP s k then [(k : Int)] else [])
            rw [HS.out, List.append_assoc]
          have hml := members_len (k : Int)
          have HZ : Hid (szP s (k : Int) = (((membersF (k : Int)).length : Int) == s)) := rfl
          clear HS
          generalize F ++ flt (szP s) k = F2 at *
          cases hz : (((membersF (k : Int)).length : Int) == s)
          · go_wp2_with (first | (go_at_call 71; refine Calls.mono (c_l2All _ hn01 _) ?_; rintro e w1 ⟨rfl, hbn⟩; replace hI := hI.keep hbn; replace hb := bel_to (w := w) (by first | exact hb | exact hb.alloc hb.size _ | exact (hb.alloc hb.size _).alloc (Nat.le_trans hb.size (by simp)) _ | exact hb.setCell (by simp [hb.size]) _) hbn; clear hbn) | (go_at_call 93; refine Calls.mono (c_specCountMembers _ _) ?_; rintro e w1 ⟨rfl, hbn⟩; replace hI := hI.keep hbn; replace hb := bel_to (w := w) (by first | exact hb | exact hb.alloc hb.size _ | exact (hb.alloc hb.size _).alloc (Nat.le_trans hb.size (by simp)) _ | exact hb.setCell (by simp [hb.size]) _) hbn; clear hbn) | fail)
            go_roundw
            case rel => exact ⟨k + 1, by go_num, by omega, by rw [HA.out, HZ.out, hz]; simpa using hI, hb⟩
            case measure => simp [intOf]; omega
          · go_wp2_with (first | (go_at_call 71; refine Calls.mono (c_l2All _ hn01 _) ?_; rintro e w1 ⟨rfl, hbn⟩; replace hI := hI.keep hbn; replace hb := bel_to (w := w) (by first | exact hb | exact hb.alloc hb.size _ | exact (hb.alloc hb.size _).alloc (Nat.le_trans hb.size (by simp)) _ | exact hb.setCell (by simp [hb.size]) _) hbn; clear hbn) | (go_at_call 93; refine Calls.mono (c_specCountMembers _ _) ?_; rintro e w1 ⟨rfl, hbn⟩; replace hI := hI.keep hbn; replace hb := bel_to (w := w) (by first | exact hb | exact hb.alloc hb.size _ | exact (hb.alloc hb.size _).alloc (Nat.le_trans hb.size (by simp)) _ | exact hb.setCell (by simp [hb.size]) _) hbn; clear hbn) | (at_builtin; refine wpList_append_own _ rfl _ _ 50 rfl w.heap.size 3 i0 (.int .i64 0) 1 8 Tryz.underlying50 hi hz0 hz1 hz2 rfl (by decide) _ _ _ rfl (World.ownsRow.alloc hI _) _ 1 1 [.int .i64 ((k : Int))] rfl rfl (by intro j u hj; match j, hj with | 0, hj => simp at hj; subst hj; simp [Addr.add]) (by intro u hu; simp at hu; subst hu; rfl) (by unfold maxLen; omega) (by omega) (by have := hb.size; simp; omega) ?_; intro v' w1 hown hgrow _; replace hb := (hb.alloc hb.size _).grown hgrow (by have := hb.size; simp; omega) (fun g hg => (World.ownsRow.lt hI g hg).1); replace hI := OwnI.snoc hown; clear hown hgrow) | fail)
            go_roundw
            case rel => exact ⟨k + 1, by go_num, by omega, by rw [HA.out, HZ.out, hz]; exact hI, hb⟩
            case measure => simp [intOf]; omega
        · have hkk : k = Q := by omega
          have HA : Hid (bySize N (s + 1) = F ++ flt (szP s) k) := by show bySize N (s + 1) = F ++ flt (szP s) k; rw [hB.out, hkk]
          have hd : decide ((k : Int) ≤ (Q : Int) - 1) = false := by simp; omega
          clear hkk
          go_wp2_with (first | (go_at_call 71; refine Calls.mono (c_l2All _ hn01 _) ?_; rintro e w1 ⟨rfl, hbn⟩; replace hI := hI.keep hbn; replace hb := bel_to (w := w) (by first | exact hb | exact hb.alloc hb.size _ | exact (hb.alloc hb.size _).alloc (Nat.le_trans hb.size (by simp)) _ | exact hb.setCell (by simp [hb.size]) _) hbn; clear hbn) | fail)
          go_roundw
          case rel => exact ⟨s + 1, by go_num, by omega, by rw [HA.out]; exact hI, hb⟩
          case measure => simp [intOf]; omega
    · have hss : s = N + 1 := by omega
      have HE : Hid (bySize N s = partsF N) := by show bySize N s = partsF N; rw [hss, HM.out]
      clear hss
      go_wp2
      go_ret
      exact ⟨_, rfl, by rw [← HE.out]; exact hI, hb⟩
end Go.Proofs.YtcenndlbhgfdfaaGreat
namespace Go.Proofs.YtcenndlbhgfdfaaGreat
open Go.RowKit
set_option linter.unusedVariables false
set_option maxRecDepth 100000

theorem OwnD.empty (w : World) (base : Nat) (hb : base ≤ w.heap.size) : OwnD (w.alloc (.cells #[] 38)) base (.slice (some ⟨w.heap.size, 0, none⟩) 0 0) [] :=
  World.ownsRow_lit w #[] 0 hb (Nat.zero_le _) rfl
/-- The cells of a list of dependencies, as append asks for them. -/
theorem DepsAt.cells {w : World} {b off : Nat} {D : List (Int × Int)} (h : DepsAt w (some ⟨b, off, none⟩) D) (j : Nat) (u : Value) (hu : (dcells D)[j]? = some u) : w.cell? ((⟨b, off, none⟩ : Addr).add j) = some u := by
  have hj : j < D.length * 2 := by
    rw [← dcells_length]
    rcases Nat.lt_or_ge j (dcells D).length with h | h
    · exact h
    · rw [List.getElem?_eq_none h] at hu; cases hu
  obtain ⟨b', off', e, _, hc⟩ := h.at_ (by omega)
  simp only [Option.some.injEq, Addr.mk.injEq, and_true] at e
  obtain ⟨rfl, rfl⟩ := e
  have e : (⟨b, off, none⟩ : Addr).add j = ⟨b, off + j, none⟩ := by unfold Addr.add; split <;> simp_all
  rw [e]
  have hk := hc (j / 2) (by omega)
  have hd := dcells_at D (j / 2) (by omega)
  rcases Nat.mod_two_eq_zero_or_one j with hm | hm
  · have ej : j / 2 * 2 = j := by omega
    rw [ej] at hk hd
    rw [hk.1, ← hd.1]; exact hu
  · have ej : j / 2 * 2 + 1 = j := by omega
    have e2 : off + j / 2 * 2 + 1 = off + j := by omega
    rw [ej] at hd
    rw [e2] at hk
    rw [hk.2, ← hd.2]; exact hu
theorem DepsAt.cellsAny {w : World} {a : Addr} {D : List (Int × Int)} (h : DepsAt w (some a) D) (j : Nat) (u : Value) (hu : (dcells D)[j]? = some u) : w.cell? (a.add j) = some u := by
  have h0 : 0 < D.length := by
    rcases Nat.eq_zero_or_pos D.length with h0 | h0
    · have e : D = [] := List.eq_nil_of_length_eq_zero h0
      subst e; cases hu
    · exact h0
  obtain ⟨b', off', e, _, hc⟩ := h.at_ h0
  simp only [Option.some.injEq] at e
  subst e
  exact h.cells j u hu
theorem dcells_one (D : List (Int × Int)) : ∀ u ∈ dcells D, u.oneCell' = true := by
  intro u hu
  simp only [dcells, List.mem_flatMap, encD] at hu
  obtain ⟨d, _, hd⟩ := hu
  simp at hd
  rcases hd with rfl | rfl <;> rfl
theorem OwnD.joined {w : World} {base : Nat} {v : Value} {A B : List (Int × Int)} (h : w.ownsRow base 38 2 v (A.length + B.length) (dcells A ++ dcells B)) : OwnD w base v (A ++ B) := by
  unfold OwnD
  rw [List.length_append, dcells_append]
  exact h

theorem c_copyDeps (oa) (cap : Nat) (D : List (Int × Int)) (w : World) (hD : DepsAt w oa D) (hnil : oa = none → cap = 0) :
    Calls Tryz.prog 88 #[.slice oa D.length cap] w fun e w' => ∃ v, e = .returned v ∧ OwnD w' w.heap.size v D ∧ Below w.heap.size w w' := by
  obtain ⟨i0, hi, hz0, hz1, hz2⟩ := info_parts info_dep
  have hn : D.length ≤ 1073741824 := hD.len
  have hb := (Below.refl w.heap.size w).alloc (Nat.le_refl _) (.cells #[] 38)
  have hI := OwnD.empty w w.heap.size (Nat.le_refl _)
  rcases oa with _ | ⟨b, off, sp⟩
  · have h0 : D.length = 0 := by
      rcases Nat.eq_zero_or_pos D.length with h | h
      · exact h
      · obtain ⟨b, off, e, _⟩ := hD.at_ h; cases e
    have hnl : D = [] := List.eq_nil_of_length_eq_zero h0
    have hcap : cap = 0 := hnil rfl
    subst hnl hcap
    go_enter Tryz.func88, Tryz.ntmps88
    go_wp2_with (first | (at_builtin; refine wpList_append_own_none rfl _ _ 27 rfl w.heap.size 38 i0 2 Tryz.underlying27 hi _ _ _ rfl hI rfl ?_))
    go_ret
    exact ⟨_, rfl, hI, hb⟩
  · have HB : Hid (∀ j u, (dcells D)[j]? = some u → (w.alloc (.cells #[] 38)).cell? ((⟨b, off, sp⟩ : Addr).add j) = some u) := fun j u hu => (hD.keep hb).cellsAny j u hu
    go_enter Tryz.func88, Tryz.ntmps88
    go_wp2_with (first | (at_builtin; refine wpList_append_own _ rfl _ _ 27 rfl w.heap.size 38 i0 (.agg #[.int .i64 0, .int .i64 0]) 2 16 Tryz.underlying27 hi hz0 hz1 hz2 rfl (by decide) _ _ _ rfl hI _ D.length _ (dcells D) rfl (dcells_length D) HB.out (dcells_one D) (by unfold maxLen; simp; omega) (by simp; omega) (by simp) ?_; intro v' w1 hown hgrow _))
    have hI2 := OwnD.joined (A := []) (B := D) (by simpa using hown)
    have hb2 : Below w.heap.size w w1 := hb.grown hgrow (by simp) (fun g hg => (World.ownsRow.lt hI g hg).1)
    clear hown hgrow
    go_wp2
    go_ret
    exact ⟨_, rfl, by simpa using hI2, hb2⟩

theorem dcells_take : ∀ (D : List (Int × Int)) (i : Nat), dcells (D.take i) = (dcells D).take (i * 2)
  | [], i => by simp [dcells]
  | d :: D, 0 => by simp [dcells]
  | d :: D, i + 1 => by
    have e : (i + 1) * 2 = i * 2 + 1 + 1 := by omega
    rw [List.take_succ_cons, dcells_cons, dcells_cons, e, List.take_succ_cons, List.take_succ_cons, dcells_take D i]
theorem dcells_drop : ∀ (D : List (Int × Int)) (i : Nat), dcells (D.drop i) = (dcells D).drop (i * 2)
  | [], i => by simp [dcells]
  | d :: D, 0 => by simp [dcells]
  | d :: D, i + 1 => by
    have e : (i + 1) * 2 = i * 2 + 1 + 1 := by omega
    rw [List.drop_succ_cons, dcells_cons, e, List.drop_succ_cons, List.drop_succ_cons, dcells_drop D i]
def eraD (D : List (Int × Int)) (i : Nat) : List (Int × Int) := D.take i ++ D.drop (i + 1)
theorem ownsTake {w : World} {base : Nat} {v : Value} {i : Nat} {D : List (Int × Int)} (h : w.ownsRow base 38 2 v (0 + i) (dcells [] ++ dcells (D.take i))) : w.ownsRow base 38 2 v i (dcells (D.take i)) := by
  have e : dcells [] ++ dcells (D.take i) = dcells (D.take i) := rfl
  rw [e, Nat.zero_add] at h; exact h
theorem ownsErase {w : World} {base : Nat} {v : Value} {i : Nat} {D : List (Int × Int)} (hil : i < D.length) (h : w.ownsRow base 38 2 v (i + (D.length - (i + 1))) (dcells (D.take i) ++ dcells (D.drop (i + 1)))) : OwnD w base v (eraD D i) := by
  unfold OwnD eraD
  have e : (D.take i ++ D.drop (i + 1)).length = i + (D.length - (i + 1)) := by rw [List.length_append, List.length_take, List.length_drop]; omega
  rw [e, dcells_append]; exact h
theorem ownsLast {w : World} {base : Nat} {v : Value} {i : Nat} {D : List (Int × Int)} (hil : D.length = i + 1) (h : w.ownsRow base 38 2 v (i + 0) (dcells (D.take i) ++ [])) : OwnD w base v (eraD D i) := by
  refine ownsErase (by omega) ?_
  rw [List.drop_of_length_le (by omega), hil, Nat.sub_self]; exact h
end Go.Proofs.YtcenndlbhgfdfaaGreat
namespace Go.Proofs.YtcenndlbhgfdfaaGreat
open Go.RowKit
set_option linter.unusedVariables false
set_option maxRecDepth 100000

def anyIns (T : List Int) (x : Int) : Bool := T.any fun y => ins y x
def stepM (p : Int → Int → Bool) (r : Int) (T : List Int) (x : Int) : List Int := if (!hasc x r && !anyIns T x) && p x r then T ++ [x] else T
def takenF (p : Int → Int → Bool) (r : Int) (L : List Int) : List Int := L.foldl (stepM p r) []
def colF (p : Int → Int → Bool) (P : List Int) (r : Int) : List (Int × Int) := (takenF p r P).map fun x => (x, r)
def colsF (p : Int → Int → Bool) (P : List Int) (n : Nat) : List (Int × Int) := (List.range n).flatMap fun (r : Nat) => colF p P (r : Int)
theorem taken_succ (p : Int → Int → Bool) (r : Int) {L : List Int} {k : Nat} (h : k < L.length) : takenF p r (L.take (k + 1)) = stepM p r (takenF p r (L.take k)) (nth L k) := by
  unfold takenF
  rw [List.take_add_one, nth_eq h, List.foldl_append]; rfl
theorem stepM_len (p : Int → Int → Bool) (r : Int) (T : List Int) (x : Int) : (stepM p r T x).length ≤ T.length + 1 := by
  unfold stepM; split <;> simp
theorem taken_len (p : Int → Int → Bool) (r : Int) (L : List Int) : ∀ k, k ≤ L.length → (takenF p r (L.take k)).length ≤ k
  | 0, _ => by simp [takenF]
  | k + 1, h => by
    rw [taken_succ p r (by omega)]
    have h1 := taken_len p r L k (by omega)
    have h2 := stepM_len p r (takenF p r (L.take k)) (nth L k)
    omega
theorem colF_len (p : Int → Int → Bool) (P : List Int) (r : Int) : (colF p P r).length ≤ P.length := by
  unfold colF
  rw [List.length_map]
  have := taken_len p r P P.length (Nat.le_refl _)
  rw [List.take_length] at this
  exact this
theorem colsF_succ (p : Int → Int → Bool) (P : List Int) (n : Nat) : colsF p P (n + 1) = colsF p P n ++ colF p P n := by unfold colsF; rw [List.range_succ, List.flatMap_append]; simp
theorem colsF_len (p : Int → Int → Bool) (P : List Int) : ∀ n, (colsF p P n).length ≤ P.length * n
  | 0 => by simp [colsF]
  | n + 1 => by
    rw [colsF_succ, List.length_append, Nat.mul_succ]
    have h1 := colsF_len p P n
    have h2 := colF_len p P n
    omega
theorem own_snocD {w : World} {base : Nat} {v : Value} {A : List (Int × Int)} {l r : Int} (h : w.ownsRow base 38 2 v (A.length + 1) (dcells A ++ [.int .i64 l, .int .i64 r])) : OwnD w base v (A ++ [(l, r)]) := OwnD.joined (B := [(l, r)]) h
theorem OwnD.past {w w' : World} {base : Nat} {M v v' : Value} {L : List (Int × Int)} {o : Obj} (h : OwnD w base M L) (hg : (w.alloc o).grownBy w' v.ownBlock) (ha : Apart M v) (hf : Fresh (w.alloc o) v v') : OwnD w' base M L ∧ Apart M v' :=
  ⟨OwnD.far (World.ownsRow.alloc h o) hg ha, Apart.next (World.ownsRow.alloc h o) ha hf⟩
theorem c_hasPart (oa) (cap : Nat) (L : List Int) (x : Int) (w : World) (hL : IntsAt w oa L) :
    Ans Tryz.prog 102 #[.slice oa L.length cap, .int .i64 x] w (.bool (anyIns L x)) := by
  unfold Ans
  have hn : L.length ≤ 1073741824 := hL.len
  go_enter Tryz.func102, Tryz.ntmps102
  go_wp2
  go_loopw [9] (fun i wr => ∃ k : Nat, i = .int .i64 k ∧ k ≤ L.length ∧ (L.take k).all (fun y => !ins y x) = true ∧ Below w.heap.size w wr) (fun i _ => L.length - (intOf i).toNat)
  case atStart => exact ⟨0, rfl, Nat.zero_le _, by simp, Below.refl _ _⟩
  case round =>
    obtain ⟨k, rfl, hk, hall, hb⟩ := hrel
    have HA : Hid ((L.take k).all (fun y => !ins y x) = true) := hall
    clear hall
    by_cases hlt : k < L.length
    · obtain ⟨b, off, rfl, hbs, hc⟩ := hL.at_ (by omega)
      have hc1 := cell_keep (hc k hlt) hb
      have HT : Hid ((L.take (k + 1)).all (fun y => !ins y x) = ((L.take k).all (fun y => !ins y x) && !ins (nth L k) x)) := all_take_succ (fun y => !ins y x) L k hlt
      have HY : Hid (ins (nth L k) x = true → anyIns L x = true) := fun h => List.any_eq_true.2 ⟨nth L k, List.mem_iff_getElem?.2 ⟨k, nth_eq hlt⟩, h⟩
      clear hc
      generalize nth L k = y at *
      cases hi : ins y x
      · go_wp2_with (first | (go_at_call 89; refine Calls.mono (Ans.eqb (c_inside _ _ _) hi) ?_; rintro e w1 ⟨rfl, hbn⟩; replace hb := bel_to (w := w) (by first | exact hb | exact hb.alloc hb.size _ | exact (hb.alloc hb.size _).alloc (Nat.le_trans hb.size (by simp)) _ | exact hb.setCell (by simp [hb.size]) _) hbn; clear hbn))
        go_roundw
        case rel => exact ⟨k + 1, by go_num, by omega, by rw [HT.out, HA.out, hi]; rfl, hb⟩
        case measure => simp [intOf]; omega
      · go_wp2_with (first | (go_at_call 89; refine Calls.mono (Ans.eqb (c_inside _ _ _) hi) ?_; rintro e w1 ⟨rfl, hbn⟩; replace hb := bel_to (w := w) (by first | exact hb | exact hb.alloc hb.size _ | exact (hb.alloc hb.size _).alloc (Nat.le_trans hb.size (by simp)) _ | exact hb.setCell (by simp [hb.size]) _) hbn; clear hbn))
        go_ret
        exact ⟨ret_bool (HY.out hi).symm, hb⟩
    · have hkk : k = L.length := by omega
      have HS : Hid (anyIns L x = false) := by
        have h := HA.out
        rw [hkk, List.take_length, List.all_eq_true] at h
        show anyIns L x = false
        unfold anyIns
        rw [List.any_eq_false]
        intro y hy
        have := h y hy
        simpa using this
      clear hkk
      go_wp2
      go_ret
      exact ⟨ret_bool HS.out.symm, hb⟩

set_option maxHeartbeats 3200000 in
theorem c_minimalDeps_M (N : Nat) (hN : N ≤ 5) (e0 e1 : Value) (p : Int → Int → Bool) (w : World)
    (hcl : ∀ (W : World) (x r : Int), St x → (0 ≤ r ∧ r < N) → x < 2 ^ N → Below w.heap.size w W → Ans Tryz.prog 70 #[.agg #[.int .i64 x, .int .i64 r], e0, e1] W (.bool (p x r))) :
    Calls Tryz.prog 69 #[.int .i64 N, .func (.func 70) #[] #[e0, e1]] w fun e w' => ∃ v, e = .returned v ∧ OwnD w' w.heap.size v (colsF p (partsF N) N) ∧ Below w.heap.size w w' := by
  obtain ⟨i0, hi, hz0, hz1, hz2⟩ := info_parts info_int
  obtain ⟨j0, hj, hy0, hy1, hy2⟩ := info_parts info_dep
  have hb := (Below.refl w.heap.size w).alloc (Nat.le_refl _) (.cells #[] 38)
  have hO := OwnD.empty w w.heap.size (Nat.le_refl _)
  have hpl := partsF_len N
  have HPS : Hid (∀ x ∈ partsF N, St x ∧ x < 2 ^ N) := fun x hx => by
    have h := (partsF_mem (n := N) (by omega) (by omega)).1 hx
    have h2 := (pow_wrap (n := (N : Int)) (by omega) (by omega)).2.1
    rw [Int.toNat_natCast] at h h2
    exact ⟨⟨h.1, by omega⟩, h.2⟩
  have HCL : Hid (∀ (W : World) (x r : Int), St x → (0 ≤ r ∧ r < N) → x < 2 ^ N → Below w.heap.size w W → Ans Tryz.prog 70 #[.agg #[.int .i64 x, .int .i64 r], e0, e1] W (.bool (p x r))) := hcl
  clear hcl
  go_enter Tryz.func69, Tryz.ntmps69
  go_wp2
  go_loopw [5, 6] (fun v i wr => ∃ r : Nat, i = .int .i64 r ∧ r ≤ N ∧ OwnD wr w.heap.size v (colsF p (partsF N) r) ∧ Below w.heap.size w wr) (fun _ i _ => N - (intOf i).toNat)
  case atStart => exact ⟨0, rfl, Nat.zero_le _, by simpa [colsF] using hO, hb⟩
  case round =>
    clear hO hb
    obtain ⟨r, rfl, hr, hO, hb⟩ := hrel
    have hcl := colsF_len p (partsF N) r
    have hcl2 : (colsF p (partsF N) r).length ≤ 32 * 5 := Nat.le_trans hcl (Nat.mul_le_mul hpl (by omega))
    clear hcl
    by_cases hlt : r < N
    · have HC : Hid (colsF p (partsF N) (r + 1) = colsF p (partsF N) r ++ colF p (partsF N) r) := colsF_succ _ _ _
      have hr64 : 0 ≤ (r : Int) ∧ (r : Int) < 64 := by omega
      have hT := OwnI.empty _ wr.heap.size (Nat.le_refl _)
      have ap_OT := apart_old hO hT
      replace hT := hT.based hb.size
      have hO := World.ownsRow.alloc hO (.cells #[] 3)
      have hb := hb.alloc hb.size (.cells #[] 3)
      go_wp2_with fail
      have oldO := hO
      have oldT := hT
      refine (c_PartsBySize (N : Int) _).mono ?_
      rintro e w2 ⟨v2, rfl, hP, hbn⟩
      have ap_PO := (apart_old oldO hP).symm
      have ap_PT := (apart_old oldT hP).symm
      replace hT := hT.keep hbn
      replace hO := OwnD.keep hO hbn
      replace hP := hP.based hb.size
      replace hb := bel_to hb hbn
      clear oldO oldT hbn
      generalize hPP : partsF N = P at *
      have HPP : Hid (partsF N = P) := hPP
      clear hPP
      generalize colsF p P r = A at *
      obtain ⟨o1, c1, rfl⟩ := hP.shape
      have hPr : P.length ≤ Room := by unfold Room; omega
      have hrN : 0 ≤ (r : Int) ∧ (r : Int) < N := by omega
      go_wp2
      go_loopw [5, 7, 20] (fun vO vT i wr => ∃ k : Nat, i = .int .i64 k ∧ k ≤ P.length ∧ OwnI wr w.heap.size vT (takenF p r (P.take k)) ∧ OwnD wr w.heap.size vO (A ++ colF p (P.take k) r) ∧ OwnI wr w.heap.size (.slice o1 P.length c1) P ∧ Apart vO vT ∧ Apart (.slice o1 P.length c1) vO ∧ Apart (.slice o1 P.length c1) vT ∧ Below w.heap.size w wr) (fun _ _ i _ => P.length - (intOf i).toNat)
      case atStart => exact ⟨0, rfl, Nat.zero_le _, by simpa [takenF] using hT, by simpa [colF, takenF] using hO, hP, ap_OT, ap_PO, ap_PT, hb⟩
      case round =>
        clear hT hO hP ap_OT ap_PO ap_PT hb
        obtain ⟨k, rfl, hk, hT, hO, hP, ap_OT, ap_PO, ap_PT, hb⟩ := hrel
        by_cases hlk : k < P.length
        · obtain ⟨b2, off2, rfl, hbs2, hca⟩ := (hP.ints rfl hPr).at_ (by omega)
          have hc2 := hca k hlk
          have hxs := HPS.out _ (List.mem_iff_getElem?.2 ⟨k, nth_eq hlk⟩)
          have hTl := taken_len p r P k hk
          have hOl : (A ++ colF p (P.take k) r).length ≤ 300 := by
            have h := colF_len p (P.take k) r
            rw [List.length_take] at h
            rw [List.length_append]
            omega
          have HTs : Hid (takenF p r (P.take (k + 1)) = stepM p r (takenF p r (P.take k)) (nth P k)) := taken_succ p r hlk
          have HOs : Hid (A ++ colF p (P.take (k + 1)) r = A ++ (stepM p r (takenF p r (P.take k)) (nth P k)).map fun x => (x, (r : Int))) := by
            show A ++ colF p (P.take (k + 1)) r = A ++ (stepM p r (takenF p r (P.take k)) (nth P k)).map fun x => (x, (r : Int))
            unfold colF; rw [taken_succ p r hlk]
          have HOk : Hid (A ++ colF p (P.take k) r = A ++ (takenF p r (P.take k)).map fun x => (x, (r : Int))) := rfl
          have hst : Hid (St (nth P k)) := hxs.1
          have hx2 := hxs.2
          clear hca hxs
          generalize nth P k = x at *
          generalize takenF p r (P.take k) = T at *
          generalize A ++ colF p (P.take k) r = C at *
          have hTr : T.length ≤ Room := by unfold Room; omega
          obtain ⟨oT, cT, rfl⟩ := hT.shape
          cases h1 : hasc x (r : Int)
          · cases h2 : anyIns T x
            · cases h3 : p x (r : Int)
              · have HM : Hid (stepM p r T x = T) := by show stepM p r T x = T; unfold stepM; rw [h1, h2, h3]; rfl
                go_wp2_with (first | (go_at_call 67; refine Calls.mono (Ans.eqb (c_has _ _ hr64 _) h1) ?_; rintro e w1 ⟨rfl, hbn⟩; replace hT := hT.keep hbn; replace hP := hP.keep hbn; replace hO := hO.keep hbn; replace hb := bel_to (w := w) (by first | exact hb | exact hb.alloc hb.size _ | exact (hb.alloc hb.size _).alloc (Nat.le_trans hb.size (by simp)) _ | exact hb.setCell (by simp [hb.size]) _) hbn; clear hbn) | (go_at_call 102; refine Calls.mono (Ans.eqb (c_hasPart _ _ _ _ _ (hT.ints rfl hTr)) h2) ?_; rintro e w1 ⟨rfl, hbn⟩; replace hT := hT.keep hbn; replace hP := hP.keep hbn; replace hO := hO.keep hbn; replace hb := bel_to (w := w) (by first | exact hb | exact hb.alloc hb.size _ | exact (hb.alloc hb.size _).alloc (Nat.le_trans hb.size (by simp)) _ | exact hb.setCell (by simp [hb.size]) _) hbn; clear hbn) | (go_at_call 70; refine Calls.mono (Ans.eqb (HCL.out _ x (r : Int) hst.out hrN hx2 hb) h3) ?_; rintro e w1 ⟨rfl, hbn⟩; replace hT := hT.keep hbn; replace hP := hP.keep hbn; replace hO := hO.keep hbn; replace hb := bel_to (w := w) (by first | exact hb | exact hb.alloc hb.size _ | exact (hb.alloc hb.size _).alloc (Nat.le_trans hb.size (by simp)) _ | exact hb.setCell (by simp [hb.size]) _) hbn; clear hbn) | fail)
                go_roundw
                case rel => exact ⟨k + 1, by go_num, by omega, by rw [HTs.out, HM.out]; exact hT, by rw [HOs.out, HM.out, ← HOk.out]; exact hO, hP, ap_OT, ap_PO, ap_PT, hb⟩
                case measure => simp [intOf]; omega
              · have HM : Hid (stepM p r T x = T ++ [x]) := by show stepM p r T x = T ++ [x]; unfold stepM; rw [h1, h2, h3]; rfl
                have HOn : Hid (A ++ (T ++ [x]).map (fun x => (x, (r : Int))) = C ++ [(x, (r : Int))]) := by
                  show A ++ (T ++ [x]).map (fun x => (x, (r : Int))) = C ++ [(x, (r : Int))]
                  rw [HOk.out]; simp
                have hq : True := trivial
                go_wp2_with (first | (go_at_call 67; refine Calls.mono (Ans.eqb (c_has _ _ hr64 _) h1) ?_; rintro e w1 ⟨rfl, hbn⟩; replace hT := hT.keep hbn; replace hP := hP.keep hbn; replace hO := hO.keep hbn; replace hb := bel_to (w := w) (by first | exact hb | exact hb.alloc hb.size _ | exact (hb.alloc hb.size _).alloc (Nat.le_trans hb.size (by simp)) _ | exact hb.setCell (by simp [hb.size]) _) hbn; clear hbn) | (go_at_call 102; refine Calls.mono (Ans.eqb (c_hasPart _ _ _ _ _ (hT.ints rfl hTr)) h2) ?_; rintro e w1 ⟨rfl, hbn⟩; replace hT := hT.keep hbn; replace hP := hP.keep hbn; replace hO := hO.keep hbn; replace hb := bel_to (w := w) (by first | exact hb | exact hb.alloc hb.size _ | exact (hb.alloc hb.size _).alloc (Nat.le_trans hb.size (by simp)) _ | exact hb.setCell (by simp [hb.size]) _) hbn; clear hbn) | (go_at_call 70; refine Calls.mono (Ans.eqb (HCL.out _ x (r : Int) hst.out hrN hx2 hb) h3) ?_; rintro e w1 ⟨rfl, hbn⟩; replace hT := hT.keep hbn; replace hP := hP.keep hbn; replace hO := hO.keep hbn; replace hb := bel_to (w := w) (by first | exact hb | exact hb.alloc hb.size _ | exact (hb.alloc hb.size _).alloc (Nat.le_trans hb.size (by simp)) _ | exact hb.setCell (by simp [hb.size]) _) hbn; clear hbn) | (clear hq; at_builtin; refine wpList_append_fresh rfl _ _ 50 rfl w.heap.size 3 i0 (.int .i64 0) 1 8 Tryz.underlying50 hi hz0 hz1 hz2 rfl (by decide) _ _ _ rfl (World.ownsRow.alloc hT _) _ 1 1 [.int .i64 x] rfl rfl (by intro j u hj; match j, hj with | 0, hj => simp at hj; subst hj; simp [Addr.add]) (by intro u hu; simp at hu; subst hu; rfl) (by unfold maxLen; omega) (by omega) (by have := hb.size; simp; omega) ?_; intro v' w1 hown hgrow hfr; replace hb := (hb.alloc hb.size _).grown hgrow (by have := hb.size; simp; omega) (fun g hg => (World.ownsRow.lt hT g hg).1); obtain ⟨hP, ap_PT⟩ := OwnI.past hP hgrow ap_PT hfr; obtain ⟨hO, ap_OT⟩ := OwnD.past hO hgrow ap_OT hfr; replace hT := OwnI.snoc hown; clear hown hgrow hfr) | (at_builtin; refine wpList_append_fresh rfl _ _ 27 rfl w.heap.size 38 j0 (.agg #[.int .i64 0, .int .i64 0]) 2 16 Tryz.underlying27 hj hy0 hy1 hy2 rfl (by decide) _ _ _ rfl (World.ownsRow.alloc hO _) _ 1 1 [.int .i64 x, .int .i64 (r : Int)] rfl rfl (World.news_of_block (cs := #[.int .i64 x, .int .i64 (r : Int)]) (t := 38) (fr := (0, 0)) (heap_alloc_new _ _)) (by intro u hu; simp at hu; rcases hu with rfl | rfl <;> rfl) (by unfold maxLen; omega) (by omega) (by have := hb.size; simp; omega) ?_; intro v' w1 hown hgrow hfr; replace hb := (hb.alloc hb.size _).grown hgrow (by have := hb.size; simp; omega) (fun g hg => (World.ownsRow.lt hO g hg).1); obtain ⟨hP, ap_PO⟩ := OwnI.past hP hgrow ap_PO hfr; obtain ⟨hT, ap_TO⟩ := OwnI.past hT hgrow ap_OT.symm hfr; have ap_OT := ap_TO.symm; clear ap_TO; replace hO := own_snocD hown; clear hown hgrow hfr) | fail)
                go_roundw
                case rel => exact ⟨k + 1, by go_num, by omega, by rw [HTs.out, HM.out]; exact hT, by rw [HOs.out, HM.out, HOn.out]; exact hO, hP, ap_OT, ap_PO, ap_PT, hb⟩
                case measure => simp [intOf]; omega
            · have HM : Hid (stepM p r T x = T) := by show stepM p r T x = T; unfold stepM; rw [h1, h2]; rfl
              go_wp2_with (first | (go_at_call 67; refine Calls.mono (Ans.eqb (c_has _ _ hr64 _) h1) ?_; rintro e w1 ⟨rfl, hbn⟩; replace hT := hT.keep hbn; replace hP := hP.keep hbn; replace hO := hO.keep hbn; replace hb := bel_to (w := w) (by first | exact hb | exact hb.alloc hb.size _ | exact (hb.alloc hb.size _).alloc (Nat.le_trans hb.size (by simp)) _ | exact hb.setCell (by simp [hb.size]) _) hbn; clear hbn) | (go_at_call 102; refine Calls.mono (Ans.eqb (c_hasPart _ _ _ _ _ (hT.ints rfl hTr)) h2) ?_; rintro e w1 ⟨rfl, hbn⟩; replace hT := hT.keep hbn; replace hP := hP.keep hbn; replace hO := hO.keep hbn; replace hb := bel_to (w := w) (by first | exact hb | exact hb.alloc hb.size _ | exact (hb.alloc hb.size _).alloc (Nat.le_trans hb.size (by simp)) _ | exact hb.setCell (by simp [hb.size]) _) hbn; clear hbn) | (go_at_call 70; refine Calls.mono (Ans.eqb (HCL.out _ x (r : Int) hst.out hrN hx2 hb) h3) ?_; rintro e w1 ⟨rfl, hbn⟩; replace hT := hT.keep hbn; replace hP := hP.keep hbn; replace hO := hO.keep hbn; replace hb := bel_to (w := w) (by first | exact hb | exact hb.alloc hb.size _ | exact (hb.alloc hb.size _).alloc (Nat.le_trans hb.size (by simp)) _ | exact hb.setCell (by simp [hb.size]) _) hbn; clear hbn) | fail)
              go_roundw
              case rel => exact ⟨k + 1, by go_num, by omega, by rw [HTs.out, HM.out]; exact hT, by rw [HOs.out, HM.out, ← HOk.out]; exact hO, hP, ap_OT, ap_PO, ap_PT, hb⟩
              case measure => simp [intOf]; omega
          · have HM : Hid (stepM p r T x = T) := by show stepM p r T x = T; unfold stepM; rw [h1]; rfl
            go_wp2_with (first | (go_at_call 67; refine Calls.mono (Ans.eqb (c_has _ _ hr64 _) h1) ?_; rintro e w1 ⟨rfl, hbn⟩; replace hT := hT.keep hbn; replace hP := hP.keep hbn; replace hO := hO.keep hbn; replace hb := bel_to (w := w) (by first | exact hb | exact hb.alloc hb.size _ | exact (hb.alloc hb.size _).alloc (Nat.le_trans hb.size (by simp)) _ | exact hb.setCell (by simp [hb.size]) _) hbn; clear hbn) | (go_at_call 102; refine Calls.mono (Ans.eqb (c_hasPart _ _ _ _ _ (hT.ints rfl hTr)) h2) ?_; rintro e w1 ⟨rfl, hbn⟩; replace hT := hT.keep hbn; replace hP := hP.keep hbn; replace hO := hO.keep hbn; replace hb := bel_to (w := w) (by first | exact hb | exact hb.alloc hb.size _ | exact (hb.alloc hb.size _).alloc (Nat.le_trans hb.size (by simp)) _ | exact hb.setCell (by simp [hb.size]) _) hbn; clear hbn) | (go_at_call 70; refine Calls.mono (Ans.eqb (HCL.out _ x (r : Int) hst.out hrN hx2 hb) h3) ?_; rintro e w1 ⟨rfl, hbn⟩; replace hT := hT.keep hbn; replace hP := hP.keep hbn; replace hO := hO.keep hbn; replace hb := bel_to (w := w) (by first | exact hb | exact hb.alloc hb.size _ | exact (hb.alloc hb.size _).alloc (Nat.le_trans hb.size (by simp)) _ | exact hb.setCell (by simp [hb.size]) _) hbn; clear hbn) | fail)
            go_roundw
            case rel => exact ⟨k + 1, by go_num, by omega, by rw [HTs.out, HM.out]; exact hT, by rw [HOs.out, HM.out, ← HOk.out]; exact hO, hP, ap_OT, ap_PO, ap_PT, hb⟩
            case measure => simp [intOf]; omega
        · have hkk : k = P.length := by omega
          have HE : Hid (colsF p (partsF N) (r + 1) = A ++ colF p (P.take k) r) := by
            show colsF p (partsF N) (r + 1) = A ++ colF p (P.take k) r
            rw [HPP.out, HC.out, hkk, List.take_length]
          clear hkk
          go_wp2
          go_roundw
          case rel => exact ⟨r + 1, by go_num, by omega, by rw [HE.out]; exact hO, hb⟩
          case measure => simp [intOf]; omega
    · have hrr : r = N := by omega
      have HE : Hid (colsF p (partsF N) r = colsF p (partsF N) N) := by show colsF p (partsF N) r = colsF p (partsF N) N; rw [hrr]
      clear hrr
      go_wp2
      go_ret
      exact ⟨_, rfl, by rw [← HE.out]; exact hO, hb⟩
end Go.Proofs.YtcenndlbhgfdfaaGreat
namespace Go.Proofs.YtcenndlbhgfdfaaGreat
open Go.RowKit
set_option linter.unusedVariables false
set_option maxRecDepth 100000

def keyI (x : Int) : Int := (card x : Int) * 32 + x
theorem keyI_fin : ∀ x : Fin 32, keyI (x.val : Int) = keyS x := by decide +kernel
theorem parts_up {N : Nat} (hN : N ≤ 5) : Up ((partsF N).map keyI) := by
  unfold partsF
  rw [if_pos ⟨by omega, by omega⟩, Int.toNat_natCast]
  have h := sortS_up (finsB_nodup N (by omega))
  unfold valS
  rw [List.map_map]
  have e : (keyI ∘ fun (x : Fin 32) => (x.val : Int)) = keyS := funext keyI_fin
  rw [e]
  exact h
theorem up_index {P : List Int} {f : Int → Int} (h : Up (P.map f)) {k : Nat} (hk : k < P.length) : (∀ z ∈ P, f z < f (nth P k) → z ∈ P.take k) ∧ ∀ y ∈ P.take k, f y < f (nth P k) := by
  unfold Up at h
  rw [List.pairwise_map, List.pairwise_iff_getElem] at h
  have ek : P[k] = nth P k := by have := nth_eq hk; rw [List.getElem?_eq_getElem hk] at this; injection this
  constructor
  · intro z hz hlt
    obtain ⟨j, hj, e⟩ := List.mem_iff_getElem.1 hz
    rcases Nat.lt_or_ge j k with h' | h'
    · exact List.mem_iff_getElem.2 ⟨j, by rw [List.length_take]; omega, by rw [List.getElem_take]; exact e⟩
    · exfalso
      rcases Nat.lt_or_ge k j with h'' | h''
      · have := h k j hk hj h''
        rw [ek, e] at this
        omega
      · have : j = k := by omega
        subst this
        rw [ek] at e
        rw [e] at hlt
        omega
  · intro y hy
    obtain ⟨j, hj, e⟩ := List.mem_iff_getElem.1 hy
    rw [List.length_take] at hj
    rw [List.getElem_take] at e
    have := h j k (by omega) hk (by omega)
    rw [e, ek] at this
    exact this
theorem viol_down {R : List (List Int)} {m r x y : Int} {i k : Nat} (hx : St x) (hy : St y) (hA : (row R i).length ≤ 5) (hi : ins x y = true) (h : violF R m y r i k = true) : violF R m x r i k = true := by
  unfold violF at h ⊢
  simp only [Bool.and_eq_true] at h ⊢
  exact ⟨ins_trans hx hy (agreeF_st hA) hi h.1, h.2⟩
theorem holds_up {R : List (List Int)} {m r x y : Int} (hR : ∀ i, i < R.length → (row R i).length ≤ 5) (hx : St x) (hy : St y) (hi : ins x y = true) (h : holdsF R m x r = true) : holdsF R m y r = true := by
  unfold holdsF at h ⊢
  rw [decide_eq_true_eq] at h ⊢
  intro i hil k hk hik
  cases hv : violF R m y r i k
  · rfl
  · have := viol_down (k := k) hx hy (hR i hil) hi hv
    rw [h i hil k hk hik] at this
    cases this
theorem le_of_ins {x y : Int} (hx : St x) (hy : St y) (h : ins x y = true) : x ≤ y := by
  obtain ⟨n, hn, rfl⟩ := st_nat hx; obtain ⟨k, hk, rfl⟩ := st_nat hy
  have h' : ∀ n < 32, ∀ k < 32, ins ((n : Nat) : Int) ((k : Nat) : Int) = true → n ≤ k := by decide +kernel
  have := h' n hn k hk h
  omega
theorem ins_dif {y x c : Int} (hy : St y) (hx : St x) (hc : Co c) (h : ins y x = true) (hn : hasc y c = false) : ins y (dif x (one c)) = true :=
  (ins_iff hy (dif_st hx (one_st hc))).2 fun d hd hyd => by
    rw [hasc_dif hx (one_st hc) hd, hasc_one hc hd, (ins_iff hy hx).1 h d hd hyd]
    have : c ≠ d := fun e => by subst e; rw [hn] at hyd; cases hyd
    simp [this]
theorem dif_ins {x c : Int} (hx : St x) (hc : Co c) : ins (dif x (one c)) x = true :=
  (ins_iff (dif_st hx (one_st hc)) hx).2 fun d hd h => by
    rw [hasc_dif hx (one_st hc) hd] at h
    simp only [Bool.and_eq_true] at h
    exact h.1
theorem dif_not {x c : Int} (hx : St x) (hc : Co c) : hasc (dif x (one c)) c = false := by
  rw [hasc_dif hx (one_st hc) hc, hasc_one hc hc]; simp
theorem lacks {x y : Int} (hx : St x) (hy : St y) (h : ins y x = true) (hne : y ≠ x) : ∃ c, Co c ∧ hasc x c = true ∧ hasc y c = false := by
  refine Classical.byContradiction fun hn => hne (set_ext hy hx fun c hc => ?_)
  cases e : hasc x c
  · cases e' : hasc y c
    · rfl
    · rw [(ins_iff hy hx).1 h c hc e'] at e; cases e
  · cases e' : hasc y c
    · exact absurd ⟨c, hc, e, e'⟩ hn
    · rfl
theorem taken_filter {N : Nat} {R : List (List Int)} {m r : Int} (hN : N ≤ 5) (hR : ∀ i, i < R.length → (row R i).length ≤ 5) (hr : 0 ≤ r ∧ r < 5) :
    ∀ k, k ≤ (partsF N).length → takenF (fun x r => holdsF R m x r) r ((partsF N).take k) = ((partsF N).take k).filter fun x => l7F N R m x r
  | 0, _ => by simp [takenF]
  | k + 1, hk => by
    have hlt : k < (partsF N).length := by omega
    rw [taken_succ _ _ hlt, taken_filter hN hR hr k (by omega), filter_take_succ _ _ _ hlt]
    have hup := up_index (parts_up hN) hlt
    have hxm : nth (partsF N) k ∈ partsF N := List.mem_iff_getElem?.2 ⟨k, nth_eq hlt⟩
    generalize nth (partsF N) k = x at *
    have hpm : ∀ z, z ∈ partsF N ↔ 0 ≤ z ∧ z < 2 ^ N := fun z => by
      have := partsF_mem (n := (N : Int)) (by omega) (by omega) (x := z)
      rw [Int.toNat_natCast] at this
      exact this
    have h32 := (pow_wrap (n := (N : Int)) (by omega) (by omega)).2.1
    rw [Int.toNat_natCast] at h32
    have hxr := (hpm x).1 hxm
    have sx : St x := ⟨hxr.1, by omega⟩
    have key : ((!hasc x r && !anyIns (((partsF N).take k).filter fun x => l7F N R m x r) x) && holdsF R m x r) = l7F N R m x r := by
      have hmb : membersUpTo x N = membersF x := by
        have := members_below (n := (N : Int)) (by omega) (by omega) hxr.1 (by rw [Int.toNat_natCast]; exact hxr.2)
        rw [Int.toNat_natCast] at this
        exact this
      rw [Bool.eq_iff_iff]
      generalize hTl : ((partsF N).take k).filter (fun x => l7F N R m x r) = Tl
      unfold l7F
      rw [Int.toNat_natCast, hmb]
      simp only [Bool.and_eq_true, Bool.not_eq_true', List.all_eq_true]
      constructor
      · rintro ⟨⟨h1, h2⟩, h3⟩
        refine ⟨h1, h3, fun c hc => ?_⟩
        obtain ⟨cc, ch⟩ := members_co c hc
        cases hd : holdsF R m (dif x (one c)) r
        · rfl
        · exfalso
          have sd := dif_st sx (one_st cc)
          obtain ⟨z, hz, hzi⟩ := exists_min (p := fun y => holdsF R m y r) (card (dif x (one c))) (dif x (one c)) (Nat.le_refl _) sd hd
          obtain ⟨sz, pz, mz⟩ := minL_mem.1 hz
          have hzx := ins_trans sz sd sx hzi (dif_ins sx cc)
          have hzr : hasc z r = false := by
            cases e : hasc z r
            · rfl
            · rw [(ins_iff sz sx).1 hzx r hr e] at h1; cases h1
          have hne : z ≠ x := fun e => by
            subst e
            have := (ins_iff sz sd).1 hzi c cc ch
            rw [dif_not sz cc] at this; cases this
          have hzl := le_of_ins sz sx hzx
          have hzm : z ∈ partsF N := (hpm z).2 ⟨sz.1, by omega⟩
          have hcard := card_lt sz sx hzx hne
          have hzt := hup.1 z hzm (by unfold keyI; omega)
          have hz7 : l7F N R m z r = true := by
            have hmz : membersUpTo z N = membersF z := by
              have := members_below (n := (N : Int)) (by omega) (by omega) sz.1 (by rw [Int.toNat_natCast]; omega)
              rw [Int.toNat_natCast] at this
              exact this
            unfold l7F
            rw [Int.toNat_natCast, hmz]
            simp only [Bool.and_eq_true, Bool.not_eq_true', List.all_eq_true]
            refine ⟨hzr, pz, fun c' hc' => ?_⟩
            obtain ⟨cc', ch'⟩ := members_co c' hc'
            cases hd' : holdsF R m (dif z (one c')) r
            · rfl
            · exfalso
              have := mz _ (dif_st sz (one_st cc')) hd' (dif_ins sz cc')
              have h4 := dif_not sz cc'
              rw [this, ch'] at h4; cases h4
          have : anyIns Tl x = true := List.any_eq_true.2 ⟨z, by rw [← hTl]; exact List.mem_filter.2 ⟨hzt, hz7⟩, hzx⟩
          rw [this] at h2; cases h2
      · rintro ⟨h1, h3, h4⟩
        refine ⟨⟨h1, ?_⟩, h3⟩
        cases ha : anyIns Tl x
        · rfl
        · exfalso
          obtain ⟨y, hy, hyx⟩ := List.any_eq_true.1 ha
          rw [← hTl] at hy
          obtain ⟨hyt, hy7⟩ := List.mem_filter.1 hy
          have hyr := (hpm y).1 (List.mem_of_mem_take hyt)
          have sy : St y := ⟨hyr.1, by omega⟩
          have hlt2 := hup.2 y hyt
          have hne : y ≠ x := fun e => by subst e; omega
          obtain ⟨c, cc, cx, cy⟩ := lacks sx sy hyx hne
          have hpy : holdsF R m y r = true := by
            unfold l7F at hy7
            simp only [Bool.and_eq_true] at hy7
            exact hy7.2.1
          have := holds_up hR sy (dif_st sx (one_st cc)) (ins_dif sy sx cc hyx cy) hpy
          rw [h4 c (membersT_mem sx cc cx)] at this
          cases this
    unfold stepM
    rw [key]
    split
    · rfl
    · simp
def minDepsF (n : Int) (R : List (List Int)) (m : Int) : List (Int × Int) := if isTabF n R && modeF m then colsF (fun x r => holdsF R m x r) (partsF n) n.toNat else []
def colG (n : Int) (R : List (List Int)) (m : Int) (L : List Int) (r : Int) : List (Int × Int) := (L.filter fun x => l7F n R m x r).map fun x => (x, r)
def colsG (n : Int) (R : List (List Int)) (m : Int) (k : Nat) : List (Int × Int) := (List.range k).flatMap fun (r : Nat) => colG n R m (partsF n) (r : Int)
theorem colsG_succ (n : Int) (R : List (List Int)) (m : Int) (k : Nat) : colsG n R m (k + 1) = colsG n R m k ++ colG n R m (partsF n) k := by unfold colsG; rw [List.range_succ, List.flatMap_append]; simp
theorem cols_same {N : Nat} {R : List (List Int)} {m : Int} (hN : N ≤ 5) (hR : ∀ i, i < R.length → (row R i).length ≤ 5) : ∀ k, k ≤ N → colsF (fun x r => holdsF R m x r) (partsF N) k = colsG N R m k
  | 0, _ => by simp [colsF, colsG]
  | k + 1, hk => by
    rw [colsF_succ, colsG_succ, cols_same hN hR k (by omega)]
    congr 1
    unfold colF colG
    have h := taken_filter (m := m) (r := (k : Int)) hN hR (by omega) (partsF N).length (Nat.le_refl _)
    rw [List.take_length] at h
    rw [h]
theorem minDeps_len (n : Int) (R : List (List Int)) (m : Int) : (minDepsF n R m).length ≤ Room := by
  unfold minDepsF
  split
  · next h =>
    simp only [Bool.and_eq_true] at h
    obtain ⟨h1, h5, _, _⟩ := isTab_of h.1
    have a := colsF_len (fun x r => holdsF R m x r) (partsF n) n.toNat
    have b := partsF_len n
    have c : (partsF n).length * n.toNat ≤ 32 * 5 := Nat.mul_le_mul b (by omega)
    unfold Room; omega
  · simp
end Go.Proofs.YtcenndlbhgfdfaaGreat
namespace Go.Proofs.YtcenndlbhgfdfaaGreat
open Go.RowKit
set_option linter.unusedVariables false
set_option maxRecDepth 100000

def sameB (R : List (List Int)) (m s : Int) (i k : Nat) : Bool := ins s (agreeF m (row R i) (row R k))
def tkQ (q : Nat → Nat → Bool) (i k : Nat) : Bool := (List.range i).any fun j => decide (j < k) && q j k
def clsTo (q : Nat → Nat → Bool) (i t : Nat) : List Int := (i : Int) :: (((List.range t).filter fun k => decide (i < k) && q i k).map fun (k : Nat) => (k : Int))
def headQ (q : Nat → Nat → Bool) (N j : Nat) : Bool := !tkQ q j j && decide (1 < (clsTo q j N).length)
def ptnQ (q : Nat → Nat → Bool) (N i : Nat) : List (List Int) := ((List.range i).filter (headQ q N)).map fun j => clsTo q j N
/-- What lies in one class with the same row lies in one class. -/
structure Per (q : Nat → Nat → Bool) (N : Nat) : Prop where
  tr : ∀ i j k, i < N → j < N → q i j = true → q j k = true → q i k = true
  eu : ∀ i j k, i < N → j < N → q j k = true → q i k = true → q j i = true
def ptnOk (n : Int) (R : List (List Int)) (m s : Int) : Bool := (isTabF n R && modeF m) && isAttr n s
def ptnF (n : Int) (R : List (List Int)) (m s : Int) : List (List Int) := if ptnOk n R m s then ptnQ (sameB R m s) R.length R.length else []

theorem eqCell_iff {m a b : Int} : eqCellF m a b = true ↔ modeF m = true ∧ a = b ∧ (m = 0 ∨ a ≠ -1) := by
  unfold eqCellF; simp
theorem eqCell_trans {m a b c : Int} (h : eqCellF m a b = true) (k : eqCellF m b c = true) : eqCellF m a c = true := by
  rw [eqCell_iff] at *
  obtain ⟨h1, rfl, h3⟩ := h
  exact ⟨h1, k.2.1, h3⟩
theorem eqCell_symm {m a b : Int} (h : eqCellF m a b = true) : eqCellF m b a = true := by
  rw [eqCell_iff] at *
  obtain ⟨h1, rfl, h3⟩ := h
  exact ⟨h1, rfl, h3⟩
theorem eqCell_euc {m a b c : Int} (h : eqCellF m a b = true) (k : eqCellF m c b = true) : eqCellF m a c = true := eqCell_trans h (eqCell_symm k)
theorem hasc_agreeTo {m : Int} {A B : List Int} {c : Int} (hc : Co c) : ∀ k, k ≤ 5 → hasc ((List.range k).foldl (agreeStep m A B) 0) c = (decide (c.toNat < k) && eqCellF m (nth A c.toNat) (nth B c.toNat))
  | 0, _ => by
    obtain ⟨j, hj, rfl⟩ := co_nat hc
    have h : ∀ j < 5, hasc 0 ((j : Nat) : Int) = false := by decide +kernel
    simp [h j hj]
  | k + 1, hk => by
    have ih := hasc_agreeTo (m := m) (A := A) (B := B) hc k (by omega)
    have hst : ∀ k, k ≤ 5 → St ((List.range k).foldl (agreeStep m A B) 0) := by
      intro k
      induction k with
      | zero => intro _; exact ⟨by simp, by simp⟩
      | succ k ih => intro hk; rw [range_succ_fold]; exact agreeStep_st (ih (by omega)) (by omega)
    rw [range_succ_fold]
    generalize hx : (List.range k).foldl (agreeStep m A B) 0 = x at *
    have hs : St x := by rw [← hx]; exact hst k (by omega)
    have hck : Co (k : Int) := ⟨by omega, by omega⟩
    have hc0 := hc.1
    unfold agreeStep
    by_cases e : c.toNat = k
    · have ec : c = (k : Int) := by omega
      subst ec
      cases he : eqCellF m (nth A k) (nth B k)
      · simp [ih, he]
      · simp only [if_true]
        rw [hasc_uni hs (one_st hck) hck, hasc_one hck hck]
        simp [he]
    · have e1 : decide (c.toNat < k + 1) = decide (c.toNat < k) := by rw [decide_eq_decide]; omega
      rw [e1, ← ih]
      split
      · rw [hasc_uni hs (one_st hck) hc, hasc_one hck hc]
        have : ((k : Int) == c) = false := by simp; omega
        rw [this, Bool.or_false]
      · rfl
theorem hasc_agree {m : Int} {A B : List Int} {c : Int} (hc : Co c) (h : A.length ≤ 5) : hasc (agreeF m A B) c = (decide (c.toNat < A.length) && eqCellF m (nth A c.toNat) (nth B c.toNat)) := hasc_agreeTo hc _ h
theorem same_iff {n : Int} {R : List (List Int)} {m s : Int} {i k : Nat} (ht : isTabF n R = true) (hs : St s) (hi : i < R.length) :
    sameB R m s i k = true ↔ ∀ c, Co c → hasc s c = true → c.toNat < n.toNat ∧ eqCellF m (nth (row R i) c.toNat) (nth (row R k) c.toNat) = true := by
  obtain ⟨hn1, hn5, _, hl⟩ := isTab_of ht
  have li := hl i hi
  have hA : (row R i).length ≤ 5 := by omega
  unfold sameB
  rw [ins_iff hs (agreeF_st hA)]
  refine ⟨fun h c hc h1 => ?_, fun h c hc h1 => ?_⟩
  · have h2 := h c hc h1
    rw [hasc_agree hc hA] at h2
    simp only [Bool.and_eq_true, decide_eq_true_eq] at h2
    exact ⟨by omega, h2.2⟩
  · obtain ⟨h2, h3⟩ := h c hc h1
    rw [hasc_agree hc hA, h3, decide_eq_true (show c.toNat < (row R i).length by omega)]; rfl
theorem same_trans {n : Int} {R : List (List Int)} {m s : Int} {i j k : Nat} (ht : isTabF n R = true) (hs : St s) (hi : i < R.length) (hj : j < R.length) (h1 : sameB R m s i j = true) (h2 : sameB R m s j k = true) : sameB R m s i k = true := by
  have q1 := (same_iff ht hs hi).1 h1
  have q2 := (same_iff ht hs hj).1 h2
  refine (same_iff ht hs hi).2 fun c hc h => ?_
  exact ⟨(q1 c hc h).1, eqCell_trans (q1 c hc h).2 (q2 c hc h).2⟩
theorem same_euc {n : Int} {R : List (List Int)} {m s : Int} {i j k : Nat} (ht : isTabF n R = true) (hs : St s) (hi : i < R.length) (hj : j < R.length) (h1 : sameB R m s j k = true) (h2 : sameB R m s i k = true) : sameB R m s j i = true := by
  have q1 := (same_iff ht hs hj).1 h1
  have q2 := (same_iff ht hs hi).1 h2
  refine (same_iff ht hs hj).2 fun c hc h => ?_
  exact ⟨(q1 c hc h).1, eqCell_euc (q1 c hc h).2 (q2 c hc h).2⟩
theorem same_per {n : Int} {R : List (List Int)} {m s : Int} (ht : isTabF n R = true) (hs : St s) : Per (sameB R m s) R.length :=
  ⟨fun _ _ _ hi hj => same_trans ht hs hi hj, fun _ _ _ hi hj => same_euc ht hs hi hj⟩
theorem tk_succ (q : Nat → Nat → Bool) (i k : Nat) : tkQ q (i + 1) k = (tkQ q i k || (decide (i < k) && q i k)) := by
  unfold tkQ; rw [List.range_succ, List.any_append]; simp
theorem tk_iff {q : Nat → Nat → Bool} {i k : Nat} : tkQ q i k = true ↔ ∃ j, j < i ∧ j < k ∧ q j k = true := by
  unfold tkQ
  rw [List.any_eq_true]
  simp only [List.mem_range, Bool.and_eq_true, decide_eq_true_eq]
theorem tk_taken {q : Nat → Nat → Bool} {N i : Nat} (hp : Per q N) (hi : i < N) (h : tkQ q i i = true) (k : Nat) : tkQ q (i + 1) k = tkQ q i k := by
  rw [tk_succ]
  cases e : (decide (i < k) && q i k)
  · simp
  · simp only [Bool.and_eq_true, decide_eq_true_eq] at e
    obtain ⟨j, hj, _, h1⟩ := tk_iff.1 h
    have : tkQ q i k = true := tk_iff.2 ⟨j, hj, by omega, hp.tr _ _ _ (by omega) hi h1 e.2⟩
    rw [this]; rfl
theorem tk_free {q : Nat → Nat → Bool} {N i k : Nat} (hp : Per q N) (hi : i < N) (h : tkQ q i i = false) (hk : q i k = true) : tkQ q i k = false := by
  cases e : tkQ q i k
  · rfl
  · obtain ⟨j, hj, _, h1⟩ := tk_iff.1 e
    have : tkQ q i i = true := tk_iff.2 ⟨j, hj, hj, hp.eu _ _ _ hi (by omega) h1 hk⟩
    rw [h] at this; cases this
theorem cls_succ (q : Nat → Nat → Bool) (i t : Nat) : clsTo q i (t + 1) = clsTo q i t ++ (if decide (i < t) && q i t then [(t : Int)] else []) := by
  unfold clsTo
  rw [List.range_succ, List.filter_append, List.map_append, List.cons_append]
  congr 2
  cases h : (decide (i < t) && q i t) <;> simp [h]
theorem cls_first (q : Nat → Nat → Bool) (i : Nat) : clsTo q i (i + 1) = [(i : Int)] := by
  unfold clsTo
  have : (List.range (i + 1)).filter (fun k => decide (i < k) && q i k) = [] := by
    rw [List.filter_eq_nil_iff]
    intro k hk
    have := List.mem_range.1 hk
    rw [decide_eq_false (show ¬ i < k by omega)]; simp
  rw [this]; rfl
theorem cls_len (q : Nat → Nat → Bool) (i t : Nat) : (clsTo q i t).length ≤ t + 1 := by
  unfold clsTo
  rw [List.length_cons, List.length_map]
  have := List.length_filter_le (fun k => decide (i < k) && q i k) (List.range t)
  rw [List.length_range] at this
  omega
theorem cls_mem {q : Nat → Nat → Bool} {i t : Nat} {x : Int} : x ∈ clsTo q i t ↔ x = i ∨ ∃ k : Nat, x = k ∧ k < t ∧ i < k ∧ q i k = true := by
  unfold clsTo
  rw [List.mem_cons, List.mem_map]
  simp only [List.mem_filter, List.mem_range, Bool.and_eq_true, decide_eq_true_eq]
  constructor
  · rintro (h | ⟨k, ⟨h1, h2, h3⟩, rfl⟩)
    · exact .inl h
    · exact .inr ⟨k, rfl, h1, h2, h3⟩
  · rintro (h | ⟨k, rfl, h1, h2, h3⟩)
    · exact .inl h
    · exact .inr ⟨k, ⟨h1, h2, h3⟩, rfl⟩
theorem ptn_succ (q : Nat → Nat → Bool) (N i : Nat) : ptnQ q N (i + 1) = ptnQ q N i ++ (if headQ q N i then [clsTo q i N] else []) := by
  unfold ptnQ
  rw [List.range_succ, List.filter_append, List.map_append]
  cases h : headQ q N i <;> simp [h]
theorem ptn_len (q : Nat → Nat → Bool) (N i : Nat) : (ptnQ q N i).length ≤ i := by
  unfold ptnQ
  rw [List.length_map]
  have := List.length_filter_le (headQ q N) (List.range i)
  rw [List.length_range] at this
  omega
theorem ptn_mem {q : Nat → Nat → Bool} {N i : Nat} {C : List Int} : C ∈ ptnQ q N i ↔ ∃ j, j < i ∧ headQ q N j = true ∧ C = clsTo q j N := by
  unfold ptnQ
  rw [List.mem_map]
  simp only [List.mem_filter, List.mem_range]
  constructor
  · rintro ⟨j, ⟨h1, h2⟩, rfl⟩; exact ⟨j, h1, h2, rfl⟩
  · rintro ⟨j, h1, h2, rfl⟩; exact ⟨j, ⟨h1, h2⟩, rfl⟩
theorem ptn_row {q : Nat → Nat → Bool} {N i j : Nat} (hj : j < (ptnQ q N i).length) : (row (ptnQ q N i) j).length ≤ N + 1 := by
  obtain ⟨k, _, _, e⟩ := ptn_mem.1 (row_mem hj)
  rw [e]; exact cls_len ..
theorem ptn_flat {q : Nat → Nat → Bool} {N : Nat} (hp : Per q N) {i k : Nat} (hik : i ≤ k) (hk : k < N) : (k : Int) ∈ (ptnQ q N i).flatten ↔ tkQ q i k = true := by
  rw [List.mem_flatten]
  constructor
  · rintro ⟨C, hC, hx⟩
    obtain ⟨j, hj, _, rfl⟩ := ptn_mem.1 hC
    rcases cls_mem.1 hx with e | ⟨t, e, _, h2, h3⟩
    · omega
    · have : t = k := by omega
      subst this
      exact tk_iff.2 ⟨j, hj, h2, h3⟩
  · intro h
    have hex : ∃ j, j < i ∧ j < k ∧ q j k = true := tk_iff.1 h
    have hmin : ∃ j, (j < i ∧ j < k ∧ q j k = true) ∧ ∀ t, t < j → ¬ (t < i ∧ t < k ∧ q t k = true) := by
      obtain ⟨j, hj⟩ := hex
      induction j using Nat.strongRecOn with
      | _ j ih =>
        by_cases hq : ∃ t, t < j ∧ (t < i ∧ t < k ∧ q t k = true)
        · obtain ⟨t, h1, h2⟩ := hq; exact ih t h1 h2
        · exact ⟨j, hj, fun t h1 h2 => hq ⟨t, h1, h2⟩⟩
    obtain ⟨j, ⟨h1, h2, h3⟩, hlow⟩ := hmin
    have hm : (k : Int) ∈ clsTo q j N := cls_mem.2 (.inr ⟨k, rfl, hk, h2, h3⟩)
    refine ⟨clsTo q j N, ptn_mem.2 ⟨j, h1, ?_, rfl⟩, hm⟩
    unfold headQ
    have e1 : tkQ q j j = false := by
      cases e : tkQ q j j
      · rfl
      · obtain ⟨t, h4, _, h5⟩ := tk_iff.1 e
        exact absurd ⟨by omega, by omega, hp.tr _ _ _ (by omega) (by omega) h5 h3⟩ (hlow t h4)
    rw [e1]
    have : 1 < (clsTo q j N).length := by
      have hm2 := hm
      unfold clsTo at hm2 ⊢
      rw [List.mem_cons] at hm2
      rcases hm2 with e | hm2
      · omega
      · rw [List.length_cons]
        have := List.length_pos_of_mem hm2
        omega
    simp [this]
theorem flat_len {q : Nat → Nat → Bool} {N : Nat} (hN : N ≤ 40) (i : Nat) : ((ptnQ q N i).flatten).length ≤ 41 * i := by
  induction i with
  | zero => simp [ptnQ]
  | succ i ih =>
    rw [ptn_succ, List.flatten_append, List.length_append]
    have h2 := cls_len q i N
    have h3 : ((if headQ q N i then [clsTo q i N] else []).flatten).length ≤ 41 := by
      split
      · simp only [List.flatten_cons, List.flatten_nil, List.append_nil]; omega
      · simp
    omega
end Go.Proofs.YtcenndlbhgfdfaaGreat
namespace Go.Proofs.YtcenndlbhgfdfaaGreat
open Go.RowKit
set_option linter.unusedVariables false
set_option maxRecDepth 100000

def cellF (R : List (List Int)) (x r : Int) : Int := nth (row R x.toNat) r.toNat
def pairB (R : List (List Int)) (m r : Int) (C : List Int) (k j : Nat) : Bool := (nth C k != nth C j) && eqCellF m (cellF R (nth C k) r) (cellF R (nth C j) r)
def cntN (p : Nat → Bool) (t : Nat) : Nat := ((List.range t).filter p).length
def mostTo (R : List (List Int)) (m r : Int) (C : List Int) (t : Nat) : Int := (List.range t).foldl (fun a k => max a (1 + (cntN (pairB R m r C k) C.length : Int))) 0
def sumTo (R : List (List Int)) (m r : Int) (P : List (List Int)) (t : Nat) : Int := (List.range t).foldl (fun a c => a + ((row P c).length - mostTo R m r (row P c) (row P c).length)) 0
def rrF (n : Int) (R : List (List Int)) (m l r : Int) : Int := if askF n R m l r then sumTo R m r (ptnQ (sameB R m l) R.length R.length) (ptnQ (sameB R m l) R.length R.length).length else -1

theorem cnt_succ (p : Nat → Bool) (t : Nat) : cntN p (t + 1) = cntN p t + if p t then 1 else 0 := by
  unfold cntN
  rw [List.range_succ, List.filter_append, List.length_append]
  cases h : p t <;> simp [h]
theorem cnt_le (p : Nat → Bool) (t : Nat) : cntN p t ≤ t := by
  unfold cntN
  have := List.length_filter_le p (List.range t)
  rw [List.length_range] at this
  exact this
theorem most_succ (R : List (List Int)) (m r : Int) (C : List Int) (t : Nat) : mostTo R m r C (t + 1) = max (mostTo R m r C t) (1 + (cntN (pairB R m r C t) C.length : Int)) := by unfold mostTo; rw [range_succ_fold]
theorem most_bd (R : List (List Int)) (m r : Int) (C : List Int) : ∀ t, 0 ≤ mostTo R m r C t ∧ mostTo R m r C t ≤ C.length + 1
  | 0 => by simp [mostTo]; omega
  | t + 1 => by
    rw [most_succ]
    have h1 := most_bd R m r C t
    have h2 := cnt_le (pairB R m r C t) C.length
    omega
theorem sum_succ (R : List (List Int)) (m r : Int) (P : List (List Int)) (t : Nat) : sumTo R m r P (t + 1) = sumTo R m r P t + ((row P t).length - mostTo R m r (row P t) (row P t).length) := by unfold sumTo; rw [range_succ_fold]
theorem sum_bd {R : List (List Int)} {m r : Int} {P : List (List Int)} (hP : ∀ j, j < P.length → (row P j).length ≤ 41) : ∀ t, t ≤ P.length → -(t : Int) ≤ sumTo R m r P t ∧ sumTo R m r P t ≤ 41 * t
  | 0, _ => by simp [sumTo]
  | t + 1, ht => by
    rw [sum_succ]
    have h1 := sum_bd (R := R) (m := m) (r := r) hP t (by omega)
    have h2 := most_bd R m r (row P t) (row P t).length
    have h3 := hP t (by omega)
    omega
theorem cls_low {q : Nat → Nat → Bool} {N i : Nat} (hi : i < N) : ∀ x ∈ clsTo q i N, ∃ e : Nat, x = e ∧ e < N := by
  intro x hx
  rcases cls_mem.1 hx with rfl | ⟨k, rfl, h, _⟩
  · exact ⟨i, rfl, hi⟩
  · exact ⟨k, rfl, h⟩
theorem cls_up {q : Nat → Nat → Bool} {i t : Nat} : Up (clsTo q i t) := by
  unfold Up clsTo
  rw [List.pairwise_cons]
  refine ⟨fun x hx => ?_, ?_⟩
  · obtain ⟨k, hk, rfl⟩ := List.mem_map.1 hx
    have := (List.mem_filter.1 hk).2
    simp only [Bool.and_eq_true, decide_eq_true_eq] at this
    omega
  · rw [List.pairwise_map]
    refine List.Pairwise.filter _ ?_
    refine List.Pairwise.imp ?_ List.pairwise_lt_range
    intro a b h; omega
theorem up_ne {C : List Int} (h : Up C) {k j : Nat} (hk : k < C.length) (hj : j < C.length) : (nth C k != nth C j) = decide (k ≠ j) := by
  unfold Up at h
  rw [List.pairwise_iff_getElem] at h
  have ek : C[k] = nth C k := by have := nth_eq hk; rw [List.getElem?_eq_getElem hk] at this; injection this
  have ej : C[j] = nth C j := by have := nth_eq hj; rw [List.getElem?_eq_getElem hj] at this; injection this
  by_cases e : k = j
  · subst e; simp
  · have : nth C k ≠ nth C j := by
      rcases Nat.lt_or_ge k j with h' | h'
      · have := h k j hk hj h'; rw [ek, ej] at this; omega
      · have := h j k hj hk (by omega); rw [ek, ej] at this; omega
    simp [e, this]

def someF (p : Int → Int → Bool) (P : List Int) (r : Int) : List Int := P.filter fun x => !hasc x r && p x r
def lowF (p : Int → Int → Bool) (P : List Int) (r : Int) : List Int := minF (someF p P r)
theorem some_st {N : Nat} (hN : N ≤ 5) {p : Int → Int → Bool} {r : Int} : ∀ x ∈ someF p (partsF N) r, St x := by
  intro x hx
  have h := (partsF_mem (n := (N : Int)) (by omega) (by omega)).1 (List.mem_filter.1 hx).1
  have h2 := (pow_wrap (n := (N : Int)) (by omega) (by omega)).2.1
  exact ⟨h.1, by omega⟩
theorem some_len (p : Int → Int → Bool) (n r : Int) : (someF p (partsF n) r).length ≤ 32 := by
  have h := List.length_filter_le (fun x => !hasc x r && p x r) (partsF n)
  have := partsF_len n
  unfold someF; omega
theorem low_mem {N : Nat} (hN : N ≤ 5) {p : Int → Int → Bool} {r x : Int} : x ∈ lowF p (partsF N) r ↔ x ∈ someF p (partsF N) r ∧ ∀ y ∈ someF p (partsF N) r, ins y x = true → y = x := by
  have hs : setsF (someF p (partsF N) r) = true := List.all_eq_true.2 fun x hx => by simpa [stB] using some_st hN x hx
  have hl := some_len p N r
  unfold lowF
  rw [minF_sets hs (by omega), flt_mem, Bool.and_eq_true, minB_iff]
  constructor
  · rintro ⟨_, h1, h2⟩; exact ⟨by simpa [inB'] using h1, h2⟩
  · rintro ⟨h1, h2⟩
    have := some_st hN x h1
    exact ⟨by unfold St at this; omega, by simpa [inB'] using h1, h2⟩
theorem low_below {N : Nat} (hN : N ≤ 5) {p : Int → Int → Bool} {r z : Int} (hz : z ∈ someF p (partsF N) r) : ∃ x ∈ lowF p (partsF N) r, ins x z = true := by
  have sz := some_st hN z hz
  obtain ⟨x, hx, hi⟩ := exists_min (p := inB' (someF p (partsF N) r)) (card z) z (Nat.le_refl _) sz (by simpa [inB'] using hz)
  obtain ⟨sx, px, mx⟩ := minL_mem.1 hx
  refine ⟨x, (low_mem hN).2 ⟨by simpa [inB'] using px, fun y hy hi => mx y (some_st hN y hy) (by simpa [inB'] using hy) hi⟩, hi⟩
theorem taken_low {N : Nat} (hN : N ≤ 5) {p : Int → Int → Bool} {r : Int} : ∀ k, k ≤ (partsF N).length → takenF p r ((partsF N).take k) = ((partsF N).take k).filter (inB' (lowF p (partsF N) r))
  | 0, _ => by simp [takenF]
  | k + 1, hk => by
    have hlt : k < (partsF N).length := by omega
    rw [taken_succ _ _ hlt, taken_low hN k (by omega), filter_take_succ _ _ _ hlt]
    have hup := up_index (parts_up hN) hlt
    have hxm : nth (partsF N) k ∈ partsF N := List.mem_iff_getElem?.2 ⟨k, nth_eq hlt⟩
    generalize nth (partsF N) k = x at *
    have key : ((!hasc x r && !anyIns (((partsF N).take k).filter (inB' (lowF p (partsF N) r))) x) && p x r) = inB' (lowF p (partsF N) r) x := by
      rw [Bool.eq_iff_iff]
      simp only [Bool.and_eq_true, Bool.not_eq_true']
      have e0 : inB' (lowF p (partsF N) r) x = true ↔ x ∈ lowF p (partsF N) r := by simp [inB']
      rw [e0]
      constructor
      · rintro ⟨⟨h1, h2⟩, h3⟩
        have hxs : x ∈ someF p (partsF N) r := List.mem_filter.2 ⟨hxm, by rw [h1, h3]; rfl⟩
        have sx := some_st hN x hxs
        obtain ⟨y, hy, hi⟩ := low_below hN hxs
        by_cases e : y = x
        · rw [← e]; exact hy
        · exfalso
          have hys := ((low_mem hN).1 hy).1
          have sy := some_st hN y hys
          have hc := card_lt sy sx hi e
          have hyt := hup.1 y (List.mem_filter.1 hys).1 (by unfold keyI; unfold St at sx sy; omega)
          have : anyIns (((partsF N).take k).filter (inB' (lowF p (partsF N) r))) x = true := List.any_eq_true.2 ⟨y, List.mem_filter.2 ⟨hyt, by simpa [inB'] using hy⟩, hi⟩
          rw [this] at h2; cases h2
      · intro hx
        obtain ⟨hxs, hmin⟩ := (low_mem hN).1 hx
        have hxp := (List.mem_filter.1 hxs).2
        simp only [Bool.and_eq_true, Bool.not_eq_true'] at hxp
        refine ⟨⟨hxp.1, ?_⟩, hxp.2⟩
        cases ha : anyIns (((partsF N).take k).filter (inB' (lowF p (partsF N) r))) x
        · rfl
        · exfalso
          obtain ⟨y, hy, hyx⟩ := List.any_eq_true.1 ha
          obtain ⟨hyt, hyl⟩ := List.mem_filter.1 hy
          have hyl : y ∈ lowF p (partsF N) r := by simpa [inB'] using hyl
          have e := hmin y ((low_mem hN).1 hyl).1 hyx
          have := hup.2 y hyt
          rw [e] at this
          omega
    unfold stepM
    rw [key]
    split
    · rfl
    · simp
def appOk (n : Int) (R : List (List Int)) (m q x r : Int) : Bool := decide (rrF n R m x r ≤ q)
def apprF (n : Int) (R : List (List Int)) (m q : Int) : List (Int × Int) := if (isTabF n R && modeF m) && decide (0 ≤ q) then colsF (appOk n R m q) (partsF n) n.toNat else []
theorem appr_len (n : Int) (R : List (List Int)) (m q : Int) : (apprF n R m q).length ≤ Room := by
  unfold apprF
  split
  · next h =>
    simp only [Bool.and_eq_true] at h
    obtain ⟨h1, h5, _, _⟩ := isTab_of h.1.1
    have a := colsF_len (appOk n R m q) (partsF n) n.toNat
    have b := partsF_len n
    have c : (partsF n).length * n.toNat ≤ 32 * 5 := Nat.mul_le_mul b (by omega)
    unfold Room; omega
  · simp
theorem colF_low {N : Nat} (hN : N ≤ 5) (p : Int → Int → Bool) (r : Int) : colF p (partsF N) r = ((partsF N).filter (inB' (lowF p (partsF N) r))).map fun x => (x, r) := by
  unfold colF
  have h := taken_low (p := p) (r := r) hN (partsF N).length (Nat.le_refl _)
  rw [List.take_length] at h
  rw [h]
end Go.Proofs.YtcenndlbhgfdfaaGreat
namespace Go.Proofs.YtcenndlbhgfdfaaGreat
open Go.RowKit
set_option linter.unusedVariables false
set_option maxRecDepth 100000

theorem rows5 {n : Int} {R : List (List Int)} (ht : isTabF n R = true) : ∀ i, i < R.length → (row R i).length ≤ 5 := fun i hi => by
  obtain ⟨_, h5, _, hl⟩ := isTab_of ht
  have := hl i hi; omega
theorem ask_of {n : Int} {R : List (List Int)} {m x r : Int} (ht : isTabF n R = true) (hm : modeF m = true) (hx0 : 0 ≤ x) (hx : x < 2 ^ n.toNat) (hr0 : 0 ≤ r) (hr : r < n) : askF n R m x r = true := by
  obtain ⟨h1, h5, _, _⟩ := isTab_of ht
  unfold askF isDepF isAttr
  rw [ht, hm]
  simp only [Bool.and_eq_true, decide_eq_true_eq, Bool.and_self, Bool.true_and]
  exact ⟨⟨⟨h1, ⟨⟨⟨by omega, h5⟩, hx0⟩, hx⟩⟩, hr0⟩, hr⟩
theorem parts_bd {n x : Int} {R : List (List Int)} (ht : isTabF n R = true) (hx : x ∈ partsF n) : 0 ≤ x ∧ x < 2 ^ n.toNat ∧ St x := by
  obtain ⟨h1, h5, _, _⟩ := isTab_of ht
  have hp := pow_nat (n := n) (by omega) h5
  have := (partsF_mem (by omega) h5).1 hx
  have := hp.1; have := hp.2.1
  exact ⟨by omega, by omega, by omega, by omega⟩
theorem minDeps_mem {n : Int} {R : List (List Int)} {m : Int} {d : Int × Int} (h : d ∈ minDepsF n R m) : isTabF n R = true ∧ modeF m = true ∧ d.1 ∈ partsF n ∧ 0 ≤ d.2 ∧ d.2 < n ∧ isMinF n R m d.1 d.2 = true := by
  unfold minDepsF at h
  split at h
  · next hh =>
    rw [Bool.and_eq_true] at hh
    obtain ⟨h1, h5, _, _⟩ := isTab_of hh.1
    obtain ⟨N, rfl⟩ := Int.eq_ofNat_of_zero_le (show 0 ≤ n by omega)
    rw [Int.toNat_natCast, cols_same (by omega) (rows5 hh.1) N (Nat.le_refl _)] at h
    unfold colsG colG at h
    obtain ⟨r, hr, h⟩ := List.mem_flatMap.1 h
    obtain ⟨x, hx, rfl⟩ := List.mem_map.1 h
    obtain ⟨hx1, hx2⟩ := List.mem_filter.1 hx
    have hr := List.mem_range.1 hr
    obtain ⟨b0, b1, bs⟩ := parts_bd hh.1 hx1
    refine ⟨hh.1, hh.2, hx1, by show (0 : Int) ≤ (r : Int); omega, by show (r : Int) < (N : Int); omega, ?_⟩
    show isMinF N R m x r = true
    rw [isMin_l7 (ask_of hh.1 hh.2 b0 b1 (by omega) (by omega))]
    exact hx2
  · cases h
theorem minDeps_below {n : Int} {R : List (List Int)} {m x r : Int} (ht : isTabF n R = true) (hm : modeF m = true) (hx0 : 0 ≤ x) (hx : x < 2 ^ n.toNat) (hr0 : 0 ≤ r) (hr : r < n) (hn : hasc x r = false) (h : holdsF R m x r = true) : ∃ d ∈ minDepsF n R m, d.2 = r ∧ ins d.1 x = true := by
  obtain ⟨h1, h5, _, _⟩ := isTab_of ht
  obtain ⟨N, rfl⟩ := Int.eq_ofNat_of_zero_le (show 0 ≤ n by omega)
  obtain ⟨q, rfl⟩ := Int.eq_ofNat_of_zero_le hr0
  have hp := pow_nat (n := (N : Int)) (by omega) h5
  have hxm : x ∈ partsF (N : Int) := (partsF_mem (by omega) h5).2 ⟨hx0, by have := hp.1; omega⟩
  have hz : x ∈ someF (fun x r => holdsF R m x r) (partsF N) q := List.mem_filter.2 ⟨hxm, by simp [hn, h]⟩
  obtain ⟨y, hy, hi⟩ := low_below (by omega : N ≤ 5) hz
  refine ⟨(y, (q : Int)), ?_, rfl, hi⟩
  unfold minDepsF
  rw [ht, hm]
  simp only [Bool.and_self, if_true, Int.toNat_natCast]
  unfold colsF
  refine List.mem_flatMap.2 ⟨q, List.mem_range.2 (by omega), ?_⟩
  rw [colF_low (by omega : N ≤ 5)]
  have hy1 := (low_mem (by omega : N ≤ 5)).1 hy
  exact List.mem_map.2 ⟨y, List.mem_filter.2 ⟨(List.mem_filter.1 hy1.1).1, by unfold inB'; simpa using hy⟩, rfl⟩
/-- covered exactly if the dependency holds -/
theorem covered_law {n : Int} {R : List (List Int)} {m x r : Int} (ht : isTabF n R = true) (hm : modeF m = true) (hx0 : 0 ≤ x) (hx : x < 2 ^ n.toNat) (hr0 : 0 ≤ r) (hr : r < n) (hn : hasc x r = false) :
    ((minDepsF n R m).any fun d => (d.2 == r) && (bits BinOp.and .i64 d.1 x == d.1)) = holdsF R m x r := by
  obtain ⟨h1, h5, _, _⟩ := isTab_of ht
  have hp := pow_nat (n := n) (by omega) h5
  have sx : St x := ⟨hx0, by have := hp.1; have := hp.2.1; omega⟩
  rw [Bool.eq_iff_iff, List.any_eq_true]
  constructor
  · rintro ⟨d, hd, h⟩
    rw [Bool.and_eq_true] at h
    obtain ⟨_, _, hm1, _, _, hmin⟩ := minDeps_mem hd
    obtain ⟨_, _, sd⟩ := parts_bd ht hm1
    have e : d.2 = r := by simpa using h.1
    have hi : ins d.1 x = true := by rw [← insA_eq sd sx]; exact h.2
    unfold isMinF at hmin
    simp only [Bool.and_eq_true] at hmin
    rw [← e]
    exact holds_up (rows5 ht) sd sx hi hmin.2.1
  · intro h
    obtain ⟨d, hd, e, hi⟩ := minDeps_below ht hm hx0 hx hr0 hr hn h
    obtain ⟨_, _, hm1, _, _, _⟩ := minDeps_mem hd
    obtain ⟨_, _, sd⟩ := parts_bd ht hm1
    exact ⟨d, hd, by rw [Bool.and_eq_true]; exact ⟨by simp [e], by have := insA_eq sd sx; rw [hi] at this; exact this⟩⟩
theorem exists_max {G : List Int} (hG : ∀ x ∈ G, St x) : ∀ (k : Nat) (z : Int), 5 - card z ≤ k → z ∈ G → ∃ x ∈ G, maxB G x = true ∧ ins z x = true
  | k, z, hk, hz => by
    by_cases h : maxB G z = true
    · exact ⟨z, hz, h, ins_refl (hG z hz)⟩
    · have h' : maxB G z = false := by simpa using h
      unfold maxB at h'
      rw [List.all_eq_false] at h'
      obtain ⟨y, hy, hyz⟩ := h'
      simp only [Bool.or_eq_true, beq_iff_eq, Bool.not_eq_true', not_or, Bool.not_eq_false] at hyz
      have hlt := card_lt (hG z hz) (hG y hy) hyz.2 hyz.1
      have := card_le y
      match k with
      | 0 => omega
      | k + 1 =>
        obtain ⟨x, hx, hm, hi⟩ := exists_max hG k y (by omega) hy
        exact ⟨x, hx, hm, ins_trans (hG z hz) (hG y hy) (hG x hx) hyz.2 hi⟩
/-- inside the border exactly if the dependency does not hold -/
theorem inside_law {n : Int} {R : List (List Int)} {m x r : Int} (ht : isTabF n R = true) (hm : modeF m = true) (hx0 : 0 ≤ x) (hx : x < 2 ^ n.toNat) (hr0 : 0 ≤ r) (hr : r < n) (hn : hasc x r = false) :
    ((bordF n R m r).any fun b => bits BinOp.and .i64 b x == x) = !holdsF R m x r := by
  obtain ⟨h1, h5, _, _⟩ := isTab_of ht
  have hp := pow_nat (n := n) (by omega) h5
  have sx : St x := ⟨hx0, by have := hp.1; have := hp.2.1; omega⟩
  have hok : bordOk n R m r = true := by unfold bordOk; rw [ht, hm]; simp; omega
  have hG : ∀ y ∈ flt (bordP R m r) (2 ^ n.toNat), St y := fun y hy => by
    have := (flt_mem.1 hy).1
    exact ⟨this.1, by have := hp.2.1; omega⟩
  have hS : setsF (flt (bordP R m r) (2 ^ n.toNat)) = true := by
    unfold setsF
    rw [List.all_eq_true]
    exact fun y hy => decide_eq_true (hG y hy)
  have hl : (flt (bordP R m r) (2 ^ n.toNat)).length ≤ 100 := Nat.le_trans (flt_le _ _) (by omega)
  unfold bordF
  rw [hok]
  simp only [if_true]
  rw [maxF_sets hS hl, Bool.eq_iff_iff, List.any_eq_true]
  have swap : ∀ b, St b → (bits BinOp.and .i64 b x == x) = ins x b := fun b sb => by
    rw [← insA_eq sx sb]
    unfold insA
    obtain ⟨p, hp, rfl⟩ := st_nat sb; obtain ⟨q, hq, rfl⟩ := st_nat sx
    have h : ∀ p < 32, ∀ q < 32, (bits BinOp.and .i64 ((p : Nat) : Int) ((q : Nat) : Int) == ((q : Nat) : Int)) = (bits BinOp.and .i64 ((q : Nat) : Int) ((p : Nat) : Int) == ((q : Nat) : Int)) := by decide +kernel
    exact h p hp q hq
  constructor
  · rintro ⟨b, hb, h⟩
    obtain ⟨⟨b0, b1⟩, hb2⟩ := flt_mem.1 hb
    rw [Bool.and_eq_true] at hb2
    have hm1 : b ∈ flt (bordP R m r) (2 ^ n.toNat) := by have := hb2.1; unfold inB' at this; simpa using this
    have sb := hG b hm1
    rw [swap b sb] at h
    have hb3 := (flt_mem.1 hm1).2
    unfold bordP at hb3
    rw [Bool.and_eq_true] at hb3
    cases hh : holdsF R m x r
    · rfl
    · have := holds_up (rows5 ht) sx sb h hh
      rw [this] at hb3; cases hb3.2
  · intro h
    have hh : holdsF R m x r = false := by simpa using h
    have hz : x ∈ flt (bordP R m r) (2 ^ n.toNat) := flt_mem.2 ⟨⟨hx0, by have := hp.1; omega⟩, by unfold bordP; rw [hn, hh]; rfl⟩
    obtain ⟨b, hb, hmx, hi⟩ := exists_max hG (5 - card x) x (Nat.le_refl _) hz
    have sb := hG b hb
    exact ⟨b, flt_mem.2 ⟨⟨sb.1, sb.2⟩, by rw [Bool.and_eq_true]; exact ⟨by unfold inB'; simpa using hb, hmx⟩⟩, by rw [swap b sb]; exact hi⟩
theorem appr_rows {n : Int} {R : List (List Int)} {m q : Int} {d : Int × Int} (h : d ∈ apprF n R m q) : rrF n R m d.1 d.2 ≤ q := by
  unfold apprF at h
  split at h
  · next hh =>
    simp only [Bool.and_eq_true, decide_eq_true_eq] at hh
    obtain ⟨h1, h5, _, _⟩ := isTab_of hh.1.1
    obtain ⟨N, rfl⟩ := Int.eq_ofNat_of_zero_le (show 0 ≤ n by omega)
    unfold colsF at h
    obtain ⟨r, hr, h⟩ := List.mem_flatMap.1 h
    rw [colF_low (by omega : N ≤ 5)] at h
    obtain ⟨x, hx, rfl⟩ := List.mem_map.1 h
    have hx2 := (List.mem_filter.1 hx).2
    have hx3 : x ∈ lowF (appOk N R m q) (partsF N) r := by unfold inB' at hx2; simpa using hx2
    have hx4 := ((low_mem (by omega : N ≤ 5)).1 hx3).1
    have := (List.mem_filter.1 hx4).2
    rw [Bool.and_eq_true] at this
    have := this.2
    unfold appOk at this
    exact of_decide_eq_true this
  · cases h
end Go.Proofs.YtcenndlbhgfdfaaGreat
namespace Go.Proofs.YtcenndlbhgfdfaaGreat
open Go.RowKit
set_option linter.unusedVariables false
set_option maxRecDepth 100000

theorem cnt_pos (p : Nat → Bool) : ∀ (t j : Nat), j < t → p j = true → 1 ≤ cntN p t
  | 0, j, h, _ => by omega
  | t + 1, j, h, hp => by
    rw [cnt_succ]
    by_cases e : j = t
    · subst e; rw [hp]; simp
    · have := cnt_pos p t j (by omega) hp; omega
theorem cnt_two (p : Nat → Bool) : ∀ (t a b : Nat), a < b → b < t → p a = true → p b = true → 2 ≤ cntN p t
  | 0, a, b, _, h, _, _ => by omega
  | t + 1, a, b, hab, h, ha, hb => by
    rw [cnt_succ]
    by_cases e : b = t
    · subst e; rw [hb]; have := cnt_pos p b a hab ha; simp; omega
    · have := cnt_two p t a b hab (by omega) ha hb; omega
theorem cnt_compl (p : Nat → Bool) : ∀ t : Nat, cntN p t + cntN (fun j => !p j) t = t
  | 0 => by simp [cntN]
  | t + 1 => by
    rw [cnt_succ, cnt_succ]
    have := cnt_compl p t
    cases h : p t <;> simp <;> omega
theorem cnt_one (p : Nat → Bool) (k : Nat) : ∀ t : Nat, (∀ j, j < t → p j = true → j = k) → cntN p t ≤ if k < t then 1 else 0
  | 0, _ => by simp [cntN]
  | t + 1, h => by
    rw [cnt_succ]
    have ih := cnt_one p k t fun j hj hp => h j (by omega) hp
    cases hp : p t
    · simp only [Bool.false_eq_true, if_false, Nat.add_zero]
      refine Nat.le_trans ih ?_
      split <;> split <;> omega
    · have := h t (by omega) hp
      subst this
      simp at ih ⊢
      omega
theorem most_ge (R : List (List Int)) (m r : Int) (C : List Int) : ∀ (t k : Nat), k < t → 1 + (cntN (pairB R m r C k) C.length : Int) ≤ mostTo R m r C t
  | 0, k, h => by omega
  | t + 1, k, h => by
    rw [most_succ]
    by_cases e : k = t
    · subst e; exact Int.le_max_right _ _
    · exact Int.le_trans (most_ge R m r C t k (by omega)) (Int.le_max_left _ _)
theorem most_at (R : List (List Int)) (m r : Int) (C : List Int) : ∀ (t : Nat), mostTo R m r C t = 0 ∨ ∃ k, k < t ∧ mostTo R m r C t = 1 + (cntN (pairB R m r C k) C.length : Int)
  | 0 => .inl rfl
  | t + 1 => by
    rw [most_succ]
    rcases Int.le_total (mostTo R m r C t) (1 + (cntN (pairB R m r C t) C.length : Int)) with h | h
    · exact .inr ⟨t, by omega, Int.max_eq_right h⟩
    · rw [Int.max_eq_left h]
      rcases most_at R m r C t with e | ⟨k, hk, e⟩
      · exact .inl e
      · exact .inr ⟨k, by omega, e⟩
theorem pair_self (R : List (List Int)) (m r : Int) (C : List Int) (k : Nat) : pairB R m r C k k = false := by unfold pairB; simp
theorem cnt_pair_le (R : List (List Int)) (m r : Int) (C : List Int) {k : Nat} (hk : k < C.length) : cntN (pairB R m r C k) C.length + 1 ≤ C.length := by
  have h1 := cnt_compl (pairB R m r C k) C.length
  have h2 := cnt_pos (fun j => !pairB R m r C k j) C.length k hk (by rw [pair_self]; rfl)
  omega
theorem most_le (R : List (List Int)) (m r : Int) (C : List Int) : mostTo R m r C C.length ≤ C.length := by
  rcases most_at R m r C C.length with e | ⟨k, hk, e⟩
  · omega
  · have := cnt_pair_le R m r C hk; omega
/-- a class whose rows all agree, and one in which two rows differ -/
theorem most_full {R : List (List Int)} {m r : Int} {C : List Int} (hC : Up C) (h0 : 0 < C.length) (h : ∀ k j, k < C.length → j < C.length → k ≠ j → eqCellF m (cellF R (nth C k) r) (cellF R (nth C j) r) = true) : mostTo R m r C C.length = C.length := by
  have h1 := most_ge R m r C C.length 0 h0
  have h2 := most_le R m r C
  have h3 := cnt_compl (pairB R m r C 0) C.length
  have h4 := cnt_one (fun j => !pairB R m r C 0 j) 0 C.length fun j hj hp => by
    by_cases e : j = 0
    · exact e
    · have : pairB R m r C 0 j = true := by
        unfold pairB
        rw [up_ne hC h0 hj, h 0 j h0 hj (fun e' => e e'.symm)]
        simp; omega
      rw [this] at hp; cases hp
  rw [if_pos h0] at h4
  omega
theorem most_pairs {R : List (List Int)} {m r : Int} {C : List Int} (hC : Up C) (h : (C.length : Int) ≤ mostTo R m r C C.length) {a b : Nat} (ha : a < C.length) (hb : b < C.length) (hab : a ≠ b) : eqCellF m (cellF R (nth C a) r) (cellF R (nth C b) r) = true := by
  rcases most_at R m r C C.length with e | ⟨k, hk, e⟩
  · omega
  · have h1 := cnt_compl (pairB R m r C k) C.length
    have h2 := cnt_pair_le R m r C hk
    have all : ∀ j, j < C.length → j ≠ k → eqCellF m (cellF R (nth C k) r) (cellF R (nth C j) r) = true := fun j hj hne => by
      cases hp : pairB R m r C k j
      · exfalso
        have hq1 : (fun i => !pairB R m r C k i) j = true := by simp [hp]
        have hq2 : (fun i => !pairB R m r C k i) k = true := by simp [pair_self]
        rcases Nat.lt_or_gt_of_ne hne with h' | h'
        · have := cnt_two (fun i => !pairB R m r C k i) C.length j k h' hk hq1 hq2; omega
        · have := cnt_two (fun i => !pairB R m r C k i) C.length k j h' hj hq2 hq1; omega
      · unfold pairB at hp; rw [Bool.and_eq_true] at hp; exact hp.2
    by_cases ea : a = k
    · subst ea; exact all b hb (fun e' => hab e'.symm)
    · by_cases eb : b = k
      · subst eb; exact eqCell_symm (all a ha ea)
      · exact eqCell_trans (eqCell_symm (all a ha ea)) (all b hb eb)
theorem sum_le0 {R : List (List Int)} {m r : Int} {P : List (List Int)} (h : ∀ j, j < P.length → ((row P j).length : Int) ≤ mostTo R m r (row P j) (row P j).length) : ∀ t, t ≤ P.length → sumTo R m r P t ≤ 0
  | 0, _ => by simp [sumTo]
  | t + 1, ht => by
    rw [sum_succ]
    have := sum_le0 h t (by omega)
    have := h t (by omega)
    omega
theorem sum_ge {R : List (List Int)} {m r : Int} {P : List (List Int)} : ∀ t, t ≤ P.length → 0 ≤ sumTo R m r P t ∧ ∀ j, j < t → ((row P j).length : Int) - mostTo R m r (row P j) (row P j).length ≤ sumTo R m r P t
  | 0, _ => ⟨by simp [sumTo], fun j hj => by omega⟩
  | t + 1, ht => by
    obtain ⟨h1, h2⟩ := sum_ge (R := R) (m := m) (r := r) (P := P) t (by omega)
    have h3 := most_le R m r (row P t)
    rw [sum_succ]
    refine ⟨by omega, fun j hj => ?_⟩
    by_cases e : j = t
    · subst e; omega
    · have := h2 j (by omega); omega
theorem cell_agree {n m r : Int} {R : List (List Int)} (ht : isTabF n R = true) {i k : Nat} (hi : i < R.length) (hr0 : 0 ≤ r) (hr : r < n) : hasc (agreeF m (row R i) (row R k)) r = eqCellF m (cellF R i r) (cellF R k r) := by
  obtain ⟨h1, h5, _, hl⟩ := isTab_of ht
  have := hl i hi
  rw [hasc_agree ⟨hr0, by omega⟩ (by omega), decide_eq_true (by omega : r.toNat < (row R i).length)]
  unfold cellF
  simp
theorem same_symm {n m l : Int} {R : List (List Int)} (ht : isTabF n R = true) {i k : Nat} (hi : i < R.length) (hk : k < R.length) : sameB R m l i k = sameB R m l k i := by
  obtain ⟨_, _, _, hl⟩ := isTab_of ht
  unfold sameB
  rw [agree_comm (by have := hl i hi; have := hl k hk; omega)]
/-- the members of a class -/
theorem cls_memA {q : Nat → Nat → Bool} {j M a : Nat} {C : List Int} (e : C = clsTo q j M) (ha : a < C.length) : ∃ i : Nat, nth C a = i ∧ (i = j ∨ (j < i ∧ i < M ∧ q j i = true)) := by
  subst e
  have hm : nth (clsTo q j M) a ∈ clsTo q j M := List.mem_iff_getElem?.2 ⟨a, nth_eq ha⟩
  rcases cls_mem.1 hm with h | ⟨k, h, h1, h2, h3⟩
  · exact ⟨j, h, .inl rfl⟩
  · exact ⟨k, h, .inr ⟨h2, h1, h3⟩⟩
theorem cls_at {q : Nat → Nat → Bool} {j M i : Nat} (h : i = j ∨ (j < i ∧ i < M ∧ q j i = true)) : ∃ a, a < (clsTo q j M).length ∧ nth (clsTo q j M) a = i := by
  have hm : (i : Int) ∈ clsTo q j M := by
    unfold clsTo
    rcases h with rfl | ⟨h1, h2, h3⟩
    · exact List.mem_cons_self ..
    · exact List.mem_cons_of_mem _ (List.mem_map.2 ⟨i, List.mem_filter.2 ⟨List.mem_range.2 h2, by simp [h1, h3]⟩, rfl⟩)
  obtain ⟨a, ha⟩ := List.mem_iff_getElem?.1 hm
  have hl := (List.getElem?_eq_some_iff.1 ha).1
  exact ⟨a, hl, by have := nth_eq hl; rw [ha] at this; injection this with this; exact this.symm⟩
theorem ptn_class {q : Nat → Nat → Bool} {M j : Nat} (hj : j < (ptnQ q M M).length) : ∃ i, i < M ∧ headQ q M i = true ∧ row (ptnQ q M M) j = clsTo q i M := by
  have hm := row_mem hj
  unfold ptnQ at hm
  obtain ⟨i, hi, e⟩ := List.mem_map.1 hm
  obtain ⟨h1, h2⟩ := List.mem_filter.1 hi
  exact ⟨i, List.mem_range.1 h1, h2, by unfold ptnQ; exact e.symm⟩
theorem rr_holds {n m x r : Int} {R : List (List Int)} (ht : isTabF n R = true) (ha : askF n R m x r = true) : 0 ≤ rrF n R m x r ∧ (rrF n R m x r ≤ 0 ↔ holdsF R m x r = true) := by
  have ha' := ha
  unfold askF isDepF isAttr at ha'
  simp only [Bool.and_eq_true, decide_eq_true_eq] at ha'
  obtain ⟨_, ⟨⟨h1, ⟨⟨h0, h5⟩, hx0⟩, hx⟩, hr0⟩, hr⟩ := ha'
  have hp := pow_nat (n := n) (by omega) h5
  have sx : St x := ⟨hx0, by have := hp.1; have := hp.2.1; omega⟩
  have cr : Co r := ⟨hr0, by omega⟩
  have hper := same_per (m := m) ht sx
  have sym := fun i k => same_symm (m := m) (l := x) ht (i := i) (k := k)
  have hag := fun i k => cell_agree (m := m) ht (i := i) (k := k) (hr0 := hr0) (hr := hr)
  unfold rrF
  rw [ha]
  simp only [if_true]
  obtain ⟨s1, s2⟩ := sum_ge (R := R) (m := m) (r := r) (P := ptnQ (sameB R m x) R.length R.length) _ (Nat.le_refl _)
  refine ⟨s1, ?_, ?_⟩
  · intro hs
    unfold holdsF
    refine decide_eq_true fun i hi k hk hik => ?_
    unfold violF
    cases hsame : ins x (agreeF m (row R i) (row R k))
    · rfl
    · have hq : sameB R m x i k = true := hsame
      rw [hag i k hi]
      -- the class that holds both
      suffices H : ∃ j0, j0 < R.length ∧ tkQ (sameB R m x) j0 j0 = false ∧ (i = j0 ∨ (j0 < i ∧ i < R.length ∧ sameB R m x j0 i = true)) by
        obtain ⟨j0, hj0, htk, hij⟩ := H
        have hkj : k = j0 ∨ (j0 < k ∧ k < R.length ∧ sameB R m x j0 k = true) := .inr (by
          rcases hij with rfl | ⟨h2, _, h3⟩
          · exact ⟨hik, hk, hq⟩
          · exact ⟨by omega, hk, hper.tr j0 i k hj0 hi h3 hq⟩)
        obtain ⟨a, hal, ea⟩ := cls_at (q := sameB R m x) hij
        obtain ⟨b, hbl, eb⟩ := cls_at (q := sameB R m x) hkj
        have hhead : headQ (sameB R m x) R.length j0 = true := by
          unfold headQ
          rw [htk]
          simp only [Bool.not_false, Bool.true_and, decide_eq_true_eq]
          have : a ≠ b := fun e => by subst e; rw [ea] at eb; omega
          omega
        have hmem : clsTo (sameB R m x) j0 R.length ∈ ptnQ (sameB R m x) R.length R.length := by
          unfold ptnQ
          exact List.mem_map.2 ⟨j0, List.mem_filter.2 ⟨List.mem_range.2 hj0, hhead⟩, rfl⟩
        obtain ⟨c, hc⟩ := List.mem_iff_getElem?.1 hmem
        have hcl := (List.getElem?_eq_some_iff.1 hc).1
        have hrow : row (ptnQ (sameB R m x) R.length R.length) c = clsTo (sameB R m x) j0 R.length := by unfold row List.getD; rw [hc]; rfl
        have h4 := s2 c hcl
        rw [hrow] at h4
        have := most_pairs (R := R) (m := m) (r := r) (C := clsTo (sameB R m x) j0 R.length) cls_up (by omega) hal hbl (fun e => by subst e; rw [ea] at eb; omega)
        rw [ea, eb] at this
        rw [this]; rfl
      -- the least index of the class
      have : ∀ t, t ≤ i → (∀ j, j < t → sameB R m x j i = false) ∨ ∃ j0, j0 < t ∧ sameB R m x j0 i = true ∧ ∀ j, j < j0 → sameB R m x j i = false := by
        intro t
        induction t with
        | zero => intro _; exact .inl fun j hj => by omega
        | succ t ih =>
          intro hti
          rcases ih (by omega) with h | ⟨j0, a1, a2, a3⟩
          · cases e : sameB R m x t i
            · exact .inl fun j hj => by
                by_cases e' : j = t
                · subst e'; exact e
                · exact h j (by omega)
            · exact .inr ⟨t, by omega, e, h⟩
          · exact .inr ⟨j0, by omega, a2, a3⟩
      rcases this i (Nat.le_refl _) with h | ⟨j0, a1, a2, a3⟩
      · refine ⟨i, hi, ?_, .inl rfl⟩
        cases e : tkQ (sameB R m x) i i
        · rfl
        · obtain ⟨j, hj, _, hji⟩ := tk_iff.1 e
          rw [h j hj] at hji; cases hji
      · refine ⟨j0, by omega, ?_, .inr ⟨a1, hi, a2⟩⟩
        cases e : tkQ (sameB R m x) j0 j0
        · rfl
        · obtain ⟨j, hj, _, hji⟩ := tk_iff.1 e
          have := hper.tr j j0 i (by omega) (by omega) hji a2
          rw [a3 j hj] at this; cases this
  · intro h
    unfold holdsF at h
    have h := of_decide_eq_true h
    refine sum_le0 (fun j hj => ?_) _ (Nat.le_refl _)
    obtain ⟨i0, hi0, hhead, e⟩ := ptn_class hj
    rw [e]
    have h0 : 0 < (clsTo (sameB R m x) i0 R.length).length := by unfold clsTo; simp
    rw [most_full cls_up h0 fun a b ha' hb' hab => ?_]
    · exact Int.le_refl _
    · obtain ⟨i, ei, hi⟩ := cls_memA (q := sameB R m x) rfl ha'
      obtain ⟨k, ek, hk⟩ := cls_memA (q := sameB R m x) rfl hb'
      have hil : i < R.length := by rcases hi with rfl | ⟨_, h2, _⟩; exact hi0; exact h2
      have hkl : k < R.length := by rcases hk with rfl | ⟨_, h2, _⟩; exact hi0; exact h2
      have hik : i ≠ k := fun e' => by
        subst e'
        have := up_ne (C := clsTo (sameB R m x) i0 R.length) cls_up ha' hb'
        rw [ei, ek] at this
        simp at this; exact hab this
      have hsame : sameB R m x i k = true := by
        rcases hi with rfl | ⟨_, _, h3⟩
        · rcases hk with rfl | ⟨_, _, h4⟩
          · exact absurd rfl hik
          · exact h4
        · rcases hk with rfl | ⟨_, _, h4⟩
          · rw [sym _ _ hil hkl]; exact h3
          · exact hper.tr i i0 k hil hi0 (by rw [sym _ _ hil hi0]; exact h3) h4
      rw [ei, ek]
      rcases Nat.lt_or_gt_of_ne hik with h' | h'
      · have hv := h i hil k hkl h'
        unfold violF at hv
        rw [show ins x (agreeF m (row R i) (row R k)) = true from hsame, Bool.true_and, hag i k hil] at hv
        simpa using hv
      · have hv := h k hkl i hil h'
        unfold violF at hv
        rw [show ins x (agreeF m (row R k) (row R i)) = true from by rw [sym _ _ hil hkl] at hsame; exact hsame, Bool.true_and, hag k i hkl] at hv
        exact eqCell_symm (by simpa using hv)
end Go.Proofs.YtcenndlbhgfdfaaGreat
namespace Go.Proofs.YtcenndlbhgfdfaaGreat
open Go.RowKit
set_option linter.unusedVariables false
set_option maxRecDepth 100000

theorem taken_congr {p q : Int → Int → Bool} {r : Int} : ∀ (P T : List Int), (∀ x ∈ P, p x r = q x r) → P.foldl (stepM p r) T = P.foldl (stepM q r) T
  | [], _, _ => by rw [List.foldl_nil, List.foldl_nil]
  | x :: P, T, h => by
    have e : stepM p r T x = stepM q r T x := by unfold stepM; rw [h x (List.mem_cons_self ..)]
    rw [List.foldl_cons, List.foldl_cons, e]
    exact taken_congr P _ fun y hy => h y (List.mem_cons_of_mem _ hy)
theorem appr_zero (n : Int) (R : List (List Int)) (m : Int) : apprF n R m 0 = minDepsF n R m := by
  unfold apprF minDepsF
  cases h : (isTabF n R && modeF m)
  · rfl
  · rw [Bool.and_eq_true] at h
    simp only [Int.le_refl, decide_true, Bool.and_self, if_true]
    obtain ⟨h1, h5, _, _⟩ := isTab_of h.1
    unfold colsF
    have key : ∀ r ∈ List.range n.toNat, colF (appOk n R m 0) (partsF n) (r : Int) = colF (fun x r => holdsF R m x r) (partsF n) (r : Int) := fun r hr => by
      have hr := List.mem_range.1 hr
      unfold colF takenF
      rw [taken_congr (q := fun x r => holdsF R m x r) (partsF n) [] fun x hx => ?_]
      obtain ⟨b0, b1, _⟩ := parts_bd h.1 hx
      have := (rr_holds h.1 (ask_of h.1 h.2 b0 b1 (show (0 : Int) ≤ (r : Int) by omega) (by omega))).2
      unfold appOk
      rw [Bool.eq_iff_iff, decide_eq_true_eq]
      exact this
    rw [List.flatMap_def, List.flatMap_def, List.map_congr_left key]
end Go.Proofs.YtcenndlbhgfdfaaGreat
namespace Go.Proofs.YtcenndlbhgfdfaaGreat
open Go.ChangeShapes Go.WideShapes Go.ChangeAt Go.RowKit
set_option linter.unusedVariables false
set_option maxRecDepth 100000

/-- n bytes that can be read. -/
structure BytesAt (w : World) (oa : Option Addr) (n : Nat) : Prop where
  at_ : 0 < n → ∃ b off, oa = some ⟨b, off, none⟩ ∧ b < w.heap.size ∧ ∀ k, k < n → ∃ x : Int, w.cell? ⟨b, off + k, none⟩ = some (.int .u8 x) ∧ 0 ≤ x ∧ x < 256
theorem BytesAt.keep {w w' : World} {oa : Option Addr} {n : Nat} (h : BytesAt w oa n) (hb : Below w.heap.size w w') : BytesAt w' oa n :=
  ⟨fun h0 => by
    obtain ⟨b, off, e, hlt, hc⟩ := h.at_ h0
    exact ⟨b, off, e, Nat.lt_of_lt_of_le hlt hb.size, fun k hk => by rw [hb.cell (p := ⟨b, off + k, none⟩) hlt]; exact hc k hk⟩⟩
def InBytes (w : World) (v : Value) : Prop := ∃ (oa : Option Addr) (len cap : Nat), v = .slice oa len cap ∧ len ≤ maxLen ∧ BytesAt w oa len
theorem open_bytes {H : Type} {enc : TypeId × Value → H} {W : World} {base : Nat} {held : Bool} {v : Value} {d : DataW H} {ps : List MemPlace} (hok : Value.okWide Tryz.prog W .any base 22 v)
    (h : DataW.Trod enc Tryz.prog W 0 (fun _ => true) held 22 v d ps) : InBytes W v := by
  obtain ⟨a0, len0, cap0, rfl⟩ := okWide_slice Tryz.underlying22 hok
  obtain ⟨fuel, hf⟩ := h
  rcases Go.ChangeShapes.open_ints Tryz.underlying22 Tryz.underlying5 (by kernel_rfl) hf with ⟨hcs, _⟩ | ⟨x, l, c, zs, hcs, _, hl, hm, hz, _, hcell, hwz⟩
  · simp [Value.cells] at hcs
    obtain ⟨rfl, rfl, rfl⟩ := hcs
    exact ⟨_, _, _, rfl, Nat.zero_le _, ⟨fun h => absurd h (by simp)⟩⟩
  · simp [Value.cells] at hcs
    obtain ⟨rfl, rfl, rfl⟩ := hcs
    refine ⟨_, _, _, rfl, Nat.le_trans hl hm, ⟨fun h0 => ?_⟩⟩
    have hz' : zs.length = cap0 := by simpa using hz
    obtain ⟨b, off, spot⟩ := x
    have hc := hcell 0 (by omega)
    have hspot : spot = none := by simpa [Addr.add] using World.cell?_spot hc
    subst hspot
    refine ⟨b, off, rfl, World.block_lt_of_cell? W ⟨b, off, none⟩ (by simpa [Addr.add] using hc), fun k hk => ?_⟩
    have hk' : k < zs.length := by omega
    have := hcell k hk'
    have e : (⟨b, off, none⟩ : Addr).add k = ⟨b, off + k, none⟩ := by unfold Addr.add; split <;> simp_all
    rw [e] at this
    have hw := hwz (zs.getD k 0) (by rw [List.getD_eq_getElem?_getD, List.getElem?_eq_getElem hk']; exact List.getElem_mem hk')
    refine ⟨_, this, ?_⟩
    generalize zs.getD k 0 = z at *
    have hw' : (decide (IntKind.u8.min ≤ z) && decide (z ≤ IntKind.u8.max)) = true := hw
    rw [show IntKind.u8.min = 0 from rfl, show IntKind.u8.max = 255 from rfl, Bool.and_eq_true, decide_eq_true_eq, decide_eq_true_eq] at hw'
    omega
end Go.Proofs.YtcenndlbhgfdfaaGreat
namespace Go.Proofs.YtcenndlbhgfdfaaGreat
open Go.RowKit
set_option linter.unusedVariables false
set_option maxRecDepth 100000

/-- Block g is a cursor. -/
def Cur (w : World) (g : Nat) : Prop := ∃ (oa : Option Addr) (n cap i : Nat) (h : Int), Blk w g #[.slice oa n cap, .int .i64 i, .int .i64 h] 91 ∧ i ≤ n ∧ n ≤ 1048576 ∧ BytesAt w oa n ∧ (0 < n → ∀ a, oa = some a → a.block < g)
theorem Cur.lt {w : World} {g : Nat} (h : Cur w g) : g < w.heap.size := by obtain ⟨_, _, _, _, _, h, _⟩ := h; exact h.lt
theorem BytesAt.grown {w w' : World} {oa : Option Addr} {n : Nat} {row : Option Nat} (h : BytesAt w oa n) (hg : w.grownBy w' row) (hne : 0 < n → ∀ a, oa = some a → some a.block ≠ row) : BytesAt w' oa n :=
  ⟨fun h0 => by
    obtain ⟨b, off, e, hlt, hc⟩ := h.at_ h0
    exact ⟨b, off, e, Nat.lt_of_lt_of_le hlt hg.size, fun k hk => by rw [World.cell?_of_block (hg.block b hlt (hne h0 _ e))]; exact hc k hk⟩⟩
theorem Cur.keep {w w' : World} {g : Nat} (h : Cur w g) (hb : Below w.heap.size w w') : Cur w' g := by
  obtain ⟨oa, n, cap, i, x, h1, h2, h3, h4, h5⟩ := h
  exact ⟨oa, n, cap, i, x, h1.keep hb, h2, h3, h4.keep hb, h5⟩
theorem Blk.gr {a b : World} {g : Nat} {c : Array Value} {T : TypeId} {row : Option Nat} (h : Blk a g c T) (hg : a.grownBy b row) (hne : some g ≠ row) : Blk b g c T := (hg.block g h.lt hne).trans h
/-- What the call made behind the cursor may turn. -/
theorem Cur.grown {w w' : World} {g : Nat} {row : Option Nat} (h : Cur w g) (hg : w.grownBy w' row) (hr : ∀ k, row = some k → g < k) : Cur w' g := by
  obtain ⟨oa, n, cap, i, x, h1, h2, h3, h4, h5⟩ := h
  refine ⟨oa, n, cap, i, x, h1.gr hg (fun e => by have := hr g e.symm; omega), h2, h3, h4.grown hg (fun h0 a e e' => ?_), h5⟩
  have := h5 h0 a e
  have := hr _ e'.symm
  omega
theorem and255 (x : Int) : 0 ≤ bits BinOp.and .i64 x 255 ∧ bits BinOp.and .i64 x 255 < 256 := by
  unfold bits
  have h : ∀ b : BitVec 64, (b &&& BitVec.ofInt 64 255).toNat < 256 := fun b => by
    rw [BitVec.toNat_and]
    exact Nat.lt_of_le_of_lt Nat.and_le_right (by decide)
  have := h (BitVec.ofInt 64 x)
  have e : ∀ n : Nat, n < 256 → IntKind.i64.wrap (n : Int) = n := fun n hn => by
    unfold IntKind.wrap
    simp [IntKind.bits, IntKind.signed]
    omega
  show 0 ≤ IntKind.i64.wrap ((BitVec.ofInt 64 x &&& BitVec.ofInt 64 255).toNat : Int) ∧ IntKind.i64.wrap ((BitVec.ofInt 64 x &&& BitVec.ofInt 64 255).toNat : Int) < 256
  rw [e _ this]
  omega
set_option maxHeartbeats 800000 in
theorem c_l1Byte (g : Nat) (w : World) (hc : Cur w g) :
    Calls Tryz.prog 97 #[.pointer (some ⟨g, 0, none⟩)] w fun e w' => ∃ x : Int, e = .returned (.int .i64 x) ∧ 0 ≤ x ∧ x < 256 ∧ Cur w' g ∧ w.grownBy w' (some g) := by
  obtain ⟨oa, n, cap, i, h, k, hi, hn, hB, hlo⟩ := hc
  have k2 := k.cell 2 (.int .i64 h) rfl
  have f2 := k.free 2
  have HI : Hid (i ≤ n) := hi
  clear hi
  go_enter Tryz.func97, Tryz.ntmps97
  go_wp2_with fail
  have kk : Blk _ g #[.slice oa n cap, .int .i64 i, .int .i64 (wrap64 (wrap64 (h * 6364136223846793005) + 1442695040888963407))] 91 := k.set 2 (.int .i64 (wrap64 (wrap64 (h * 6364136223846793005) + 1442695040888963407)))
  have hg := grown_set w g 2 (.int .i64 (wrap64 (wrap64 (h * 6364136223846793005) + 1442695040888963407)))
  clear k k2 f2
  generalize wrap64 (wrap64 (h * 6364136223846793005) + 1442695040888963407) = h2 at *
  have s2 := kk.cell 2 (.int .i64 h2) rfl
  (refine wp_region_after (by kernel_rfl) (by kernel_rfl) ?_; have q_s2 := fun (x : After _) => cell_keep s2 x.bel; (repeat (go_big_quiet_step (fail))); clear q_s2; refine wpQuiet_nil ?_; rintro _ ⟨⟨w1, hbn⟩, rfl⟩; (try simp only [After.w]))
  replace kk := kk.keep hbn
  replace hg := grown_trans hg (grown_of_below hbn _)
  clear hbn s2
  have hx := and255 (bits BinOp.xor IntKind.i64 (h2 / 8589934592) (h2 / 35184372088832))
  generalize bits BinOp.and IntKind.i64 (bits BinOp.xor IntKind.i64 (h2 / 8589934592) (h2 / 35184372088832)) 255 = x at *
  obtain ⟨hx0, hx1⟩ := hx
  go_wp2_with fail
  have s0 := kk.cell 0 (.slice oa n cap) rfl
  have s1 := kk.cell 1 (.int .i64 i) rfl
  (refine wp_region_after (by kernel_rfl) (by kernel_rfl) ?_; have q_s0 := fun (x : After _) => cell_keep s0 x.bel; have q_s1 := fun (x : After _) => cell_keep s1 x.bel; (repeat (go_big_quiet_step (fail))); clear q_s0; clear q_s1; refine wpQuiet_nil ?_; rintro _ ⟨⟨w1, hbn⟩, rfl⟩; (try simp only [After.w]))
  replace kk := kk.keep hbn
  replace hg := grown_trans hg (grown_of_below hbn _)
  clear hbn s0 s1
  by_cases hlt : i < n
  · have hB' := hB.grown hg (fun h0 a e e' => by injection e' with e'; have := hlo h0 a e; omega)
    obtain ⟨b, off, rfl, hbs, hcell⟩ := hB'.at_ (by omega)
    obtain ⟨y, hy, hy0, hy1⟩ := hcell i hlt
    have s0 := kk.cell 0 (.slice (some ⟨b, off, none⟩) n cap) rfl
    have s1 := kk.cell 1 (.int .i64 i) rfl
    clear hcell
    go_wp2_with fail
    (refine wp_region_after (by kernel_rfl) (by kernel_rfl) ?_; have q_s0 := fun (x : After _) => cell_keep s0 x.bel; have q_s1 := fun (x : After _) => cell_keep s1 x.bel; have q_hy := fun (x : After _) => cell_keep hy x.bel; (repeat (go_big_quiet_step (fail))); clear q_s0; clear q_s1; clear q_hy; refine wpQuiet_nil ?_; rintro _ ⟨⟨w1, hbn⟩, rfl⟩; (try simp only [After.w]))
    replace kk := kk.keep hbn
    replace hg := grown_trans hg (grown_of_below hbn _)
    clear hbn s0 s1 hy
    have hz := and255 (x + y)
    generalize bits BinOp.and IntKind.i64 (x + y) 255 = z at *
    obtain ⟨hz0, hz1⟩ := hz
    have s1 := kk.cell 1 (.int .i64 i) rfl
    have f1 := kk.free 1
    have k2 : Blk _ g #[.slice (some ⟨b, off, none⟩) n cap, .int .i64 ((i : Int) + 1), .int .i64 h2] 91 := kk.set 1 (.int .i64 ((i : Int) + 1))
    have hg2 := grown_trans hg (grown_set _ g 1 (.int .i64 ((i : Int) + 1)))
    have hB2 := hB.grown hg2 (fun h0 a e e' => by injection e' with e'; have := hlo h0 a e; omega)
    clear hB' hg kk
    go_wp2
    go_ret
    exact ⟨z, rfl, hz0, hz1, ⟨_, n, cap, i + 1, h2, k2, by omega, hn, hB2, hlo⟩, hg2⟩
  · have HE : Hid (i = n) := by have := HI.out; show i = n; omega
    go_wp2
    go_ret
    exact ⟨x, rfl, hx0, hx1, ⟨oa, n, cap, i, h2, kk, HI.out, hn, hB.grown hg (fun h0 a e e' => by injection e' with e'; have := hlo h0 a e; omega), hlo⟩, hg⟩
end Go.Proofs.YtcenndlbhgfdfaaGreat
namespace Go.Proofs.YtcenndlbhgfdfaaGreat
open Go.RowKit
set_option linter.unusedVariables false
set_option maxRecDepth 100000

theorem tmod_in {x n : Int} (h0 : 0 ≤ x) (hn : 0 < n) : 0 ≤ x.tmod n ∧ x.tmod n < n := by
  rw [Int.tmod_eq_emod_of_nonneg h0]
  exact ⟨Int.emod_nonneg _ (by omega), Int.emod_lt_of_pos _ hn⟩
set_option maxHeartbeats 800000 in
theorem c_l1Below (g : Nat) (n : Int) (hn : n ≤ 256) (w : World) (hc : Cur w g) :
    Calls Tryz.prog 64 #[.pointer (some ⟨g, 0, none⟩), .int .i64 n] w fun e w' => ∃ x : Int, e = .returned (.int .i64 x) ∧ 0 ≤ x ∧ (0 < n → x < n) ∧ (n ≤ 0 → x = 0) ∧ Cur w' g ∧ w.grownBy w' (some g) := by
  by_cases h0 : n ≤ 0
  · go_enter Tryz.func64, Tryz.ntmps64
    go_wp2
    go_ret
    exact ⟨0, rfl, by omega, by omega, fun _ => rfl, hc, grown_refl _ _⟩
  · have hne : n ≠ 0 := by omega
    have hne1 : n ≠ -1 := by omega
    go_enter Tryz.func64, Tryz.ntmps64
    go_wp2_with fail
    refine (c_l1Byte g _ hc).mono ?_
    rintro e w1 ⟨x, rfl, hx0, hx1, hc1, hg⟩
    have hm0 := Int.emod_nonneg x hne
    have hm1 := Int.emod_lt_of_pos x (show 0 < n by omega)
    clear hc
    go_wp2
    go_ret
    exact ⟨x % n, rfl, hm0, fun _ => hm1, fun h => by omega, hc1, hg⟩
theorem c_l1Once (g : Nat) (n : Int) (hn : n ≤ 256) (w : World) (hc : Cur w g) :
    Calls Tryz.prog 58 #[.pointer (some ⟨g, 0, none⟩), .int .i64 n] w fun e w' => ∃ b : Bool, e = .returned (.bool b) ∧ Cur w' g ∧ w.grownBy w' (some g) := by
  go_enter Tryz.func58, Tryz.ntmps58
  go_wp2_with fail
  refine (c_l1Below g n hn _ hc).mono ?_
  rintro e w1 ⟨x, rfl, _, _, _, hc1, hg⟩
  clear hc
  go_wp2
  go_ret
  exact ⟨_, rfl, hc1, hg⟩
theorem IntsAt.grown {w w' : World} {oa : Option Addr} {L : List Int} {row : Option Nat} (h : IntsAt w oa L) (hg : w.grownBy w' row) (hne : ∀ a, oa = some a → some a.block ≠ row) : IntsAt w' oa L :=
  ⟨h.len, fun h0 => by
    obtain ⟨b, off, e, hlt, hc⟩ := h.at_ h0
    exact ⟨b, off, e, Nat.lt_of_lt_of_le hlt hg.size, fun k hk => by rw [World.cell?_of_block (hg.block b hlt (hne _ e))]; exact hc k hk⟩⟩
theorem c_l1PickInt (g : Nat) (oa) (cap : Nat) (L : List Int) (h0 : 0 < L.length) (hl : L.length ≤ 256) (w : World) (hc : Cur w g) (hL : IntsAt w oa L) (hne : ∀ a, oa = some a → a.block ≠ g) :
    Calls Tryz.prog 42 #[.pointer (some ⟨g, 0, none⟩), .slice oa L.length cap] w fun e w' => ∃ x : Int, e = .returned (.int .i64 x) ∧ x ∈ L ∧ Cur w' g ∧ w.grownBy w' (some g) := by
  go_enter Tryz.func42, Tryz.ntmps42
  go_wp2_with fail
  refine (c_l1Below g L.length (by omega) _ hc).mono ?_
  rintro e w1 ⟨x, rfl, hx0, hx1, _, hc1, hg⟩
  obtain ⟨k, rfl⟩ := Int.eq_ofNat_of_zero_le hx0
  have hk : k < L.length := by have := hx1 (by omega); omega
  replace hL := hL.grown hg (fun a e e' => hne a e (by injection e'))
  obtain ⟨b, off, rfl, hbs, hcell⟩ := hL.at_ (by omega)
  have h1 := hcell k hk
  have HM : Hid (nth L k ∈ L) := List.mem_iff_getElem?.2 ⟨k, nth_eq hk⟩
  clear hcell hx1 hc hne hL
  go_wp2
  go_ret
  exact ⟨_, rfl, HM.out, hc1, hg⟩
/-- A literal list of ints behind the cursor. -/
theorem lit_ints (w : World) (cs : Array Value) (L : List Int) (hl : L.length ≤ 100) (hcs : ∀ k, k < L.length → cs[k]? = some (.int .i64 (nth L k))) (T : TypeId) : IntsAt (w.alloc (.cells cs T)) (some ⟨w.heap.size, 0, none⟩) L :=
  ⟨by unfold Room; omega, fun _ => ⟨w.heap.size, 0, rfl, by simp, fun k hk => by rw [Nat.zero_add]; simp only [World.cell?, heap_alloc_new]; exact hcs k hk⟩⟩
theorem cur_alloc {w : World} {g : Nat} (h : Cur w g) (o : Obj) : Cur (w.alloc o) g := h.keep ((Below.refl _ _).alloc (Nat.le_refl _) o)
theorem grown_alloc {w w' : World} {row : Option Nat} {o : Obj} (h : (w.alloc o).grownBy w' row) : w.grownBy w' row := grown_trans (grown_of_below ((Below.refl _ _).alloc (Nat.le_refl _) o) row) h
theorem c_l2Any (g : Nat) (w : World) (hc : Cur w g) :
    Calls Tryz.prog 109 #[.pointer (some ⟨g, 0, none⟩)] w fun e w' => ∃ x : Int, e = .returned (.int .i64 x) ∧ -1 ≤ x ∧ x ≤ 33 ∧ Cur w' g ∧ w.grownBy w' (some g) := by
  go_enter Tryz.func109, Tryz.ntmps109
  go_wp2_with fail
  refine (c_l1Once g 8 (by omega) _ hc).mono ?_
  rintro e w1 ⟨t, rfl, hc1, hg⟩
  clear hc
  cases t
  · go_wp2_with fail
    refine (c_l1Below g 32 (by omega) _ hc1).mono ?_
    rintro e w2 ⟨x, rfl, hx0, hx1, _, hc2, hg2⟩
    have h32 := hx1 (by omega)
    replace hg := grown_trans hg hg2
    clear hc1 hg2 hx1
    go_wp2
    go_ret
    exact ⟨x, rfl, by omega, by omega, hc2, hg⟩
  · have hL := fun T => lit_ints w1 #[.int .i64 (-1), .int .i64 31, .int .i64 32, .int .i64 33] [-1, 31, 32, 33] (by simp) (fun k hk => by match k, hk with | 0, _ => rfl | 1, _ => rfl | 2, _ => rfl | 3, _ => rfl) T
    have hlt := hc1.lt
    go_wp2_with fail
    refine (c_l1PickInt g _ 4 [-1, 31, 32, 33] (by simp) (by simp) _ (cur_alloc hc1 _) (hL _) (fun a e => by injection e with e; subst e; simp; omega)).mono ?_
    rintro e w2 ⟨x, rfl, hx, hc2, hg2⟩
    replace hg := grown_trans hg (grown_alloc hg2)
    have hx2 : -1 ≤ x ∧ x ≤ 33 := by simp at hx; omega
    clear hc1 hg2 hL hx
    go_wp2
    go_ret
    exact ⟨x, rfl, hx2.1, hx2.2, hc2, hg⟩
end Go.Proofs.YtcenndlbhgfdfaaGreat
namespace Go.Proofs.YtcenndlbhgfdfaaGreat
open Go.RowKit
set_option linter.unusedVariables false
set_option maxRecDepth 100000

set_option maxHeartbeats 800000 in
theorem c_l1New (oa) (n cap : Nat) (hn : n ≤ 1048576) (w : World) (hB : BytesAt w oa n) :
    Calls Tryz.prog 40 #[.slice oa n cap] w fun e w' => e = .returned (.pointer (some ⟨w.heap.size, 0, none⟩)) ∧ Cur w' w.heap.size ∧ Below w.heap.size w w' := by
  go_enter Tryz.func40, Tryz.ntmps40
  go_wp2
  go_loop [3, 4] (fun h i => ∃ (x : Int) (k : Nat), h = .int .i64 x ∧ i = .int .i64 k ∧ k ≤ n) (fun _ i => n - (intOf i).toNat)
  case atStart => exact ⟨_, 0, rfl, rfl, Nat.zero_le _⟩
  case round =>
    obtain ⟨x, k, rfl, rfl, hk⟩ := hrel
    by_cases hlt : k < n
    · by_cases h4 : (k : Int) < 4000
      · obtain ⟨b, off, rfl, hbs, hc⟩ := hB.at_ (by omega)
        obtain ⟨y, hy, hy0, hy1⟩ := hc k hlt
        clear hc hB
        go_wp2
        go_round
        case rel => exact ⟨_, k + 1, rfl, by go_num, by omega⟩
        case measure => simp [intOf]; omega
      · go_wp2
        go_ret
        exact ⟨rfl, ⟨oa, n, cap, 0, x, Blk.new w _ _, Nat.zero_le _, hn, hB.keep ((Below.refl _ _).alloc (Nat.le_refl _) _), fun h0 a e => by obtain ⟨b, off, e', hlt, _⟩ := hB.at_ h0; rw [e] at e'; injection e' with e'; rw [e']; exact hlt⟩, (Below.refl _ _).alloc (Nat.le_refl _) _⟩
    · have hkk : k = n := by omega
      have HK : Hid (k = n) := hkk
      clear hkk
      go_wp2
      go_ret
      exact ⟨rfl, ⟨oa, n, cap, 0, x, Blk.new w _ _, Nat.zero_le _, hn, hB.keep ((Below.refl _ _).alloc (Nat.le_refl _) _), fun h0 a e => by obtain ⟨b, off, e', hlt, _⟩ := hB.at_ h0; rw [e] at e'; injection e' with e'; rw [e']; exact hlt⟩, (Below.refl _ _).alloc (Nat.le_refl _) _⟩
/-- Whatever was made before the cursor's own turns lies as it lay. -/
theorem Blk.cur {w w' : World} {k g : Nat} {c : Array Value} {T : TypeId} (h : Blk w k c T) (hg : w.grownBy w' (some g)) (hne : k ≠ g) : Blk w' k c T := h.gr hg (fun e => hne (by injection e))
theorem grown_new {w w2 : World} {g k j : Nat} {v : Value} (hG : w.grownBy w2 (some g)) (hk : w.heap.size ≤ k) : w.grownBy (w2.setCell ⟨k, j, none⟩ v) (some g) :=
  ⟨hG.os, hG.tape, hG.output, by have := hG.size; simpa using this, fun i hi hne => (Below.heap_setCell w2 ⟨k, j, none⟩ v i (by show i ≠ k; omega)).trans (hG.block i hi hne)⟩
theorem Cur.set {w : World} {g k j : Nat} {v : Value} (h : Cur w g) (hk : g < k) : Cur (w.setCell ⟨k, j, none⟩ v) g := h.grown (grown_set w k j v) (fun i e => by injection e with e; omega)
set_option maxHeartbeats 800000 in
theorem c_l6Dep (g : Nat) (N : Nat) (h5 : N ≤ 5) (w : World) (hc : Cur w g) :
    Calls Tryz.prog 87 #[.pointer (some ⟨g, 0, none⟩), .int .i64 N] w fun e w' => ∃ l r : Int, e = .returned (.agg #[.int .i64 l, .int .i64 r]) ∧ Cur w' g ∧ w.grownBy w' (some g) := by
  have hp := pow_wrap (n := (N : Int)) (by omega) (by omega)
  simp only [Int.toNat_natCast] at hp
  have hp1 := hp.1
  have hp2 := hp.2.1
  clear hp
  have hlt := hc.lt
  have kZ := Blk.new w #[.int .i64 0, .int .i64 0] 38
  have hG := grown_of_below ((Below.refl w.heap.size w).alloc (Nat.le_refl _) (.cells #[.int .i64 0, .int .i64 0] 38)) (some g)
  replace hc := cur_alloc hc (.cells #[.int .i64 0, .int .i64 0] 38)
  go_enter Tryz.func87, Tryz.ntmps87
  go_wp2_with fail
  refine (c_l1Below g (2 ^ N) (by omega) _ hc).mono ?_
  rintro e w1 ⟨x, rfl, _, _, _, hc1, hg⟩
  replace kZ := kZ.cur hg (by omega)
  replace hG := grown_trans hG hg
  clear hc hg
  go_wp2_with fail
  refine (c_l1Below g N (by omega) _ hc1).mono ?_
  rintro e w2 ⟨y, rfl, _, _, _, hc2, hg⟩
  replace kZ := kZ.cur hg (by omega)
  replace hG := grown_trans hG hg
  clear hc1 hg
  have z0 := kZ.cell 0 (.int .i64 0) rfl
  have z1 := kZ.cell 1 (.int .i64 0) rfl
  have f0 := kZ.free 0
  have f1 := kZ.free 1
  go_wp2
  exact bodyPost_ret (v := .agg #[.int .i64 x, .int .i64 y]) (by simp [results, Tryz.results87, go_sem, z0, z1]) rfl ⟨x, y, rfl, (hc2.set hlt).set hlt, grown_new (grown_new hG (Nat.le_refl _)) (Nat.le_refl _)⟩
set_option maxHeartbeats 1600000 in
theorem c_l6Any (g : Nat) (n : Int) (w : World) (hc : Cur w g) :
    Calls Tryz.prog 78 #[.pointer (some ⟨g, 0, none⟩), .int .i64 n] w fun e w' => ∃ l r : Int, e = .returned (.agg #[.int .i64 l, .int .i64 r]) ∧ Cur w' g ∧ w.grownBy w' (some g) := by
  have hlt := hc.lt
  have kZ := Blk.new w #[.int .i64 0, .int .i64 0] 38
  have hG := grown_of_below ((Below.refl w.heap.size w).alloc (Nat.le_refl _) (.cells #[.int .i64 0, .int .i64 0] 38)) (some g)
  replace hc := cur_alloc hc (.cells #[.int .i64 0, .int .i64 0] 38)
  cases hin : inB n 1 5
  · go_enter Tryz.func78, Tryz.ntmps78
    go_wp2_with fail
    refine Calls.mono (Ans.eqb (c_l1In _ _ _ _) hin) ?_
    rintro e w1 ⟨rfl, hbn⟩
    replace kZ := kZ.keep hbn
    replace hc := hc.keep hbn
    replace hG := grown_trans hG (grown_of_below hbn _)
    clear hbn
    go_wp2_with fail
    refine (c_l6Dep g 3 (by omega) _ hc).mono ?_
    rintro e w2 ⟨l, r, rfl, hc2, hg⟩
    replace kZ := kZ.cur hg (by omega)
    replace hG := grown_trans hG hg
    clear hc hg
    have kD := Blk.new w2 #[.int .i64 l, .int .i64 r] 38
    have hl2 := kZ.lt
    replace kZ := kZ.alloc (.cells #[.int .i64 l, .int .i64 r] 38)
    replace hc2 := cur_alloc hc2 (.cells #[.int .i64 l, .int .i64 r] 38)
    replace hG := grown_trans hG (grown_of_below ((Below.refl w2.heap.size w2).alloc (Nat.le_refl _) (.cells #[.int .i64 l, .int .i64 r] 38)) (some g))
    go_wp2_with fail
    refine (c_l1Below g 14 (by omega) _ hc2).mono ?_
    rintro e w3 ⟨q, rfl, _, _, _, hc3, hg⟩
    replace kZ := kZ.cur hg (by omega)
    replace kD := kD.cur hg (by omega)
    replace hG := grown_trans hG hg
    clear hc2 hg
    by_cases e0 : q = 0
    · go_wp2_with fail
      refine (c_l2Any g _ hc3).mono ?_
      rintro e w4 ⟨x, rfl, _, _, hc4, hg⟩
      replace kZ := kZ.cur hg (by omega)
      replace kD := kD.cur hg (by omega)
      replace hG := grown_trans hG hg
      clear hc3 hg
      have d0 := kD.cell 0 (.int .i64 l) rfl
      have d1 := kD.cell 1 (.int .i64 r) rfl
      have e0' := kD.free 0
      have z0 := kZ.cell 0 (.int .i64 0) rfl
      have z1 := kZ.cell 1 (.int .i64 0) rfl
      have f0 := kZ.free 0
      have f1 := kZ.free 1
      have kD2 : Blk _ w2.heap.size #[.int .i64 x, .int .i64 r] 38 := kD.set 0 (.int .i64 x)
      have kZ2 := kZ.far ⟨w2.heap.size, 0, none⟩ (.int .i64 x) (by simp; omega)
      have y0 := kD2.cell 0 (.int .i64 x) rfl
      have y1 := kD2.cell 1 (.int .i64 r) rfl
      have v0 := kZ2.cell 0 (.int .i64 0) rfl
      have v1 := kZ2.cell 1 (.int .i64 0) rfl
      have g0 := kZ2.free 0
      have g1 := kZ2.free 1
      have hc5 := Cur.set (j := 0) (v := .int .i64 x) hc4 (show g < w2.heap.size by omega)
      have hG5 := grown_new (j := 0) (v := .int .i64 x) hG (show w.heap.size ≤ w2.heap.size by omega)
      go_wp2
      exact bodyPost_ret (v := .agg #[.int .i64 x, .int .i64 r]) (by simp [results, Tryz.results78, go_sem, v0, v1]) rfl ⟨x, r, rfl, (hc5.set hlt).set hlt, grown_new (grown_new hG5 (Nat.le_refl _)) (Nat.le_refl _)⟩
    · by_cases e1 : q = 1
      · have hL := fun T => lit_ints w3 #[.int .i64 (-1), .int .i64 4, .int .i64 5] [-1, 4, 5] (by simp) (fun k hk => by match k, hk with | 0, _ => rfl | 1, _ => rfl | 2, _ => rfl) T
        have hlt3 := hc3.lt
        go_wp2_with fail
        refine (c_l1PickInt g _ 3 [-1, 4, 5] (by simp) (by simp) _ (cur_alloc hc3 _) (hL _) (fun a e => by injection e with e; subst e; simp; omega)).mono ?_
        rintro e w4 ⟨x, rfl, _, hc4, hg⟩
        replace hg := grown_alloc hg
        replace kZ := kZ.cur hg (by omega)
        replace kD := kD.cur hg (by omega)
        replace hG := grown_trans hG hg
        clear hc3 hg hL
        have d0 := kD.cell 0 (.int .i64 l) rfl
        have d1 := kD.cell 1 (.int .i64 r) rfl
        have e0' := kD.free 1
        have kD2 : Blk _ w2.heap.size #[.int .i64 l, .int .i64 x] 38 := kD.set 1 (.int .i64 x)
        have kZ2 := kZ.far ⟨w2.heap.size, 1, none⟩ (.int .i64 x) (by simp; omega)
        have y0 := kD2.cell 0 (.int .i64 l) rfl
        have y1 := kD2.cell 1 (.int .i64 x) rfl
        have v0 := kZ2.cell 0 (.int .i64 0) rfl
        have v1 := kZ2.cell 1 (.int .i64 0) rfl
        have g0 := kZ2.free 0
        have g1 := kZ2.free 1
        have hc5 := Cur.set (j := 1) (v := .int .i64 x) hc4 (show g < w2.heap.size by omega)
        have hG5 := grown_new (j := 1) (v := .int .i64 x) hG (show w.heap.size ≤ w2.heap.size by omega)
        go_wp2
        exact bodyPost_ret (v := .agg #[.int .i64 l, .int .i64 x]) (by simp [results, Tryz.results78, go_sem, v0, v1]) rfl ⟨l, x, rfl, (hc5.set hlt).set hlt, grown_new (grown_new hG5 (Nat.le_refl _)) (Nat.le_refl _)⟩
      · have d0 := kD.cell 0 (.int .i64 l) rfl
        have d1 := kD.cell 1 (.int .i64 r) rfl
        have z0 := kZ.cell 0 (.int .i64 0) rfl
        have z1 := kZ.cell 1 (.int .i64 0) rfl
        have f0 := kZ.free 0
        have f1 := kZ.free 1
        go_wp2
        exact bodyPost_ret (v := .agg #[.int .i64 l, .int .i64 r]) (by simp [results, Tryz.results78, go_sem, z0, z1]) rfl ⟨l, r, rfl, (hc3.set hlt).set hlt, grown_new (grown_new hG (Nat.le_refl _)) (Nat.le_refl _)⟩
  · obtain ⟨N, rfl⟩ := Int.eq_ofNat_of_zero_le (show 0 ≤ n by unfold inB at hin; simp at hin; omega)
    have hN : N ≤ 5 := by unfold inB at hin; simp at hin; omega
    go_enter Tryz.func78, Tryz.ntmps78
    go_wp2_with fail
    refine Calls.mono (Ans.eqb (c_l1In _ _ _ _) hin) ?_
    rintro e w1 ⟨rfl, hbn⟩
    replace kZ := kZ.keep hbn
    replace hc := hc.keep hbn
    replace hG := grown_trans hG (grown_of_below hbn _)
    clear hbn
    go_wp2_with fail
    refine (c_l6Dep g N (by omega) _ hc).mono ?_
    rintro e w2 ⟨l, r, rfl, hc2, hg⟩
    replace kZ := kZ.cur hg (by omega)
    replace hG := grown_trans hG hg
    clear hc hg
    have kD := Blk.new w2 #[.int .i64 l, .int .i64 r] 38
    have hl2 := kZ.lt
    replace kZ := kZ.alloc (.cells #[.int .i64 l, .int .i64 r] 38)
    replace hc2 := cur_alloc hc2 (.cells #[.int .i64 l, .int .i64 r] 38)
    replace hG := grown_trans hG (grown_of_below ((Below.refl w2.heap.size w2).alloc (Nat.le_refl _) (.cells #[.int .i64 l, .int .i64 r] 38)) (some g))
    go_wp2_with fail
    refine (c_l1Below g 14 (by omega) _ hc2).mono ?_
    rintro e w3 ⟨q, rfl, _, _, _, hc3, hg⟩
    replace kZ := kZ.cur hg (by omega)
    replace kD := kD.cur hg (by omega)
    replace hG := grown_trans hG hg
    clear hc2 hg
    by_cases e0 : q = 0
    · go_wp2_with fail
      refine (c_l2Any g _ hc3).mono ?_
      rintro e w4 ⟨x, rfl, _, _, hc4, hg⟩
      replace kZ := kZ.cur hg (by omega)
      replace kD := kD.cur hg (by omega)
      replace hG := grown_trans hG hg
      clear hc3 hg
      have d0 := kD.cell 0 (.int .i64 l) rfl
      have d1 := kD.cell 1 (.int .i64 r) rfl
      have e0' := kD.free 0
      have z0 := kZ.cell 0 (.int .i64 0) rfl
      have z1 := kZ.cell 1 (.int .i64 0) rfl
      have f0 := kZ.free 0
      have f1 := kZ.free 1
      have kD2 : Blk _ w2.heap.size #[.int .i64 x, .int .i64 r] 38 := kD.set 0 (.int .i64 x)
      have kZ2 := kZ.far ⟨w2.heap.size, 0, none⟩ (.int .i64 x) (by simp; omega)
      have y0 := kD2.cell 0 (.int .i64 x) rfl
      have y1 := kD2.cell 1 (.int .i64 r) rfl
      have v0 := kZ2.cell 0 (.int .i64 0) rfl
      have v1 := kZ2.cell 1 (.int .i64 0) rfl
      have g0 := kZ2.free 0
      have g1 := kZ2.free 1
      have hc5 := Cur.set (j := 0) (v := .int .i64 x) hc4 (show g < w2.heap.size by omega)
      have hG5 := grown_new (j := 0) (v := .int .i64 x) hG (show w.heap.size ≤ w2.heap.size by omega)
      go_wp2
      exact bodyPost_ret (v := .agg #[.int .i64 x, .int .i64 r]) (by simp [results, Tryz.results78, go_sem, v0, v1]) rfl ⟨x, r, rfl, (hc5.set hlt).set hlt, grown_new (grown_new hG5 (Nat.le_refl _)) (Nat.le_refl _)⟩
    · by_cases e1 : q = 1
      · have hL := fun T => lit_ints w3 #[.int .i64 (-1), .int .i64 4, .int .i64 5] [-1, 4, 5] (by simp) (fun k hk => by match k, hk with | 0, _ => rfl | 1, _ => rfl | 2, _ => rfl) T
        have hlt3 := hc3.lt
        go_wp2_with fail
        refine (c_l1PickInt g _ 3 [-1, 4, 5] (by simp) (by simp) _ (cur_alloc hc3 _) (hL _) (fun a e => by injection e with e; subst e; simp; omega)).mono ?_
        rintro e w4 ⟨x, rfl, _, hc4, hg⟩
        replace hg := grown_alloc hg
        replace kZ := kZ.cur hg (by omega)
        replace kD := kD.cur hg (by omega)
        replace hG := grown_trans hG hg
        clear hc3 hg hL
        have d0 := kD.cell 0 (.int .i64 l) rfl
        have d1 := kD.cell 1 (.int .i64 r) rfl
        have e0' := kD.free 1
        have kD2 : Blk _ w2.heap.size #[.int .i64 l, .int .i64 x] 38 := kD.set 1 (.int .i64 x)
        have kZ2 := kZ.far ⟨w2.heap.size, 1, none⟩ (.int .i64 x) (by simp; omega)
        have y0 := kD2.cell 0 (.int .i64 l) rfl
        have y1 := kD2.cell 1 (.int .i64 x) rfl
        have v0 := kZ2.cell 0 (.int .i64 0) rfl
        have v1 := kZ2.cell 1 (.int .i64 0) rfl
        have g0 := kZ2.free 0
        have g1 := kZ2.free 1
        have hc5 := Cur.set (j := 1) (v := .int .i64 x) hc4 (show g < w2.heap.size by omega)
        have hG5 := grown_new (j := 1) (v := .int .i64 x) hG (show w.heap.size ≤ w2.heap.size by omega)
        go_wp2
        exact bodyPost_ret (v := .agg #[.int .i64 l, .int .i64 x]) (by simp [results, Tryz.results78, go_sem, v0, v1]) rfl ⟨l, x, rfl, (hc5.set hlt).set hlt, grown_new (grown_new hG5 (Nat.le_refl _)) (Nat.le_refl _)⟩
      · have d0 := kD.cell 0 (.int .i64 l) rfl
        have d1 := kD.cell 1 (.int .i64 r) rfl
        have z0 := kZ.cell 0 (.int .i64 0) rfl
        have z1 := kZ.cell 1 (.int .i64 0) rfl
        have f0 := kZ.free 0
        have f1 := kZ.free 1
        go_wp2
        exact bodyPost_ret (v := .agg #[.int .i64 l, .int .i64 r]) (by simp [results, Tryz.results78, go_sem, z0, z1]) rfl ⟨l, r, rfl, (hc3.set hlt).set hlt, grown_new (grown_new hG (Nat.le_refl _)) (Nat.le_refl _)⟩
end Go.Proofs.YtcenndlbhgfdfaaGreat
namespace Go.Proofs.YtcenndlbhgfdfaaGreat
open Go.RowKit
theorem heap_two (w : World) (o1 o2 : Obj) : ((w.alloc o1).alloc o2).heap[w.heap.size + 1]? = some o2 := by
  have := heap_alloc_new (w.alloc o1) o2
  rwa [World.size_alloc] at this
end Go.Proofs.YtcenndlbhgfdfaaGreat
namespace Go.Proofs.YtcenndlbhgfdfaaGreat
open Go.RowKit
set_option linter.unusedVariables false
set_option maxRecDepth 100000
set_option maxHeartbeats 1600000

theorem step_append_own {P : Program} (w : World) {ops : Array Oper} {o : Oper} {a : Act} {K : Act → World → Prop} {Q : Exit → Act → World → Prop} {E : Prop} (hgd : o.guard = none) (s x : Operand) (t : TypeId)
    (ho : o.op = .call { callee := .builtin .append, args := #[s, x], argTypes := #[t, t] })
    (base : Nat) (e : TypeId) (i : TypeInfo) (z : Value) (size bytes : Nat) (ht : P.underlying t = some (.slice e)) (hi : P.info? e = some i) (hz : i.zero = some z)
    (hsize : i.size = size) (hby : i.bytes = bytes) (hzs : z.cells.size = size) (hsz : 0 < size)
    (v : Value) (n : Nat) (xs : List Value) (hs : a.eval s = v) (hown : w.ownsRow base e size v n xs)
    (ad : Addr) (m c : Nat) (news : List Value) (hx : a.eval x = .slice (some ad) m c) (hl : news.length = m * size) (hnews : ∀ j u, news[j]? = some u → w.cell? (ad.add j) = some u) (h1 : ∀ u ∈ news, u.oneCell' = true)
    (h63 : n + m ≤ maxLen) (hbytes : (n + m) * bytes ≤ 140737488355328) (hbase : base ≤ w.heap.size)
    (h : ∀ v' w', w'.ownsRow base e size v' (n + m) (xs ++ news) → w.grownBy w' v.ownBlock → K (a.put o.dst v') w') :
    if Region.wanted o (yielded ops a.tmps) = true then Oper.wp P o a w K Q else E := by
  have hw : Region.wanted o (yielded ops a.tmps) = true := by simp [Region.wanted, hgd]
  rw [if_pos hw]
  exact wp_append_own w s x t ho base e i z size bytes ht hi hz hsize hby hzs hsz v n xs hs hown ad m c news hx hl hnews h1 h63 hbytes hbase fun v' w' h2 h3 _ => h v' w' h2 h3

/-- An operation whose guard is shut, taken first. -/
theorem wpAnyH_skip {P : Program} {ops : Array Oper} {Q : Exit → Act → World → Prop} {md : Region.Mode} {S : World → Prop} {i : Nat} {oi : Oper} (d : Option Nat) {fuel : Nat} {listed : Array Bool} {a : Act} {w : World} (hi : ops[i]? = some oi) (hd : oi.dst = d)
    (hs : Region.noSelect ops = true) (hf : Region.free md ops listed i = true) (hr : (Region.ready md ops listed).contains i = true)
    (hQ : ∀ c a w, Q (.panic c) (a.put d undef) w → Q (.panic c) a w) (hy : Region.wanted oi (yielded ops a.tmps) = false) (hS : S w)
    (h : wpAnyH P md ops Q S fuel (listed.setIfInBounds i true) (a.put d undef) w) : wpAnyH P md ops Q S (fuel + 1) listed a w := by
  subst hd
  exact wpAnyH_take hi hs hf hr hQ (Or.inr ⟨hy, rfl⟩) hS h
/-- An operation that yields a value whatever the world, taken first. -/
theorem wpAnyH_val {P : Program} {ops : Array Oper} {Q : Exit → Act → World → Prop} {md : Region.Mode} {S : World → Prop} {i : Nat} {oi : Oper} (d : Option Nat) (v : Value) {fuel : Nat} {listed : Array Bool} {a : Act} {w : World} (hi : ops[i]? = some oi) (hd : oi.dst = d)
    (hs : Region.noSelect ops = true) (hf : Region.free md ops listed i = true) (hr : (Region.ready md ops listed).contains i = true)
    (hQ : ∀ c a w, Q (.panic c) (a.put d v) w → Q (.panic c) a w) (hw : Region.wanted oi (yielded ops a.tmps) = true) (hS : S w) (hy : ∀ w, S w → (execOp a.eval oi).run P w = .ok (.value v) w)
    (h : wpAnyH P md ops Q S fuel (listed.setIfInBounds i true) (a.put d v) w) : wpAnyH P md ops Q S (fuel + 1) listed a w := by
  subst hd
  exact wpAnyH_take hi hs hf hr hQ (Or.inl ⟨hw, hy⟩) hS h
theorem nl_take {D : List (Int × Int)} {i k : Nat} (h : k < i) : nl (D.take i) k = nl D k := by unfold nl; simp [List.getD, h]
theorem nr_take {D : List (Int × Int)} {i k : Nat} (h : k < i) : nr (D.take i) k = nr D k := by unfold nr; simp [List.getD, h]
theorem DepsAt.take {w : World} {oa : Option Addr} {D : List (Int × Int)} (h : DepsAt w oa D) (i : Nat) : DepsAt w oa (D.take i) := by
  refine ⟨by have := h.len; rw [List.length_take]; omega, fun h0 => ?_⟩
  rw [List.length_take] at h0
  obtain ⟨b, off, e, hlt, hc⟩ := h.at_ (by omega)
  refine ⟨b, off, e, hlt, fun k hk => ?_⟩
  rw [List.length_take] at hk
  rw [nl_take (by omega), nr_take (by omega)]
  exact hc k (by omega)
theorem c_copyTake (a : Addr) (cap i : Nat) (D : List (Int × Int)) (w : World) (hD : DepsAt w (some a) D) (hi : i ≤ D.length) :
    Calls Tryz.prog 88 #[.slice (some a) i cap] w fun e w' => ∃ v, e = .returned v ∧ OwnD w' w.heap.size v (D.take i) ∧ Below w.heap.size w w' := by
  have h := c_copyDeps (some a) cap (D.take i) w (hD.take i) (by intro h; cases h)
  rwa [List.length_take, Nat.min_eq_left hi] at h
theorem OwnD.row {w : World} {base : Nat} {v : Value} {i : Nat} {D : List (Int × Int)} (hi : i ≤ D.length) (h : OwnD w base v (D.take i)) : w.ownsRow base 38 2 v i (dcells (D.take i)) := by
  unfold OwnD at h; rwa [List.length_take, Nat.min_eq_left hi] at h

theorem no_news {w : World} {ad : Addr} : ∀ (j : Nat) (u : Value), ([] : List Value)[j]? = some u → w.cell? (ad.add j) = some u := by intro j u hj; cases hj
theorem no_one : ∀ u ∈ ([] : List Value), u.oneCell' = true := by intro u hu; cases hu
end Go.Proofs.YtcenndlbhgfdfaaGreat
