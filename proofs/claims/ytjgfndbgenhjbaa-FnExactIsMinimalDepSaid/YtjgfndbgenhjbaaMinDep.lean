/- IsMinimalDep, of the program and of the reference. -/
import Derived.Test.YtjgfndbgenhjbaaHold2
import Derived.Test.YtjgfndbgenhjbaaMembers
namespace Go.Proofs.Ytjgfndbgenhjbaa
open Go.RowKit
set_option linter.unusedVariables false
set_option maxRecDepth 100000

def isMinF (n : Int) (R : List (List Int)) (m l r : Int) : Bool :=
  askF n R m l r && (holdsF R m l r && (!hasc l r && (membersF l).all fun c => !holdsF R m (dif l (one c)) r))
theorem dif_le {x c : Int} (hx : St x) (hc : Co c) : 0 ≤ dif x (one c) ∧ dif x (one c) ≤ x := by
  obtain ⟨n, hn, rfl⟩ := st_nat hx; obtain ⟨k, hk, rfl⟩ := co_nat hc
  have h : ∀ n < 32, ∀ k < 5, 0 ≤ dif ((n : Nat) : Int) (one ((k : Nat) : Int)) ∧ dif ((n : Nat) : Int) (one ((k : Nat) : Int)) ≤ ((n : Nat) : Int) := by decide +kernel
  exact h n hn k hk
theorem ask_less {n : Int} {R : List (List Int)} {m l r c : Int} (h : askF n R m l r = true) (hc : Co c) : askF n R m (dif l (one c)) r = true := by
  unfold askF at h ⊢
  simp only [Bool.and_eq_true] at h ⊢
  obtain ⟨⟨ht, hm⟩, hd⟩ := h
  obtain ⟨hl, hr⟩ := dep_of hd (isTab_of ht).2.1
  refine ⟨⟨ht, hm⟩, ?_⟩
  have h2 := dif_le hl hc
  unfold isDepF isAttr at hd ⊢
  simp only [Bool.and_eq_true, decide_eq_true_eq] at hd ⊢
  obtain ⟨⟨⟨a, ⟨⟨b, c'⟩, d⟩, e⟩, f⟩, g⟩ := hd
  exact ⟨⟨⟨a, ⟨⟨b, c'⟩, h2.1⟩, by omega⟩, f⟩, g⟩

set_option maxHeartbeats 800000 in
theorem c_IsMinimalDep (n : Int) (oa) (cap : Nat) (R : List (List Int)) (m l r : Int) (w : World) (hR : RowsAt w oa R) :
    Ans Try.prog 30 #[.agg #[.int .i64 n, .slice oa R.length cap], .int .i64 m, .agg #[.int .i64 l, .int .i64 r]] w (.bool (isMinF n R m l r)) := by
  unfold Ans
  have hb := bel2 w (.cells #[.int .i64 n, .slice oa R.length cap] 28) (.cells #[.int .i64 l, .int .i64 r] 33)
  have a0 := two_a w #[.int .i64 n, .slice oa R.length cap] 28 #[.int .i64 l, .int .i64 r] 33 0 _ rfl
  have a1 := two_a w #[.int .i64 n, .slice oa R.length cap] 28 #[.int .i64 l, .int .i64 r] 33 1 _ rfl
  have d0 := two_b w #[.int .i64 n, .slice oa R.length cap] 28 #[.int .i64 l, .int .i64 r] 33 0 _ rfl
  have d1 := two_b w #[.int .i64 n, .slice oa R.length cap] 28 #[.int .i64 l, .int .i64 r] 33 1 _ rfl
  cases hh : (askF n R m l r && holdsF R m l r)
  · have HM : Hid (isMinF n R m l r = false) := by show isMinF n R m l r = false; unfold isMinF; rw [← Bool.and_assoc, hh]; rfl
    go_enter Try.func30, Try.ntmps30
    go_wp2_with (first | (go_at_call 81; refine Calls.mono (Ans.eqb (c_HoldsDep _ _ _ _ _ _ _ _ (hR.keep hb)) hh) ?_; rintro e w1 ⟨rfl, hbn⟩; replace a0 := cell_keep a0 hbn; replace a1 := cell_keep a1 hbn; replace d0 := cell_keep d0 hbn; replace d1 := cell_keep d1 hbn; replace hb := bel_to (w := w) (by first | exact hb | exact hb.alloc hb.size _ | exact (hb.alloc hb.size _).alloc (Nat.le_trans hb.size (by simp)) _ | exact hb.setCell (by simp [hb.size]) _) hbn; clear hbn))
    go_ret
    exact ⟨ret_bool HM.out.symm, hb⟩
  have hh2 : askF n R m l r = true ∧ holdsF R m l r = true := by simpa using hh
  have hdep : St l ∧ Co r := by
    have h := hh2.1
    unfold askF at h
    simp only [Bool.and_eq_true] at h
    exact dep_of h.2 (isTab_of h.1.1).2.1
  have hr64 : 0 ≤ r ∧ r < 64 := ⟨hdep.2.1, by have := hdep.2.2; omega⟩
  have HK : Hid (∀ c, Co c → askF n R m (dif l (one c)) r = true) := fun c hc => ask_less hh2.1 hc
  have HD : Hid (St l ∧ Co r) := hdep
  clear hdep
  cases hlr : hasc l r
  case true =>
    have HM : Hid (isMinF n R m l r = false) := by show isMinF n R m l r = false; unfold isMinF; rw [hlr]; simp
    go_enter Try.func30, Try.ntmps30
    go_wp2_with (first | (go_at_call 81; refine Calls.mono (Ans.eqb (c_HoldsDep _ _ _ _ _ _ _ _ (hR.keep hb)) hh) ?_; rintro e w1 ⟨rfl, hbn⟩; replace a0 := cell_keep a0 hbn; replace a1 := cell_keep a1 hbn; replace d0 := cell_keep d0 hbn; replace d1 := cell_keep d1 hbn; replace hb := bel_to (w := w) (by first | exact hb | exact hb.alloc hb.size _ | exact (hb.alloc hb.size _).alloc (Nat.le_trans hb.size (by simp)) _ | exact hb.setCell (by simp [hb.size]) _) hbn; clear hbn) | (go_at_call 82; refine Calls.mono (Ans.eqb (c_has _ _ hr64 _) hlr) ?_; rintro e w1 ⟨rfl, hbn⟩; replace a0 := cell_keep a0 hbn; replace a1 := cell_keep a1 hbn; replace d0 := cell_keep d0 hbn; replace d1 := cell_keep d1 hbn; replace hb := bel_to (w := w) (by first | exact hb | exact hb.alloc hb.size _ | exact (hb.alloc hb.size _).alloc (Nat.le_trans hb.size (by simp)) _ | exact hb.setCell (by simp [hb.size]) _) hbn; clear hbn))
    go_ret
    exact ⟨ret_bool HM.out.symm, hb⟩
  have HM : Hid (isMinF n R m l r = (membersF l).all fun c => !holdsF R m (dif l (one c)) r) := by show isMinF n R m l r = _; unfold isMinF; rw [hh2.1, hh2.2, hlr]; rfl
  have HC : Hid (∀ c ∈ membersF l, Co c) := fun c hc => (members_co c hc).1
  have hml := members_len l
  clear hh2
  go_enter Try.func30, Try.ntmps30
  go_wp2_with (first | (go_at_call 81; refine Calls.mono (Ans.eqb (c_HoldsDep _ _ _ _ _ _ _ _ (hR.keep hb)) hh) ?_; rintro e w1 ⟨rfl, hbn⟩; replace a0 := cell_keep a0 hbn; replace a1 := cell_keep a1 hbn; replace d0 := cell_keep d0 hbn; replace d1 := cell_keep d1 hbn; replace hb := bel_to (w := w) (by first | exact hb | exact hb.alloc hb.size _ | exact (hb.alloc hb.size _).alloc (Nat.le_trans hb.size (by simp)) _ | exact hb.setCell (by simp [hb.size]) _) hbn; clear hbn) | (go_at_call 82; refine Calls.mono (Ans.eqb (c_has _ _ hr64 _) hlr) ?_; rintro e w1 ⟨rfl, hbn⟩; replace a0 := cell_keep a0 hbn; replace a1 := cell_keep a1 hbn; replace d0 := cell_keep d0 hbn; replace d1 := cell_keep d1 hbn; replace hb := bel_to (w := w) (by first | exact hb | exact hb.alloc hb.size _ | exact (hb.alloc hb.size _).alloc (Nat.le_trans hb.size (by simp)) _ | exact hb.setCell (by simp [hb.size]) _) hbn; clear hbn))
  refine (c_Members _ _).mono ?_
  rintro e w1 ⟨v1, rfl, hM, hbn⟩
  replace a0 := cell_keep a0 hbn
  replace a1 := cell_keep a1 hbn
  replace d0 := cell_keep d0 hbn
  replace d1 := cell_keep d1 hbn
  replace hb := bel_to hb hbn
  generalize membersF l = M at *
  obtain ⟨oM, cM, hvM, hcM⟩ := owns_cells hM
  subst hvM
  have hMl : M.length ≤ Room := by unfold Room; omega
  obtain ⟨oM', cM', hvM', hL⟩ := hM.reads hMl
  simp only [Value.slice.injEq] at hvM'
  obtain ⟨rfl, _, rfl⟩ := hvM'
  clear hbn hM hcM
  go_wp2
  go_loopw [25] (fun i wr => ∃ k : Nat, i = .int .i64 k ∧ k ≤ M.length ∧ (M.take k).all (fun c => !holdsF R m (dif l (one c)) r) = true ∧ IntsAt wr oM M ∧ wr.cell? ⟨w.heap.size, 0, none⟩ = some (.int .i64 n) ∧ wr.cell? ⟨w.heap.size, 1, none⟩ = some (.slice oa R.length cap) ∧ wr.cell? ⟨w.heap.size + 1, 0, none⟩ = some (.int .i64 l) ∧ wr.cell? ⟨w.heap.size + 1, 1, none⟩ = some (.int .i64 r) ∧ Below w.heap.size w wr) (fun i _ => M.length - (intOf i).toNat)
  case atStart => exact ⟨0, rfl, Nat.zero_le _, by simp, hL, a0, a1, d0, d1, hb⟩
  case round =>
    clear a0 a1 d0 d1 hb hL
    obtain ⟨k, rfl, hk, hall, hL, a0, a1, d0, d1, hb⟩ := hrel
    have HA : Hid ((M.take k).all (fun c => !holdsF R m (dif l (one c)) r) = true) := hall
    clear hall
    by_cases hlt : k < M.length
    · obtain ⟨b, off, rfl, hbs, hca⟩ := hL.at_ (by omega)
      have hc1 := hca k hlt
      have hco := HC.out _ (List.mem_iff_getElem?.2 ⟨k, nth_eq hlt⟩)
      have HT : Hid ((M.take (k + 1)).all (fun c => !holdsF R m (dif l (one c)) r) = ((M.take k).all (fun c => !holdsF R m (dif l (one c)) r) && !holdsF R m (dif l (one (nth M k))) r)) := all_take_succ (fun c => !holdsF R m (dif l (one c)) r) M k hlt
      have HF : Hid ((!holdsF R m (dif l (one (nth M k))) r) = false → M.all (fun c => !holdsF R m (dif l (one c)) r) = false) := all_false (fun c => !holdsF R m (dif l (one c)) r) M k hlt
      clear hca
      generalize nth M k = c at *
      have hco1 := hco.1
      have hco2 := hco.2
      have HKc : Hid (askF n R m (dif l (one c)) r = true) := HK.out c hco
      have hx := fun (x : After wr) => (hR.keep hb).keep x.bel
      clear hco
      cases hy : holdsF R m (dif l (one c)) r
      · go_wp2_with fail
        (refine wp_region_after (by kernel_rfl) (by kernel_rfl) ?_; have q_a0 := fun (x : After _) => cell_keep a0 x.bel; have q_a1 := fun (x : After _) => cell_keep a1 x.bel; have q_d0 := fun (x : After _) => cell_keep d0 x.bel; have q_d1 := fun (x : After _) => cell_keep d1 x.bel; have q_hc1 := fun (x : After _) => cell_keep hc1 x.bel; (repeat (go_big_quiet_step ((first | (go_at_call 81; exact Ans.after (Ans.eqb (b' := false) (c_HoldsDep n _ _ R m (dif l (one c)) r _ (hx _)) (by rw [HKc.out, hy]; rfl))))))); clear q_a0; clear q_a1; clear q_d0; clear q_d1; clear q_hc1; refine wpQuiet_nil ?_; rintro _ ⟨⟨w1, hbn⟩, rfl⟩; (try simp only [After.w]); replace a0 := cell_keep a0 hbn; replace a1 := cell_keep a1 hbn; replace d0 := cell_keep d0 hbn; replace d1 := cell_keep d1 hbn; replace hc1 := cell_keep hc1 hbn; replace hL := hL.keep hbn; replace hb := bel_to (w := w) (by first | exact hb | exact hb.alloc hb.size _ | exact (hb.alloc hb.size _).alloc (Nat.le_trans hb.size (by simp)) _ | exact hb.setCell (by simp [hb.size]) _) hbn; clear hbn)
        go_wp2
        go_roundw
        case rel => exact ⟨k + 1, by go_num, by omega, by rw [HT.out, HA.out, hy]; rfl, hL, a0, a1, d0, d1, hb⟩
        case measure => simp [intOf]; omega
      · go_wp2_with fail
        (refine wp_region_after (by kernel_rfl) (by kernel_rfl) ?_; have q_a0 := fun (x : After _) => cell_keep a0 x.bel; have q_a1 := fun (x : After _) => cell_keep a1 x.bel; have q_d0 := fun (x : After _) => cell_keep d0 x.bel; have q_d1 := fun (x : After _) => cell_keep d1 x.bel; have q_hc1 := fun (x : After _) => cell_keep hc1 x.bel; (repeat (go_big_quiet_step ((first | (go_at_call 81; exact Ans.after (Ans.eqb (b' := true) (c_HoldsDep n _ _ R m (dif l (one c)) r _ (hx _)) (by rw [HKc.out, hy]; rfl))))))); clear q_a0; clear q_a1; clear q_d0; clear q_d1; clear q_hc1; refine wpQuiet_nil ?_; rintro _ ⟨⟨w1, hbn⟩, rfl⟩; (try simp only [After.w]); replace a0 := cell_keep a0 hbn; replace a1 := cell_keep a1 hbn; replace d0 := cell_keep d0 hbn; replace d1 := cell_keep d1 hbn; replace hc1 := cell_keep hc1 hbn; replace hL := hL.keep hbn; replace hb := bel_to (w := w) (by first | exact hb | exact hb.alloc hb.size _ | exact (hb.alloc hb.size _).alloc (Nat.le_trans hb.size (by simp)) _ | exact hb.setCell (by simp [hb.size]) _) hbn; clear hbn)
        go_wp2
        go_ret
        exact ⟨ret_bool (by rw [HM.out, HF.out (by rw [hy]; rfl)]), hb⟩
    · have hkk : k = M.length := by omega
      have HS : Hid (M.all (fun c => !holdsF R m (dif l (one c)) r) = true) := by have := HA.out; rw [hkk, List.take_length] at this; exact this
      clear hkk
      go_wp2
      go_ret
      exact ⟨ret_bool (by rw [HM.out, HS.out]), hb⟩
end Go.Proofs.Ytjgfndbgenhjbaa
