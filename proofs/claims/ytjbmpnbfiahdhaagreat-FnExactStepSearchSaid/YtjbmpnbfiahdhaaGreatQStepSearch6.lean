/- Contracts and lemmas for FnExactStepSearch, part 6 of 6. -/
import Derived.Test.YtjbmpnbfiahdhaaGreatQStepSearch1
import Derived.Test.YtjbmpnbfiahdhaaGreatQStepSearch2
import Derived.Test.YtjbmpnbfiahdhaaGreatQStepSearch3
import Derived.Test.YtjbmpnbfiahdhaaGreatQStepSearch4
import Derived.Test.YtjbmpnbfiahdhaaGreatQStepSearch5
import Derived.Deep.RegionLaw
import Derived.Deep.CutRange
namespace Go.Proofs.YtjbmpnbfiahdhaaGreat
open Go.RowKit
set_option linter.unusedVariables false
set_option maxRecDepth 100000

def candAtF (A : Sr) : Int × Int × Bool := if isSrF A && !(A.a == cntF A.n) then ((candF A.n.toNat A.a.toNat).1, (candF A.n.toNat A.a.toNat).2, true) else (0, 0, false)
theorem isSr_at {A : Sr} (h : isSrF A = true) (h' : (A.a == cntF A.n) = false) : ∃ N K : Nat, A.n = N ∧ A.a = K ∧ 1 ≤ N ∧ N ≤ 5 ∧ K < N * 2 ^ N := by
  obtain ⟨h1, h5⟩ := isSr_tab h
  unfold isSrF at h
  simp only [Bool.and_eq_true, decide_eq_true_eq] at h
  have h6 := h.1.2
  have hne : A.a ≠ cntF A.n := by simpa using h'
  unfold cntF at h6 hne
  refine ⟨A.n.toNat, A.a.toNat, by omega, by omega, by omega, by omega, ?_⟩
  generalize A.n.toNat * 2 ^ A.n.toNat = M at *
  omega

set_option maxHeartbeats 1600000 in
theorem c_CandidateAt (A : Sr) (oa fa) (ca fca : Nat) (w : World) (hA : RowsC w oa A.R) (hC : DepsAt w fa A.F) (l9 r9 : Int) (b9 : Bool) (h9 : candAtF A = (l9, r9, b9)) :
    Ans Tryz.prog 22 #[.agg #[.int .i64 A.n, .slice oa A.R.length ca, .int .i64 A.m, .int .i64 A.a, .slice fa A.F.length fca, .int .i64 A.t]] w (.tuple #[.agg #[.int .i64 l9, .int .i64 r9], .bool b9]) := by
  unfold Ans
  obtain ⟨n, R, m, a, F, t⟩ := A
  dsimp only at hA hC ⊢
  have hb := bel2 w (.cells #[.int .i64 n, .slice oa R.length ca, .int .i64 m, .int .i64 a, .slice fa F.length fca, .int .i64 t] 32) (.cells #[.int .i64 0, .int .i64 0] 46)
  have kS := (Blk.new w #[.int .i64 n, .slice oa R.length ca, .int .i64 m, .int .i64 a, .slice fa F.length fca, .int .i64 t] 32).alloc (.cells #[.int .i64 0, .int .i64 0] 46)
  have kR := Blk.new (w.alloc (.cells #[.int .i64 n, .slice oa R.length ca, .int .i64 m, .int .i64 a, .slice fa F.length fca, .int .i64 t] 32)) #[.int .i64 0, .int .i64 0] 46
  simp only [World.size_alloc] at kR
  have s0 := kS.cell 0 (.int .i64 n) rfl
  have s1 := kS.cell 1 (.slice oa R.length ca) rfl
  have s2 := kS.cell 2 (.int .i64 m) rfl
  have s3 := kS.cell 3 (.int .i64 a) rfl
  have s4 := kS.cell 4 (.slice fa F.length fca) rfl
  have s5 := kS.cell 5 (.int .i64 t) rfl
  have hx := fun (x : After ((w.alloc (.cells #[.int .i64 n, .slice oa R.length ca, .int .i64 m, .int .i64 a, .slice fa F.length fca, .int .i64 t] 32)).alloc (.cells #[.int .i64 0, .int .i64 0] 46))) => c_IsSearch ⟨n, R, m, a, F, t⟩ oa fa ca fca _ ((hA.keep hb).keep x.bel) ((hC.keep hb).keep x.bel)
  cases his : isSrF ⟨n, R, m, a, F, t⟩
  · have h8 : l9 = 0 ∧ r9 = 0 ∧ b9 = false := by
      unfold candAtF at h9
      rw [his] at h9
      simp at h9
      exact ⟨h9.1.symm, h9.2.1.symm, h9.2.2⟩
    obtain ⟨rfl, rfl, rfl⟩ := h8
    go_enter Tryz.func22, Tryz.ntmps22
    go_wp2_with fail
    (refine wp_region_after (by kernel_rfl) (by kernel_rfl) ?_; have q_s0 := fun (x : After _) => cell_keep s0 x.bel; have q_s1 := fun (x : After _) => cell_keep s1 x.bel; have q_s2 := fun (x : After _) => cell_keep s2 x.bel; have q_s3 := fun (x : After _) => cell_keep s3 x.bel; have q_s4 := fun (x : After _) => cell_keep s4 x.bel; have q_s5 := fun (x : After _) => cell_keep s5 x.bel; (repeat (go_big_quiet_step ((first | (go_at_call 20; exact Ans.after (Ans.eqb (hx _) his)))))); clear q_s0; clear q_s1; clear q_s2; clear q_s3; clear q_s4; clear q_s5; refine wpQuiet_nil ?_; rintro _ ⟨⟨w1, hbn⟩, rfl⟩; (try simp only [After.w]); replace s0 := cell_keep s0 hbn; replace s1 := cell_keep s1 hbn; replace s2 := cell_keep s2 hbn; replace s3 := cell_keep s3 hbn; replace s4 := cell_keep s4 hbn; replace s5 := cell_keep s5 hbn; replace kR := kR.keep hbn; replace hb := bel_to (w := w) (by first | exact hb | exact hb.alloc hb.size _ | exact (hb.alloc hb.size _).alloc (Nat.le_trans hb.size (by simp)) _ | exact hb.setCell (by simp [hb.size]) _) hbn; clear hbn)
    have r0 := kR.cell 0 (.int .i64 0) rfl
    have r1 := kR.cell 1 (.int .i64 0) rfl
    have q0 := kR.free 0
    have q1 := kR.free 1
    go_wp2
    exact bodyPost_ret (v := .tuple #[.agg #[.int .i64 0, .int .i64 0], .bool false]) (by simp [results, Tryz.results22, go_sem, r0, r1]) rfl ⟨rfl, Below.setCell (p := (⟨w.heap.size + 1, 1, none⟩ : Addr)) (Below.setCell (p := (⟨w.heap.size + 1, 0, none⟩ : Addr)) hb (Nat.le_succ _) _) (Nat.le_succ _) _⟩
  have hn := isSr_tab his
  dsimp only at hn
  cases hat : (a == cntF n)
  case true =>
    have h8 : l9 = 0 ∧ r9 = 0 ∧ b9 = false := by
      unfold candAtF at h9
      rw [his] at h9
      dsimp only at h9
      rw [hat] at h9
      simp at h9
      exact ⟨h9.1.symm, h9.2.1.symm, h9.2.2⟩
    obtain ⟨rfl, rfl, rfl⟩ := h8
    obtain ⟨N, rfl⟩ := Int.eq_ofNat_of_zero_le (show 0 ≤ n by omega)
    have hcf : cntF N = ((N * 2 ^ N : Nat) : Int) := by unfold cntF; rw [Int.toNat_natCast]
    have HCO : Hid (∀ w', Ans Tryz.prog 99 #[.int .i64 N] w' (.int .i64 ((N * 2 ^ N : Nat) : Int))) := fun w' => c_candidatesOf N (by omega) w'
    rw [hcf] at hat
    clear hcf
    generalize N * 2 ^ N = M at *
    go_enter Tryz.func22, Tryz.ntmps22
    go_wp2_with fail
    (refine wp_region_after (by kernel_rfl) (by kernel_rfl) ?_; have q_s0 := fun (x : After _) => cell_keep s0 x.bel; have q_s1 := fun (x : After _) => cell_keep s1 x.bel; have q_s2 := fun (x : After _) => cell_keep s2 x.bel; have q_s3 := fun (x : After _) => cell_keep s3 x.bel; have q_s4 := fun (x : After _) => cell_keep s4 x.bel; have q_s5 := fun (x : After _) => cell_keep s5 x.bel; (repeat (go_big_quiet_step ((first | (go_at_call 20; exact Ans.after (Ans.eqb (hx _) his)) | (go_at_call 99; exact Ans.after (HCO.out _)))))); clear q_s0; clear q_s1; clear q_s2; clear q_s3; clear q_s4; clear q_s5; refine wpQuiet_nil ?_; rintro _ ⟨⟨w1, hbn⟩, rfl⟩; (try simp only [After.w]); replace s0 := cell_keep s0 hbn; replace s1 := cell_keep s1 hbn; replace s2 := cell_keep s2 hbn; replace s3 := cell_keep s3 hbn; replace s4 := cell_keep s4 hbn; replace s5 := cell_keep s5 hbn; replace kR := kR.keep hbn; replace hb := bel_to (w := w) (by first | exact hb | exact hb.alloc hb.size _ | exact (hb.alloc hb.size _).alloc (Nat.le_trans hb.size (by simp)) _ | exact hb.setCell (by simp [hb.size]) _) hbn; clear hbn)
    have r0 := kR.cell 0 (.int .i64 0) rfl
    have r1 := kR.cell 1 (.int .i64 0) rfl
    have q0 := kR.free 0
    have q1 := kR.free 1
    go_wp2
    exact bodyPost_ret (v := .tuple #[.agg #[.int .i64 0, .int .i64 0], .bool false]) (by simp [results, Tryz.results22, go_sem, r0, r1]) rfl ⟨rfl, Below.setCell (p := (⟨w.heap.size + 1, 1, none⟩ : Addr)) (Below.setCell (p := (⟨w.heap.size + 1, 0, none⟩ : Addr)) hb (Nat.le_succ _) _) (Nat.le_succ _) _⟩
  case false =>
    obtain ⟨N, K, hN, hK, hN1, hN5, hKM⟩ := isSr_at his hat
    dsimp only at hN hK
    subst hN hK
    have h8 : l9 = (candF N K).1 ∧ r9 = (candF N K).2 ∧ b9 = true := by
      unfold candAtF at h9
      rw [his] at h9
      dsimp only at h9
      rw [hat, Int.toNat_natCast, Int.toNat_natCast] at h9
      simp at h9
      exact ⟨h9.1.symm, h9.2.1.symm, h9.2.2⟩
    obtain ⟨rfl, rfl, rfl⟩ := h8
    have HCD : Hid (∀ w', Ans Tryz.prog 106 #[.int .i64 N, .int .i64 K] w' (.agg #[.int .i64 (candF N K).1, .int .i64 (candF N K).2])) := fun w' => c_candidate N K hN5 hN1 hKM w'
    clear h9
    generalize (candF N K).1 = x at *
    generalize (candF N K).2 = r at *
    have hcf : cntF N = ((N * 2 ^ N : Nat) : Int) := by unfold cntF; rw [Int.toNat_natCast]
    have HCO : Hid (∀ w', Ans Tryz.prog 99 #[.int .i64 N] w' (.int .i64 ((N * 2 ^ N : Nat) : Int))) := fun w' => c_candidatesOf N hN5 w'
    rw [hcf] at hat
    clear hcf
    generalize N * 2 ^ N = M at *
    go_enter Tryz.func22, Tryz.ntmps22
    go_wp2_with fail
    (refine wp_region_after (by kernel_rfl) (by kernel_rfl) ?_; have q_s0 := fun (x : After _) => cell_keep s0 x.bel; have q_s1 := fun (x : After _) => cell_keep s1 x.bel; have q_s2 := fun (x : After _) => cell_keep s2 x.bel; have q_s3 := fun (x : After _) => cell_keep s3 x.bel; have q_s4 := fun (x : After _) => cell_keep s4 x.bel; have q_s5 := fun (x : After _) => cell_keep s5 x.bel; (repeat (go_big_quiet_step ((first | (go_at_call 20; exact Ans.after (Ans.eqb (hx _) his)) | (go_at_call 99; exact Ans.after (HCO.out _)))))); clear q_s0; clear q_s1; clear q_s2; clear q_s3; clear q_s4; clear q_s5; refine wpQuiet_nil ?_; rintro _ ⟨⟨w1, hbn⟩, rfl⟩; (try simp only [After.w]); replace s0 := cell_keep s0 hbn; replace s1 := cell_keep s1 hbn; replace s2 := cell_keep s2 hbn; replace s3 := cell_keep s3 hbn; replace s4 := cell_keep s4 hbn; replace s5 := cell_keep s5 hbn; replace kR := kR.keep hbn; replace hb := bel_to (w := w) (by first | exact hb | exact hb.alloc hb.size _ | exact (hb.alloc hb.size _).alloc (Nat.le_trans hb.size (by simp)) _ | exact hb.setCell (by simp [hb.size]) _) hbn; clear hbn)
    go_wp2_with fail
    refine Calls.mono (HCD.out _) ?_
    rintro e w9 ⟨rfl, hbn⟩
    replace kR := kR.keep hbn
    replace hb := bel_to hb hbn
    clear hbn
    have r0 := kR.cell 0 (.int .i64 0) rfl
    have r1 := kR.cell 1 (.int .i64 0) rfl
    have q0 := kR.free 0
    have q1 := kR.free 1
    go_wp2
    exact bodyPost_ret (v := .tuple #[.agg #[.int .i64 x, .int .i64 r], .bool true]) (by simp [results, Tryz.results22, go_sem, r0, r1]) rfl ⟨rfl, Below.setCell (p := (⟨w.heap.size + 1, 1, none⟩ : Addr)) (Below.setCell (p := (⟨w.heap.size + 1, 0, none⟩ : Addr)) hb (Nat.le_succ _) _) (Nat.le_succ _) _⟩

set_option maxHeartbeats 1600000 in
theorem c_specCandidateAt (A : Sr) (oa fa) (ca fca : Nat) (w : World) (hA : RowsAt w oa A.R) (hC : DepsAt w fa A.F) (l9 r9 : Int) (b9 : Bool) (h9 : candAtF A = (l9, r9, b9)) :
    Ans Tryz.prog 23 #[.agg #[.int .i64 A.n, .slice oa A.R.length ca, .int .i64 A.m, .int .i64 A.a, .slice fa A.F.length fca, .int .i64 A.t]] w (.tuple #[.agg #[.int .i64 l9, .int .i64 r9], .bool b9]) := by
  unfold Ans
  obtain ⟨n, R, m, a, F, t⟩ := A
  dsimp only at hA hC ⊢
  have hb := bel2 w (.cells #[.int .i64 n, .slice oa R.length ca, .int .i64 m, .int .i64 a, .slice fa F.length fca, .int .i64 t] 32) (.cells #[.int .i64 0, .int .i64 0] 46)
  have kS := (Blk.new w #[.int .i64 n, .slice oa R.length ca, .int .i64 m, .int .i64 a, .slice fa F.length fca, .int .i64 t] 32).alloc (.cells #[.int .i64 0, .int .i64 0] 46)
  have kR := Blk.new (w.alloc (.cells #[.int .i64 n, .slice oa R.length ca, .int .i64 m, .int .i64 a, .slice fa F.length fca, .int .i64 t] 32)) #[.int .i64 0, .int .i64 0] 46
  simp only [World.size_alloc] at kR
  have s0 := kS.cell 0 (.int .i64 n) rfl
  have s1 := kS.cell 1 (.slice oa R.length ca) rfl
  have s2 := kS.cell 2 (.int .i64 m) rfl
  have s3 := kS.cell 3 (.int .i64 a) rfl
  have s4 := kS.cell 4 (.slice fa F.length fca) rfl
  have s5 := kS.cell 5 (.int .i64 t) rfl
  cases his : isSrF ⟨n, R, m, a, F, t⟩
  · have h8 : l9 = 0 ∧ r9 = 0 ∧ b9 = false := by
      unfold candAtF at h9
      rw [his] at h9
      simp at h9
      exact ⟨h9.1.symm, h9.2.1.symm, h9.2.2⟩
    obtain ⟨rfl, rfl, rfl⟩ := h8
    go_enter Tryz.func23, Tryz.ntmps23
    go_wp2_with fail
    refine Calls.mono (Ans.eqb (c_specIsSearch ⟨n, R, m, a, F, t⟩ oa fa ca fca _ (hA.keep hb) (hC.keep hb)) his) ?_
    rintro e w1 ⟨rfl, hbn⟩
    replace kR := kR.keep hbn
    replace s0 := cell_keep s0 hbn
    replace s1 := cell_keep s1 hbn
    replace s2 := cell_keep s2 hbn
    replace s3 := cell_keep s3 hbn
    replace s4 := cell_keep s4 hbn
    replace s5 := cell_keep s5 hbn
    replace hb := bel_to hb hbn
    clear hbn
    have r0 := kR.cell 0 (.int .i64 0) rfl
    have r1 := kR.cell 1 (.int .i64 0) rfl
    have q0 := kR.free 0
    have q1 := kR.free 1
    go_wp2
    exact bodyPost_ret (v := .tuple #[.agg #[.int .i64 0, .int .i64 0], .bool false]) (by simp [results, Tryz.results23, go_sem, r0, r1]) rfl ⟨rfl, Below.setCell (p := (⟨w.heap.size + 1, 1, none⟩ : Addr)) (Below.setCell (p := (⟨w.heap.size + 1, 0, none⟩ : Addr)) hb (Nat.le_succ _) _) (Nat.le_succ _) _⟩
  have hn := isSr_tab his
  dsimp only at hn
  cases hat : (a == cntF n)
  case true =>
    have h8 : l9 = 0 ∧ r9 = 0 ∧ b9 = false := by
      unfold candAtF at h9
      rw [his] at h9
      dsimp only at h9
      rw [hat] at h9
      simp at h9
      exact ⟨h9.1.symm, h9.2.1.symm, h9.2.2⟩
    obtain ⟨rfl, rfl, rfl⟩ := h8
    have hsd : isSrdF ⟨n, R, m, a, F, t⟩ = true := by unfold isSrdF; rw [his]; exact hat
    go_enter Tryz.func23, Tryz.ntmps23
    go_wp2_with fail
    refine Calls.mono (Ans.eqb (c_specIsSearch ⟨n, R, m, a, F, t⟩ oa fa ca fca _ (hA.keep hb) (hC.keep hb)) his) ?_
    rintro e w1 ⟨rfl, hbn⟩
    replace kR := kR.keep hbn
    replace s0 := cell_keep s0 hbn
    replace s1 := cell_keep s1 hbn
    replace s2 := cell_keep s2 hbn
    replace s3 := cell_keep s3 hbn
    replace s4 := cell_keep s4 hbn
    replace s5 := cell_keep s5 hbn
    replace hb := bel_to hb hbn
    clear hbn
    go_wp2_with fail
    refine Calls.mono (Ans.eqb (c_specIsSearched ⟨n, R, m, a, F, t⟩ oa fa ca fca _ (hA.keep hb) (hC.keep hb)) hsd) ?_
    rintro e w1 ⟨rfl, hbn⟩
    replace kR := kR.keep hbn
    replace s0 := cell_keep s0 hbn
    replace s1 := cell_keep s1 hbn
    replace s2 := cell_keep s2 hbn
    replace s3 := cell_keep s3 hbn
    replace s4 := cell_keep s4 hbn
    replace s5 := cell_keep s5 hbn
    replace hb := bel_to hb hbn
    clear hbn
    have r0 := kR.cell 0 (.int .i64 0) rfl
    have r1 := kR.cell 1 (.int .i64 0) rfl
    have q0 := kR.free 0
    have q1 := kR.free 1
    go_wp2
    exact bodyPost_ret (v := .tuple #[.agg #[.int .i64 0, .int .i64 0], .bool false]) (by simp [results, Tryz.results23, go_sem, r0, r1]) rfl ⟨rfl, Below.setCell (p := (⟨w.heap.size + 1, 1, none⟩ : Addr)) (Below.setCell (p := (⟨w.heap.size + 1, 0, none⟩ : Addr)) hb (Nat.le_succ _) _) (Nat.le_succ _) _⟩
  case false =>
    obtain ⟨N, K, hN, hK, hN1, hN5, hKM⟩ := isSr_at his hat
    dsimp only at hN hK
    subst hN hK
    have h8 : l9 = (candF N K).1 ∧ r9 = (candF N K).2 ∧ b9 = true := by
      unfold candAtF at h9
      rw [his] at h9
      dsimp only at h9
      rw [hat, Int.toNat_natCast, Int.toNat_natCast] at h9
      simp at h9
      exact ⟨h9.1.symm, h9.2.1.symm, h9.2.2⟩
    obtain ⟨rfl, rfl, rfl⟩ := h8
    have HCD : Hid (∀ w', Ans Tryz.prog 107 #[.int .i64 N, .int .i64 K] w' (.agg #[.int .i64 (candF N K).1, .int .i64 (candF N K).2])) := fun w' => c_l8Dep N K hN5 hN1 hKM w'
    clear h9
    generalize (candF N K).1 = x at *
    generalize (candF N K).2 = r at *
    have hsd : isSrdF ⟨N, R, m, K, F, t⟩ = false := by unfold isSrdF; rw [his]; exact hat
    go_enter Tryz.func23, Tryz.ntmps23
    go_wp2_with fail
    refine Calls.mono (Ans.eqb (c_specIsSearch ⟨N, R, m, K, F, t⟩ oa fa ca fca _ (hA.keep hb) (hC.keep hb)) his) ?_
    rintro e w1 ⟨rfl, hbn⟩
    replace kR := kR.keep hbn
    replace s0 := cell_keep s0 hbn
    replace s1 := cell_keep s1 hbn
    replace s2 := cell_keep s2 hbn
    replace s3 := cell_keep s3 hbn
    replace s4 := cell_keep s4 hbn
    replace s5 := cell_keep s5 hbn
    replace hb := bel_to hb hbn
    clear hbn
    go_wp2_with fail
    refine Calls.mono (Ans.eqb (c_specIsSearched ⟨N, R, m, K, F, t⟩ oa fa ca fca _ (hA.keep hb) (hC.keep hb)) hsd) ?_
    rintro e w1 ⟨rfl, hbn⟩
    replace kR := kR.keep hbn
    replace s0 := cell_keep s0 hbn
    replace s1 := cell_keep s1 hbn
    replace s2 := cell_keep s2 hbn
    replace s3 := cell_keep s3 hbn
    replace s4 := cell_keep s4 hbn
    replace s5 := cell_keep s5 hbn
    replace hb := bel_to hb hbn
    clear hbn
    go_wp2_with fail
    refine Calls.mono (HCD.out _) ?_
    rintro e w9 ⟨rfl, hbn⟩
    replace kR := kR.keep hbn
    replace hb := bel_to hb hbn
    clear hbn
    have r0 := kR.cell 0 (.int .i64 0) rfl
    have r1 := kR.cell 1 (.int .i64 0) rfl
    have q0 := kR.free 0
    have q1 := kR.free 1
    go_wp2
    exact bodyPost_ret (v := .tuple #[.agg #[.int .i64 x, .int .i64 r], .bool true]) (by simp [results, Tryz.results23, go_sem, r0, r1]) rfl ⟨rfl, Below.setCell (p := (⟨w.heap.size + 1, 1, none⟩ : Addr)) (Below.setCell (p := (⟨w.heap.size + 1, 0, none⟩ : Addr)) hb (Nat.le_succ _) _) (Nat.le_succ _) _⟩
end Go.Proofs.YtjbmpnbfiahdhaaGreat
namespace Go.Proofs.YtjbmpnbfiahdhaaGreat
open Go.RowKit
set_option linter.unusedVariables false
set_option maxRecDepth 100000

def okSr (A : Sr) : Bool := isSrF A && !(A.a == cntF A.n)
def stSr (A : Sr) : Sr := if okSr A then ⟨A.n, A.R, A.m, A.a + 1, (stepF A.R A.m A.n.toNat A.a.toNat (A.F, A.t)).1, (stepF A.R A.m A.n.toNat A.a.toNat (A.F, A.t)).2⟩ else A
theorem candAt_ok {A : Sr} {l r : Int} {b : Bool} (h : candAtF A = (l, r, b)) : b = okSr A := by
  unfold candAtF at h; unfold okSr
  cases e : (isSrF A && !(A.a == cntF A.n)) <;> rw [e] at h <;> cases h <;> rfl
theorem ok_of {A : Sr} (h : isSrF A = true) (h' : isSrdF A = false) : okSr A = true := by
  unfold isSrdF at h'; unfold okSr; rw [h] at h' ⊢; simpa using h'
theorem no_of {A : Sr} (h' : isSrdF A = true) : okSr A = false := by
  unfold isSrdF at h'; unfold okSr
  rw [Bool.and_eq_true] at h'; rw [h'.1, h'.2]; rfl
theorem st_ok {A : Sr} (h : okSr A = true) : ∃ N K : Nat, A.n = N ∧ A.a = K ∧ 1 ≤ N ∧ N ≤ 5 ∧ K < N * 2 ^ N ∧ isTabF N A.R = true ∧ modeF A.m = true ∧ repF A.R A.m N K = (A.F, A.t) := by
  unfold okSr at h
  rw [Bool.and_eq_true] at h
  obtain ⟨h1, h2⟩ := h
  obtain ⟨N, K, e1, e2, b1, b2, b3⟩ := isSr_at h1 (by simpa using h2)
  obtain ⟨N', K', e1', e2', _, _, _, h3, h4, h5⟩ := isSr_of h1
  obtain rfl : N' = N := by omega
  obtain rfl : K' = K := by omega
  exact ⟨N', K', e1, e2, b1, b2, b3, h3, h4, h5⟩
theorem st_sizes {A : Sr} (h1 : A.R.length ≤ Room) (h4 : A.F.length ≤ Room) (h2 : (sumL A.R A.R.length : Int) ≤ 1048576) (h3 : ∀ j, j < A.R.length → (row A.R j).length ≤ Room) : (stSr A).R.length ≤ Room ∧ (stSr A).F.length ≤ Room ∧ (sumL (stSr A).R (stSr A).R.length : Int) ≤ 1048576 ∧ (∀ j, j < (stSr A).R.length → (row (stSr A).R j).length ≤ Room) ∧ True := by
  unfold stSr
  cases hs : okSr A
  · exact ⟨h1, h4, h2, h3, trivial⟩
  · obtain ⟨N, K, hn, ha, hN1, hN5, hK, _, _, hr⟩ := st_ok hs
    refine ⟨h1, ?_, h2, h3, trivial⟩
    have := (rep_ok (R := A.R) (m := A.m) hN5 hN1 (K + 1) hK).2.1
    have e : repF A.R A.m N (K + 1) = stepF A.R A.m N K (A.F, A.t) := by show stepF A.R A.m N K (repF A.R A.m N K) = _; rw [hr]
    rw [e] at this
    have := count_le hN5
    simp only [if_true, hn, ha, Int.toNat_natCast]
    unfold Room; omega
set_option maxHeartbeats 6400000 in
theorem c_StepSearch (A : Sr) (oa fa) (ca fca : Nat) (w : World) (hR : RowsC w oa A.R) (hD : DepsAt w fa A.F) (hnil : fa = none → fca = 0) :
    SrRes 11 #[.agg #[.int .i64 A.n, .slice oa A.R.length ca, .int .i64 A.m, .int .i64 A.a, .slice fa A.F.length fca, .int .i64 A.t]] w (stSr A) (fun v => .tuple #[v, .bool (okSr A)]) := by
  unfold SrRes
  have H := fun w' h1 h2 => c_copySearch A oa fa ca fca w' h1 h2 hnil
  obtain ⟨l9, r9, b9, h9⟩ : ∃ l r b, candAtF A = (l, r, b) := ⟨_, _, _, rfl⟩
  have HC := fun w' h1 h2 => c_CandidateAt A oa fa ca fca w' h1 h2 l9 r9 b9 h9
  obtain ⟨k9, hok⟩ : ∃ k, okSr A = k := ⟨_, rfl⟩
  obtain rfl : b9 = k9 := by rw [← hok]; exact candAt_ok h9
  clear h9
  have HV0 : Hid (okSr A = false → stSr A = A) := fun h => by unfold stSr; rw [h]; rfl
  have HV1 : Hid (okSr A = true → stSr A = ⟨A.n, A.R, A.m, A.a + 1, (stepF A.R A.m A.n.toNat A.a.toNat (A.F, A.t)).1, (stepF A.R A.m A.n.toNat A.a.toNat (A.F, A.t)).2⟩) := fun h => by unfold stSr; rw [h]; rfl
  rw [hok]
  have HK9 : Hid (okSr A = b9) := hok
  clear hok
  unfold SrRes at H
  obtain ⟨n, R, m, a, F, t⟩ := A
  dsimp only at *
  have hb := bel2 w (.cells #[.int .i64 n, .slice oa R.length ca, .int .i64 m, .int .i64 a, .slice fa F.length fca, .int .i64 t] 32) (.cells srZ 32)
  have kA := (Blk.new w #[.int .i64 n, .slice oa R.length ca, .int .i64 m, .int .i64 a, .slice fa F.length fca, .int .i64 t] 32).alloc (.cells srZ 32)
  have kZ := Blk.new (w.alloc (.cells #[.int .i64 n, .slice oa R.length ca, .int .i64 m, .int .i64 a, .slice fa F.length fca, .int .i64 t] 32)) srZ 32
  simp only [World.size_alloc] at kZ
  unfold srZ at hb kA kZ
  have s0 := kA.cell 0 (.int .i64 n) rfl
  have s1 := kA.cell 1 (.slice oa R.length ca) rfl
  have s2 := kA.cell 2 (.int .i64 m) rfl
  have s3 := kA.cell 3 (.int .i64 a) rfl
  have s4 := kA.cell 4 (.slice fa F.length fca) rfl
  have s5 := kA.cell 5 (.int .i64 t) rfl
  go_enter Tryz.func11, Tryz.ntmps11
  go_wp2_with fail
  refine Calls.mono (HC _ (hR.keep hb) (hD.keep hb)) ?_
  clear HC
  rintro e w1 ⟨rfl, hbn⟩
  replace kA := kA.keep hbn
  replace kZ := kZ.keep hbn
  replace hb := bel_to hb hbn
  clear hbn s0 s1 s2 s3 s4 s5
  have hba := (Below.refl w1.heap.size w1).alloc (Nat.le_refl _) (.cells #[.int .i64 l9, .int .i64 r9] 46)
  replace kA := kA.keep hba
  replace kZ := kZ.keep hba
  replace hb := bel_to hb hba
  clear hba
  have s0 := kA.cell 0 (.int .i64 n) rfl
  have s1 := kA.cell 1 (.slice oa R.length ca) rfl
  have s2 := kA.cell 2 (.int .i64 m) rfl
  have s3 := kA.cell 3 (.int .i64 a) rfl
  have s4 := kA.cell 4 (.slice fa F.length fca) rfl
  have s5 := kA.cell 5 (.int .i64 t) rfl
  have kd := Blk.new w1 #[.int .i64 l9, .int .i64 r9] 46
  go_upto_region 2 with fail
  generalize w1.alloc (.cells #[.int .i64 l9, .int .i64 r9] 46) = w2 at *
  have hs1 : w.heap.size + 1 < w2.heap.size := kZ.lt
  clear kd
  cases b9
  · have HVV := HV0.out HK9.out
    go_wp2_with fail
    refine (H _ (hR.keep hb) (hD.keep hb)).mono ?_
    clear H
    rintro e w3 ⟨o, c, fo, fc, xs, rfl, hO, hF, ap, hbn⟩
    replace kA := kA.keep hbn
    replace kZ := kZ.keep hbn
    replace hb := bel_to hb hbn
    clear hbn s0 s1 s2 s3 s4 s5
    have z0 := kZ.cell 0 (.int .i64 0) rfl
    have z1 := kZ.cell 1 (.slice none 0 0) rfl
    have z2 := kZ.cell 2 (.int .i64 0) rfl
    have z3 := kZ.cell 3 (.int .i64 0) rfl
    have z4 := kZ.cell 4 (.slice none 0 0) rfl
    have z5 := kZ.cell 5 (.int .i64 0) rfl
    have g0 := kZ.free 0
    have g1 := kZ.free 1
    have g2 := kZ.free 2
    have g3 := kZ.free 3
    have g4 := kZ.free 4
    have g5 := kZ.free 5
    have k6 := kZ.set6 (.int .i64 n) (.slice o R.length c) (.int .i64 m) (.int .i64 a) (.slice fo F.length fc) (.int .i64 t)
    unfold set6 at k6
    have q0 := k6.cell 0 _ rfl
    have q1 := k6.cell 1 _ rfl
    have q2 := k6.cell 2 _ rfl
    have q3 := k6.cell 3 _ rfl
    have q4 := k6.cell 4 _ rfl
    have q5 := k6.cell 5 _ rfl
    go_wp2
    refine bodyPost_ret (v := .tuple #[.agg #[.int .i64 n, .slice o R.length c, .int .i64 m, .int .i64 a, .slice fo F.length fc, .int .i64 t], .bool false]) (by simp only [results, Tryz.results11]; simp [go_sem, q0, q1, q2, q3, q4, q5]) rfl ?_
    rw [HVV]
    exact ⟨o, c, fo, fc, xs, rfl, (hO.far6 (show w.heap.size + 1 < _ by first | exact hs1 | (have := hs1; omega)) _ _ _ _ _ _).based (by have := hs1; omega), (OwnD.set6 hF (fun e => by have := (World.ownsRow.lt hF _ e).1; have := hs1; omega) _ _ _ _ _ _).based (by have := hs1; omega), ap, bel_set6 hb (Nat.le_succ _) _ _ _ _ _ _⟩
  · have hk9 := HK9.out
    obtain ⟨N, K, hnN, haK, hN1, hN5, hKM, ht, hm, hrep⟩ := st_ok HK9.out
    dsimp only at hnN haK ht hm hrep
    subst hnN haK
    have HVV : Hid (stSr ⟨(N : Int), R, m, (K : Int), F, t⟩ = ⟨N, R, m, (K : Int) + 1, (stepF R m N K (F, t)).1, (stepF R m N K (F, t)).2⟩) := by show _ = _; rw [HV1.out HK9.out]; simp only [Int.toNat_natCast]
    have hrk := rep_ok (R := R) (m := m) hN5 hN1 K (Nat.le_of_lt hKM)
    rw [hrep] at hrk
    dsimp only at hrk
    obtain ⟨i1, i2, i3, i4⟩ := hrk
    have hc160 := count_le hN5
    obtain ⟨_, _, _, hlen⟩ := isTab_of ht
    have HLR : Hid (∀ j, j < R.length → (row R j).length ≤ Room) := fun j hj => by have := hlen j hj; unfold Room; omega
    have hRl := hR.1.len
    clear hlen hrep
    have HSF : Hid (∀ (o : Option Addr) (c : Nat) (fo : Option Addr) (fc B : Nat) (w' : World), RowsAt w' o R → OwnD w' B (.slice fo F.length fc) F → B ≤ w'.heap.size →
            Calls Tryz.prog 89 #[.agg #[.int .i64 N, .slice o R.length c, .int .i64 m, .int .i64 K, .slice fo F.length fc, .int .i64 t]] w' fun e w'' => ∃ fo' fc', e = .returned (.agg #[.int .i64 N, .slice o R.length c, .int .i64 m, .int .i64 ((K : Int) + 1), .slice fo' (stepF R m N K (F, t)).1.length fc', .int .i64 (stepF R m N K (F, t)).2]) ∧ OwnD w'' B (.slice fo' (stepF R m N K (F, t)).1.length fc') (stepF R m N K (F, t)).1 ∧ Fresh w' (.slice fo F.length fc) (.slice fo' (stepF R m N K (F, t)).1.length fc') ∧ Below w'.heap.size w' w'') :=
          fun o c fo fc B w' h1 h3 h4 => c_step N K o fo c fc R m t F B w' h1 ht hm hKM h3 h4 (by omega) i3 (by omega)
    clear ht hm hk9 i1
    obtain ⟨z9, hz9⟩ : ∃ z, stepF R m N K (F, t) = z := ⟨_, rfl⟩
    rw [hz9] at HVV HSF
    clear hz9
    go_wp2_with fail
    refine (H _ (hR.keep hb) (hD.keep hb)).mono ?_
    clear H
    rintro e w3 ⟨o, c, fo, fc, xs, rfl, hO, hF, ap, hbn⟩
    have hs3 := hbn.size
    replace kA := kA.keep hbn
    replace kZ := kZ.keep hbn
    replace hb := bel_to hb hbn
    clear hbn s0 s1 s2 s3 s4 s5
    go_wp2_with fail
    refine (HSF.out o c fo fc w2.heap.size _ (hO.read hRl HLR.out) hF hs3).mono ?_
    rintro e w4 ⟨fo', fc', rfl, hF', hfr, hbn⟩
    have ap' := apartR_next hO ap hfr
    replace kA := kA.keep hbn
    replace kZ := kZ.keep hbn
    replace hb := bel_to hb hbn
    replace hO := hO.keep hbn
    clear hbn hfr hF ap
    have z0 := kZ.cell 0 (.int .i64 0) rfl
    have z1 := kZ.cell 1 (.slice none 0 0) rfl
    have z2 := kZ.cell 2 (.int .i64 0) rfl
    have z3 := kZ.cell 3 (.int .i64 0) rfl
    have z4 := kZ.cell 4 (.slice none 0 0) rfl
    have z5 := kZ.cell 5 (.int .i64 0) rfl
    have g0 := kZ.free 0
    have g1 := kZ.free 1
    have g2 := kZ.free 2
    have g3 := kZ.free 3
    have g4 := kZ.free 4
    have g5 := kZ.free 5
    have k6 := kZ.set6 (.int .i64 N) (.slice o R.length c) (.int .i64 m) (.int .i64 ((K : Int) + 1)) (.slice fo' z9.1.length fc') (.int .i64 z9.2)
    unfold set6 at k6
    have q0 := k6.cell 0 _ rfl
    have q1 := k6.cell 1 _ rfl
    have q2 := k6.cell 2 _ rfl
    have q3 := k6.cell 3 _ rfl
    have q4 := k6.cell 4 _ rfl
    have q5 := k6.cell 5 _ rfl
    go_wp2
    refine bodyPost_ret (v := .tuple #[.agg #[.int .i64 N, .slice o R.length c, .int .i64 m, .int .i64 ((K : Int) + 1), .slice fo' z9.1.length fc', .int .i64 z9.2], .bool true]) (by simp only [results, Tryz.results11]; simp [go_sem, q0, q1, q2, q3, q4, q5]) rfl ?_
    rw [HVV.out]
    exact ⟨o, c, fo', fc', xs, rfl, (hO.far6 (show w.heap.size + 1 < _ by first | exact hs1 | (have := hs1; omega)) _ _ _ _ _ _).based (by have := hs1; omega), (OwnD.set6 hF' (fun e => by have := (World.ownsRow.lt hF' _ e).1; have := hs1; omega) _ _ _ _ _ _).based (by have := hs1; omega), ap', bel_set6 hb (Nat.le_succ _) _ _ _ _ _ _⟩
set_option maxHeartbeats 6400000 in
theorem c_specStepSearch (A : Sr) (oa fa) (ca fca : Nat) (w : World) (hR : RowsC w oa A.R) (hRs : A.R.length ≤ 1048576 ∧ ∀ j, j < A.R.length → (row A.R j).length ≤ 1048576) (hD : DepsAt w fa A.F) (hDs : A.F.length ≤ 1048576) (hnil : fa = none → fca = 0) :
    SrRes 9 #[.agg #[.int .i64 A.n, .slice oa A.R.length ca, .int .i64 A.m, .int .i64 A.a, .slice fa A.F.length fca, .int .i64 A.t]] w (stSr A) (fun v => .tuple #[v, .bool (okSr A)]) := by
  unfold SrRes
  have H := fun w' h1 h2 => c_l8Copy A oa fa ca fca w' h1 hRs h2 hDs hnil
  have HI := fun w' h1 h2 => c_specIsSearch A oa fa ca fca w' h1 h2
  have HJ := fun w' h1 h2 => c_specIsSearched A oa fa ca fca w' h1 h2
  obtain ⟨k9, hok⟩ : ∃ k, okSr A = k := ⟨_, rfl⟩
  have HV0 : Hid (okSr A = false → stSr A = A) := fun h => by unfold stSr; rw [h]; rfl
  have HV1 : Hid (okSr A = true → stSr A = ⟨A.n, A.R, A.m, A.a + 1, (stepF A.R A.m A.n.toNat A.a.toNat (A.F, A.t)).1, (stepF A.R A.m A.n.toNat A.a.toNat (A.F, A.t)).2⟩) := fun h => by unfold stSr; rw [h]; rfl
  rw [hok]
  have HK9 : Hid (okSr A = k9) := hok
  clear hok
  unfold SrRes at H
  obtain ⟨n, R, m, a, F, t⟩ := A
  dsimp only at *
  have hb := bel2 w (.cells #[.int .i64 n, .slice oa R.length ca, .int .i64 m, .int .i64 a, .slice fa F.length fca, .int .i64 t] 32) (.cells srZ 32)
  have kA := (Blk.new w #[.int .i64 n, .slice oa R.length ca, .int .i64 m, .int .i64 a, .slice fa F.length fca, .int .i64 t] 32).alloc (.cells srZ 32)
  have kZ := Blk.new (w.alloc (.cells #[.int .i64 n, .slice oa R.length ca, .int .i64 m, .int .i64 a, .slice fa F.length fca, .int .i64 t] 32)) srZ 32
  simp only [World.size_alloc] at kZ
  unfold srZ at hb kA kZ
  have s0 := kA.cell 0 (.int .i64 n) rfl
  have s1 := kA.cell 1 (.slice oa R.length ca) rfl
  have s2 := kA.cell 2 (.int .i64 m) rfl
  have s3 := kA.cell 3 (.int .i64 a) rfl
  have s4 := kA.cell 4 (.slice fa F.length fca) rfl
  have s5 := kA.cell 5 (.int .i64 t) rfl
  go_enter Tryz.func9, Tryz.ntmps9
  go_wp2_with fail
  refine (H _ (hR.keep hb) (hD.keep hb)).mono ?_
  clear H
  rintro e w1 ⟨o, c, fo, fc, xs, rfl, hO, hF, ap, hbn⟩
  simp only [World.size_alloc] at hO hF
  replace kA := kA.keep hbn
  replace kZ := kZ.keep hbn
  replace hb := bel_to hb hbn
  have hs1 : w.heap.size + 1 < w1.heap.size := kZ.lt
  clear hbn s0 s1 s2 s3 s4 s5
  have kT := Blk.new w1 #[.int .i64 n, .slice o R.length c, .int .i64 m, .int .i64 a, .slice fo F.length fc, .int .i64 t] 32
  have hba := (Below.refl w1.heap.size w1).alloc (Nat.le_refl _) (.cells #[.int .i64 n, .slice o R.length c, .int .i64 m, .int .i64 a, .slice fo F.length fc, .int .i64 t] 32)
  have nO : Avoid w1.heap.size (.slice o R.length c) xs := fun y hy e => by
    have := hO.old (Nat.le_refl _) y hy _ e
    omega
  have nF : (Value.slice fo F.length fc).ownBlock ≠ some w1.heap.size := hF.not_new (Nat.le_refl _)
  replace kA := kA.keep hba
  replace kZ := kZ.keep hba
  replace hO := hO.keep hba
  replace hF := hF.keep hba
  replace hb := bel_to hb hba
  clear hba
  have s0 := kA.cell 0 (.int .i64 n) rfl
  have s1 := kA.cell 1 (.slice oa R.length ca) rfl
  have s2 := kA.cell 2 (.int .i64 m) rfl
  have s3 := kA.cell 3 (.int .i64 a) rfl
  have s4 := kA.cell 4 (.slice fa F.length fca) rfl
  have s5 := kA.cell 5 (.int .i64 t) rfl
  go_upto_region 2 with fail
  generalize w1.alloc (.cells #[.int .i64 n, .slice o R.length c, .int .i64 m, .int .i64 a, .slice fo F.length fc, .int .i64 t] 32) = w2 at *
  generalize w1.heap.size = k5 at *
  go_wp2_with fail
  cases his : isSrF ⟨n, R, m, a, F, t⟩
  · obtain rfl : k9 = false := by rw [← HK9.out]; unfold okSr; rw [his]; rfl
    refine Calls.mono (Ans.eqb (HI _ (hR.keep hb).1 (hD.keep hb)) his) ?_
    rintro e w3 ⟨rfl, hbn⟩
    replace kA := kA.keep hbn
    replace kZ := kZ.keep hbn
    replace kT := kT.keep hbn
    replace hO := hO.keep hbn
    replace hF := hF.keep hbn
    replace hb := bel_to hb hbn
    clear hbn
    have HVV := HV0.out HK9.out
    clear s0 s1 s2 s3 s4 s5
    have r0 := kT.cell 0 (.int .i64 n) rfl
    have r1 := kT.cell 1 (.slice o R.length c) rfl
    have r2 := kT.cell 2 (.int .i64 m) rfl
    have r3 := kT.cell 3 (.int .i64 a) rfl
    have r4 := kT.cell 4 (.slice fo F.length fc) rfl
    have r5 := kT.cell 5 (.int .i64 t) rfl
    have z0 := kZ.cell 0 (.int .i64 0) rfl
    have z1 := kZ.cell 1 (.slice none 0 0) rfl
    have z2 := kZ.cell 2 (.int .i64 0) rfl
    have z3 := kZ.cell 3 (.int .i64 0) rfl
    have z4 := kZ.cell 4 (.slice none 0 0) rfl
    have z5 := kZ.cell 5 (.int .i64 0) rfl
    have g0 := kZ.free 0
    have g1 := kZ.free 1
    have g2 := kZ.free 2
    have g3 := kZ.free 3
    have g4 := kZ.free 4
    have g5 := kZ.free 5
    have k6 := kZ.set6 (.int .i64 n) (.slice o R.length c) (.int .i64 m) (.int .i64 a) (.slice fo F.length fc) (.int .i64 t)
    unfold set6 at k6
    have q0 := k6.cell 0 _ rfl
    have q1 := k6.cell 1 _ rfl
    have q2 := k6.cell 2 _ rfl
    have q3 := k6.cell 3 _ rfl
    have q4 := k6.cell 4 _ rfl
    have q5 := k6.cell 5 _ rfl
    go_wp2
    refine bodyPost_ret (v := .tuple #[.agg #[.int .i64 n, .slice o R.length c, .int .i64 m, .int .i64 a, .slice fo F.length fc, .int .i64 t], .bool false]) (by simp only [results, Tryz.results9]; simp [go_sem, q0, q1, q2, q3, q4, q5]) rfl ?_
    rw [HVV]
    exact ⟨o, c, fo, fc, xs, rfl, (hO.far6 (show w.heap.size + 1 < w.heap.size + 1 + 1 by omega) _ _ _ _ _ _).based (by omega), (OwnD.set6 hF (fun e => by have := (World.ownsRow.lt hF _ e).1; omega) _ _ _ _ _ _).based (by omega), ap, bel_set6 hb (Nat.le_succ _) _ _ _ _ _ _⟩
  · refine Calls.mono (Ans.eqb (HI _ (hR.keep hb).1 (hD.keep hb)) his) ?_
    rintro e w3 ⟨rfl, hbn⟩
    replace kA := kA.keep hbn
    replace kZ := kZ.keep hbn
    replace kT := kT.keep hbn
    replace hO := hO.keep hbn
    replace hF := hF.keep hbn
    replace hb := bel_to hb hbn
    replace s0 := cell_keep s0 hbn
    replace s1 := cell_keep s1 hbn
    replace s2 := cell_keep s2 hbn
    replace s3 := cell_keep s3 hbn
    replace s4 := cell_keep s4 hbn
    replace s5 := cell_keep s5 hbn
    clear hbn
    go_wp2_with fail
    cases hsd : isSrdF ⟨n, R, m, a, F, t⟩
    · obtain rfl : k9 = true := by rw [← HK9.out]; exact ok_of his hsd
      refine Calls.mono (Ans.eqb (HJ _ (hR.keep hb).1 (hD.keep hb)) hsd) ?_
      rintro e w4 ⟨rfl, hbn⟩
      replace kA := kA.keep hbn
      replace kZ := kZ.keep hbn
      replace kT := kT.keep hbn
      replace hO := hO.keep hbn
      replace hF := hF.keep hbn
      replace hb := bel_to hb hbn
      clear hbn his hsd HI HJ s0 s1 s2 s3 s4 s5
      obtain ⟨N, K, hnN, haK, hN1, hN5, hKM, ht, hm, hrep⟩ := st_ok HK9.out
      dsimp only at hnN haK ht hm hrep
      subst hnN haK
      have HVV : Hid (stSr ⟨(N : Int), R, m, (K : Int), F, t⟩ = ⟨N, R, m, (K : Int) + 1, (stepF R m N K (F, t)).1, (stepF R m N K (F, t)).2⟩) := by show _ = _; rw [HV1.out HK9.out]; simp only [Int.toNat_natCast]
      have hrk := rep_ok (R := R) (m := m) hN5 hN1 K (Nat.le_of_lt hKM)
      rw [hrep] at hrk
      dsimp only at hrk
      obtain ⟨i1, i2, i3, i4⟩ := hrk
      have hc160 := count_le hN5
      obtain ⟨_, _, _, hlen⟩ := isTab_of ht
      have HLR : Hid (∀ j, j < R.length → (row R j).length ≤ Room) := fun j hj => by have := hlen j hj; unfold Room; omega
      have hRl := hR.1.len
      clear hlen hrep
      have HSF : Hid (Calls Tryz.prog 85 #[.pointer (some ⟨k5, 0, none⟩)] w4 fun e w'' => ∃ fo' fc', e = .returned (.tuple #[]) ∧ Blk w'' k5 #[.int .i64 N, .slice o R.length c, .int .i64 m, .int .i64 ((K : Int) + 1), .slice fo' (stepF R m N K (F, t)).1.length fc', .int .i64 (stepF R m N K (F, t)).2] 32 ∧ OwnRows w'' (w.heap.size + 1 + 1) (.slice o R.length c) xs R ∧ OwnD w'' (w.heap.size + 1 + 1) (.slice fo' (stepF R m N K (F, t)).1.length fc') (stepF R m N K (F, t)).1 ∧ ApartR (.slice o R.length c) xs (.slice fo' (stepF R m N K (F, t)).1.length fc') ∧ (Value.slice fo' (stepF R m N K (F, t)).1.length fc').ownBlock ≠ some k5 ∧ Below (w.heap.size + 1 + 1) w4 w'') :=
        c_l8Step N K o fo c fc R m t F k5 (w.heap.size + 1 + 1) xs w4 kT hO hF ap nO nF hs1 ht hKM (by omega) i1 i3 (by omega)
      clear ht hm i1
      obtain ⟨z9, hz9⟩ : ∃ z, stepF R m N K (F, t) = z := ⟨_, rfl⟩
      rw [hz9] at HVV HSF
      clear hz9
      go_wp2_with fail
      refine HSF.out.mono ?_
      clear HSF hO hF ap nF kT
      rintro e w5 ⟨fo', fc', rfl, kT, hO, hF, ap, nF, hbn⟩
      replace kA := kA.keepTo (show w.heap.size < w.heap.size + 1 + 1 by omega) hbn
      replace kZ := kZ.keepTo (show w.heap.size + 1 < w.heap.size + 1 + 1 by omega) hbn
      replace hb := Below.trans hb (hbn.mono (show w.heap.size ≤ w.heap.size + 1 + 1 by omega))
      clear hbn
      have r0 := kT.cell 0 (.int .i64 N) rfl
      have r1 := kT.cell 1 (.slice o R.length c) rfl
      have r2 := kT.cell 2 (.int .i64 m) rfl
      have r3 := kT.cell 3 (.int .i64 ((K : Int) + 1)) rfl
      have r4 := kT.cell 4 (.slice fo' z9.1.length fc') rfl
      have r5 := kT.cell 5 (.int .i64 z9.2) rfl
      have z0 := kZ.cell 0 (.int .i64 0) rfl
      have z1 := kZ.cell 1 (.slice none 0 0) rfl
      have z2 := kZ.cell 2 (.int .i64 0) rfl
      have z3 := kZ.cell 3 (.int .i64 0) rfl
      have z4 := kZ.cell 4 (.slice none 0 0) rfl
      have z5 := kZ.cell 5 (.int .i64 0) rfl
      have g0 := kZ.free 0
      have g1 := kZ.free 1
      have g2 := kZ.free 2
      have g3 := kZ.free 3
      have g4 := kZ.free 4
      have g5 := kZ.free 5
      have k6 := kZ.set6 (.int .i64 N) (.slice o R.length c) (.int .i64 m) (.int .i64 ((K : Int) + 1)) (.slice fo' z9.1.length fc') (.int .i64 z9.2)
      unfold set6 at k6
      have q0 := k6.cell 0 _ rfl
      have q1 := k6.cell 1 _ rfl
      have q2 := k6.cell 2 _ rfl
      have q3 := k6.cell 3 _ rfl
      have q4 := k6.cell 4 _ rfl
      have q5 := k6.cell 5 _ rfl
      go_wp2
      refine bodyPost_ret (v := .tuple #[.agg #[.int .i64 N, .slice o R.length c, .int .i64 m, .int .i64 ((K : Int) + 1), .slice fo' z9.1.length fc', .int .i64 z9.2], .bool true]) (by simp only [results, Tryz.results9]; simp [go_sem, q0, q1, q2, q3, q4, q5]) rfl ?_
      rw [HVV.out]
      exact ⟨o, c, fo', fc', xs, rfl, (hO.far6 (show w.heap.size + 1 < w.heap.size + 1 + 1 by omega) _ _ _ _ _ _).based (by omega), (OwnD.set6 hF (fun e => by have := (World.ownsRow.lt hF _ e).1; omega) _ _ _ _ _ _).based (by omega), ap, bel_set6 hb (Nat.le_succ _) _ _ _ _ _ _⟩
    · obtain rfl : k9 = false := by rw [← HK9.out]; exact no_of hsd
      refine Calls.mono (Ans.eqb (HJ _ (hR.keep hb).1 (hD.keep hb)) hsd) ?_
      rintro e w4 ⟨rfl, hbn⟩
      replace kA := kA.keep hbn
      replace kZ := kZ.keep hbn
      replace kT := kT.keep hbn
      replace hO := hO.keep hbn
      replace hF := hF.keep hbn
      replace hb := bel_to hb hbn
      clear hbn
      have HVV := HV0.out HK9.out
      clear s0 s1 s2 s3 s4 s5
      have r0 := kT.cell 0 (.int .i64 n) rfl
      have r1 := kT.cell 1 (.slice o R.length c) rfl
      have r2 := kT.cell 2 (.int .i64 m) rfl
      have r3 := kT.cell 3 (.int .i64 a) rfl
      have r4 := kT.cell 4 (.slice fo F.length fc) rfl
      have r5 := kT.cell 5 (.int .i64 t) rfl
      have z0 := kZ.cell 0 (.int .i64 0) rfl
      have z1 := kZ.cell 1 (.slice none 0 0) rfl
      have z2 := kZ.cell 2 (.int .i64 0) rfl
      have z3 := kZ.cell 3 (.int .i64 0) rfl
      have z4 := kZ.cell 4 (.slice none 0 0) rfl
      have z5 := kZ.cell 5 (.int .i64 0) rfl
      have g0 := kZ.free 0
      have g1 := kZ.free 1
      have g2 := kZ.free 2
      have g3 := kZ.free 3
      have g4 := kZ.free 4
      have g5 := kZ.free 5
      have k6 := kZ.set6 (.int .i64 n) (.slice o R.length c) (.int .i64 m) (.int .i64 a) (.slice fo F.length fc) (.int .i64 t)
      unfold set6 at k6
      have q0 := k6.cell 0 _ rfl
      have q1 := k6.cell 1 _ rfl
      have q2 := k6.cell 2 _ rfl
      have q3 := k6.cell 3 _ rfl
      have q4 := k6.cell 4 _ rfl
      have q5 := k6.cell 5 _ rfl
      go_wp2
      refine bodyPost_ret (v := .tuple #[.agg #[.int .i64 n, .slice o R.length c, .int .i64 m, .int .i64 a, .slice fo F.length fc, .int .i64 t], .bool false]) (by simp only [results, Tryz.results9]; simp [go_sem, q0, q1, q2, q3, q4, q5]) rfl ?_
      rw [HVV]
      exact ⟨o, c, fo, fc, xs, rfl, (hO.far6 (show w.heap.size + 1 < w.heap.size + 1 + 1 by omega) _ _ _ _ _ _).based (by omega), (OwnD.set6 hF (fun e => by have := (World.ownsRow.lt hF _ e).1; omega) _ _ _ _ _ _).based (by omega), ap, bel_set6 hb (Nat.le_succ _) _ _ _ _ _ _⟩
end Go.Proofs.YtjbmpnbfiahdhaaGreat
namespace Go.Proofs.YtjbmpnbfiahdhaaGreat
open Go.RowKit
set_option linter.unusedVariables false
set_option maxRecDepth 100000

set_option maxHeartbeats 6400000 in
theorem w_FnExactStepSearch (w : World) {vS : Value} (inS : InSr w vS) :
    Calls Tryz.prog 3 #[vS] w fun e w' => e = .returned (.bool true) ∧ Below w.heap.size w w' := by
  obtain ⟨n, m, a, t, oT, lT, cT, Ln, vD, rfl, hRI, ⟨oD, lD, cD, rfl, hmD, hDin⟩, wfm, wfa, wft⟩ := inS
  have hb := (Below.refl w.heap.size w).alloc (Nat.le_refl _) (.cells #[.int .i64 n, .slice oT lT cT, .int .i64 m, .int .i64 a, .slice oD lD cD, .int .i64 t] 27)
  have tb0 := box_at w #[.int .i64 n, .slice oT lT cT, .int .i64 m, .int .i64 a, .slice oD lD cD, .int .i64 t] 27 0 _ rfl
  have tb1 := box_at w #[.int .i64 n, .slice oT lT cT, .int .i64 m, .int .i64 a, .slice oD lD cD, .int .i64 t] 27 1 _ rfl
  have tb2 := box_at w #[.int .i64 n, .slice oT lT cT, .int .i64 m, .int .i64 a, .slice oD lD cD, .int .i64 t] 27 2 _ rfl
  have tb3 := box_at w #[.int .i64 n, .slice oT lT cT, .int .i64 m, .int .i64 a, .slice oD lD cD, .int .i64 t] 27 3 _ rfl
  have tb4 := box_at w #[.int .i64 n, .slice oT lT cT, .int .i64 m, .int .i64 a, .slice oD lD cD, .int .i64 t] 27 4 _ rfl
  have tb5 := box_at w #[.int .i64 n, .slice oT lT cT, .int .i64 m, .int .i64 a, .slice oD lD cD, .int .i64 t] 27 5 _ rfl
  go_enter Tryz.func3, Tryz.ntmps3
  go_wp2_with fail
  refine (c_szSearch n m a t _ _ _ _ _ _ _ 1048576 (by omega) (by omega) _ (hRI.keep hb) hmD).mono ?_
  rintro e w0 ⟨⟨x, rfl, hx⟩, hbn⟩
  replace tb0 := cell_keep tb0 hbn
  replace tb1 := cell_keep tb1 hbn
  replace tb2 := cell_keep tb2 hbn
  replace tb3 := cell_keep tb3 hbn
  replace tb4 := cell_keep tb4 hbn
  replace tb5 := cell_keep tb5 hbn
  replace hb := bel_to hb hbn
  clear hbn
  rcases hx with rfl | ⟨hx0, hx1, hx2, hx3⟩
  · go_wp2
    go_ret
    exact ⟨rfl, hb⟩
  obtain ⟨R0, rfl, hR, hRl⟩ := hRI.reads (by unfold Room; omega) (fun r hr => by have := sumN_one (Ln := Ln) hr; unfold Room; omega)
  obtain ⟨D0, rfl, hD⟩ := hDin (room_of (by omega))
  have hsum : (sumL R0 R0.length : Int) ≤ 1048576 := by rw [sumL_sumN hRl R0.length (Nat.le_refl _)]; omega
  have hDs : (D0.length : Int) ≤ 1048576 := by omega
  have hRoom : R0.length ≤ Room := hR.len
  have hDl : D0.length ≤ Room := hD.len
  have HRr : Hid (∀ j, j < R0.length → (row R0 j).length ≤ Room) := fun j hj => by rw [hRl j hj]; have := sumN_one (Ln := Ln) hj; unfold Room; omega
  have HRs : Hid (R0.length ≤ 1048576 ∧ ∀ j, j < R0.length → (row R0 j).length ≤ 1048576) := ⟨by omega, fun j hj => by rw [hRl j hj]; have := sumN_one (Ln := Ln) hj; omega⟩
  clear hx2 hx3 hRl hRI hmD hDin
  obtain ⟨A0, rfl, rfl, rfl, rfl, rfl, rfl⟩ : ∃ A : Sr, n = A.n ∧ R0 = A.R ∧ m = A.m ∧ a = A.a ∧ D0 = A.F ∧ t = A.t := ⟨⟨n, R0, m, a, D0, t⟩, rfl, rfl, rfl, rfl, rfl, rfl⟩
  obtain ⟨A, HA⟩ : ∃ A, Hid (stSr A0 = A) := ⟨_, rfl⟩
  obtain ⟨t, HT⟩ : ∃ t, Hid (okSr A0 = t) := ⟨_, rfl⟩
  have HA0 := (show Hid _ from st_sizes hRoom hDl hsum HRr.out)
  rw [HA.out] at HA0
  have HDS : Hid (A0.F.length ≤ 1048576) := (by show _ ≤ _; omega)
  have HSP : Hid (∀ oa ca fa fca w, RowsC w oa A0.R → DepsAt w fa A0.F → (fa = none → fca = 0) → SrRes 9 #[.agg #[.int .i64 A0.n, .slice oa A0.R.length ca, .int .i64 A0.m, .int .i64 A0.a, .slice fa A0.F.length fca, .int .i64 A0.t]] w A (fun v => .tuple #[v, .bool t])) := fun oa ca fa fca w h1 h2 h3 => by have := c_specStepSearch A0 oa fa ca fca w h1 HRs.out h2 HDS.out h3; rwa [HA.out, HT.out] at this
  have HIM : Hid (∀ oa ca fa fca w, RowsC w oa A0.R → DepsAt w fa A0.F → (fa = none → fca = 0) → SrRes 11 #[.agg #[.int .i64 A0.n, .slice oa A0.R.length ca, .int .i64 A0.m, .int .i64 A0.a, .slice fa A0.F.length fca, .int .i64 A0.t]] w A (fun v => .tuple #[v, .bool t])) := fun oa ca fa fca w h1 h2 h3 => by have := c_StepSearch A0 oa fa ca fca w h1 h2 h3; rwa [HA.out, HT.out] at this
  have HAA : Hid (A.R.length ≤ Room ∧ A.F.length ≤ Room ∧ (sumL A.R A.R.length : Int) ≤ 1048576 ∧ (∀ j, j < A.R.length → (row A.R j).length ≤ Room) ∧ True) := HA0.out
  have HRA : Hid (∀ j, j < A.R.length → (row A.R j).length ≤ Room) := HAA.out.2.2.2.1
  have hRA : A.R.length ≤ Room := HAA.out.1
  have hFA : A.F.length ≤ Room := HAA.out.2.1
  have hSA : (sumL A.R A.R.length : Int) ≤ 1048576 := HAA.out.2.2.1
  have hFA2 : A.F.length ≤ 1073741824 := hFA
  have htt : (t != t) = false := by simp
  go_wp2_with fail
  refine (c_toSearch A0 _ _ _ _ _ (hR.keep hb) (hD.keep hb)).mono ?_
  rintro e w1 ⟨o_s, c_s, f_s, g_s, ys_s, rfl, sO, sF, sA, hbn⟩
  replace tb0 := cell_keep tb0 hbn
  replace tb1 := cell_keep tb1 hbn
  replace tb2 := cell_keep tb2 hbn
  replace tb3 := cell_keep tb3 hbn
  replace tb4 := cell_keep tb4 hbn
  replace tb5 := cell_keep tb5 hbn
  replace hb := bel_to hb hbn
  clear hbn
  go_wp2_with fail
  have H := HSP.out o_s c_s f_s g_s _ (sO.readC hRoom HRr.out) (sF.deps rfl hDl) sF.nilcap
  unfold SrRes at H
  refine H.mono ?_
  clear H
  rintro e w2 ⟨o8, c8, f8, g8, xs8, rfl, hO8, hF8, ap8, hbn⟩
  clear sO sF sA
  have hbz := hb.size
  replace tb0 := cell_keep tb0 hbn
  replace tb1 := cell_keep tb1 hbn
  replace tb2 := cell_keep tb2 hbn
  replace tb3 := cell_keep tb3 hbn
  replace tb4 := cell_keep tb4 hbn
  replace tb5 := cell_keep tb5 hbn
  replace hb := bel_to hb hbn
  clear hbn
  replace hO8 := hO8.based hbz
  replace hF8 := hF8.based hbz
  clear hbz
  have k8 := Blk.new w2 #[.int .i64 A.n, .slice o8 A.R.length c8, .int .i64 A.m, .int .i64 A.a, .slice f8 A.F.length g8, .int .i64 A.t] 32
  have hbn := (Below.refl w2.heap.size w2).alloc (Nat.le_refl _) (.cells #[.int .i64 A.n, .slice o8 A.R.length c8, .int .i64 A.m, .int .i64 A.a, .slice f8 A.F.length g8, .int .i64 A.t] 32)
  replace tb0 := cell_keep tb0 hbn
  replace tb1 := cell_keep tb1 hbn
  replace tb2 := cell_keep tb2 hbn
  replace tb3 := cell_keep tb3 hbn
  replace tb4 := cell_keep tb4 hbn
  replace tb5 := cell_keep tb5 hbn
  replace hO8 := hO8.keep hbn
  replace hF8 := hF8.keep hbn
  replace hb := bel_to hb hbn
  clear hbn
  go_wp2_with fail
  refine (c_toSearch A0 _ _ _ _ _ (hR.keep hb) (hD.keep hb)).mono ?_
  rintro e w3 ⟨o_x, c_x, f_x, g_x, ys_x, rfl, xO, xF, xA, hbn⟩
  have oldO8 := hO8.old (Nat.le_refl _)
  have oldF8 := fun g e => (World.ownsRow.lt hF8 g e).2
  have hk8 := k8.lt
  have hbx := hb.size
  have hnx := hbn.size
  have htb := World.block_lt_of_cell? _ _ tb0
  simp only at htb
  have lowx := low_cons (fun g e => (World.ownsRow.lt xF g e).1) xO.low
  replace tb0 := cell_keep tb0 hbn
  replace tb1 := cell_keep tb1 hbn
  replace tb2 := cell_keep tb2 hbn
  replace tb3 := cell_keep tb3 hbn
  replace tb4 := cell_keep tb4 hbn
  replace tb5 := cell_keep tb5 hbn
  replace hO8 := hO8.keep hbn
  replace hF8 := hF8.keep hbn
  replace k8 := k8.keep hbn
  replace hb := bel_to hb hbn
  clear hbn
  have kx := Blk.new w3 #[.int .i64 A0.n, .slice o_x A0.R.length c_x, .int .i64 A0.m, .int .i64 A0.a, .slice f_x A0.F.length g_x, .int .i64 A0.t] 32
  have hbn := (Below.refl w3.heap.size w3).alloc (Nat.le_refl _) (.cells #[.int .i64 A0.n, .slice o_x A0.R.length c_x, .int .i64 A0.m, .int .i64 A0.a, .slice f_x A0.F.length g_x, .int .i64 A0.t] 32)
  replace tb0 := cell_keep tb0 hbn
  replace tb1 := cell_keep tb1 hbn
  replace tb2 := cell_keep tb2 hbn
  replace tb3 := cell_keep tb3 hbn
  replace tb4 := cell_keep tb4 hbn
  replace tb5 := cell_keep tb5 hbn
  replace hO8 := hO8.keep hbn
  replace hF8 := hF8.keep hbn
  replace k8 := k8.keep hbn
  replace xO := xO.keep hbn
  replace xF := xF.keep hbn
  replace hb := bel_to hb hbn
  clear hbn
  have x0 := kx.cell 0 (.int .i64 A0.n) rfl
  have x1 := kx.cell 1 (.slice o_x A0.R.length c_x) rfl
  have x2 := kx.cell 2 (.int .i64 A0.m) rfl
  have x3 := kx.cell 3 (.int .i64 A0.a) rfl
  have x4 := kx.cell 4 (.slice f_x A0.F.length g_x) rfl
  have x5 := kx.cell 5 (.int .i64 A0.t) rfl
  go_wp2_with fail
  have H := HIM.out o_x c_x f_x g_x _ (xO.readC hRoom HRr.out) (xF.deps rfl hDl) xF.nilcap
  unfold SrRes at H
  refine H.mono ?_
  clear H
  rintro e w4 ⟨o11, c11, f11, g11, xs11, rfl, hO11, hF11, ap11, hbn⟩
  have oldX := xO.old (Nat.le_refl _)
  have hix := hi_cons (fun g e => (World.ownsRow.lt xF g e).2) (fun y hy g e => oldX y (.inr hy) g e)
  have hb11 := hb.size
  have hn11 := hbn.size
  have low11 := low_cons (fun g e => (World.ownsRow.lt hF11 g e).1) hO11.low
  have old11 := hO11.old (Nat.le_refl _)
  have hi11 := hi_cons (fun g e => (World.ownsRow.lt hF11 g e).2) (fun y hy g e => old11 y (.inr hy) g e)
  replace tb0 := cell_keep tb0 hbn
  replace tb1 := cell_keep tb1 hbn
  replace tb2 := cell_keep tb2 hbn
  replace tb3 := cell_keep tb3 hbn
  replace tb4 := cell_keep tb4 hbn
  replace tb5 := cell_keep tb5 hbn
  replace hO8 := hO8.keep hbn
  replace hF8 := hF8.keep hbn
  replace k8 := k8.keep hbn
  replace xO := xO.keep hbn
  replace xF := xF.keep hbn
  replace kx := kx.keep hbn
  replace hb := bel_to hb hbn
  clear hbn
  clear x0 x1 x2 x3 x4 x5
  have k11 := Blk.new w4 #[.int .i64 A.n, .slice o11 A.R.length c11, .int .i64 A.m, .int .i64 A.a, .slice f11 A.F.length g11, .int .i64 A.t] 32
  have hbn := (Below.refl w4.heap.size w4).alloc (Nat.le_refl _) (.cells #[.int .i64 A.n, .slice o11 A.R.length c11, .int .i64 A.m, .int .i64 A.a, .slice f11 A.F.length g11, .int .i64 A.t] 32)
  replace tb0 := cell_keep tb0 hbn
  replace tb1 := cell_keep tb1 hbn
  replace tb2 := cell_keep tb2 hbn
  replace tb3 := cell_keep tb3 hbn
  replace tb4 := cell_keep tb4 hbn
  replace tb5 := cell_keep tb5 hbn
  replace hO8 := hO8.keep hbn
  replace hF8 := hF8.keep hbn
  replace k8 := k8.keep hbn
  replace xO := xO.keep hbn
  replace xF := xF.keep hbn
  replace kx := kx.keep hbn
  replace hO11 := hO11.keep hbn
  replace hF11 := hF11.keep hbn
  replace hb := bel_to hb hbn
  clear hbn
  have p0 := k11.cell 0 (.int .i64 A.n) rfl
  have p1 := k11.cell 1 (.slice o11 A.R.length c11) rfl
  have p2 := k11.cell 2 (.int .i64 A.m) rfl
  have p3 := k11.cell 3 (.int .i64 A.a) rfl
  have p4 := k11.cell 4 (.slice f11 A.F.length g11) rfl
  have p5 := k11.cell 5 (.int .i64 A.t) rfl
  have q0 := k8.cell 0 (.int .i64 A.n) rfl
  have q1 := k8.cell 1 (.slice o8 A.R.length c8) rfl
  have q2 := k8.cell 2 (.int .i64 A.m) rfl
  have q3 := k8.cell 3 (.int .i64 A.a) rfl
  have q4 := k8.cell 4 (.slice f8 A.F.length g8) rfl
  have q5 := k8.cell 5 (.int .i64 A.t) rfl
  go_wp2_with fail
  refine Calls.mono (c_eqSearch A A _ _ _ _ _ _ _ _ _ (hO11.read hRA HRA.out) (hO8.read hRA HRA.out) (hF11.deps rfl hFA) (hF8.deps rfl hFA) rfl) ?_
  rintro e w5 ⟨rfl, hbn⟩
  replace tb0 := cell_keep tb0 hbn
  replace tb1 := cell_keep tb1 hbn
  replace tb2 := cell_keep tb2 hbn
  replace tb3 := cell_keep tb3 hbn
  replace tb4 := cell_keep tb4 hbn
  replace tb5 := cell_keep tb5 hbn
  replace hO8 := hO8.keep hbn
  replace hF8 := hF8.keep hbn
  replace k8 := k8.keep hbn
  replace xO := xO.keep hbn
  replace xF := xF.keep hbn
  replace kx := kx.keep hbn
  replace hO11 := hO11.keep hbn
  replace hF11 := hF11.keep hbn
  replace k11 := k11.keep hbn
  replace hb := bel_to hb hbn
  clear hbn
  clear p0 p1 p2 p3 p4 p5
  clear q0 q1 q2 q3 q4 q5
  have x0 := kx.cell 0 (.int .i64 A0.n) rfl
  have x1 := kx.cell 1 (.slice o_x A0.R.length c_x) rfl
  have x2 := kx.cell 2 (.int .i64 A0.m) rfl
  have x3 := kx.cell 3 (.int .i64 A0.a) rfl
  have x4 := kx.cell 4 (.slice f_x A0.F.length g_x) rfl
  have x5 := kx.cell 5 (.int .i64 A0.t) rfl
  go_upto_region 10 with fail
  go_cut [45] from 41 to 45 (fun v wx => v = .bool false ∧ Below w5.heap.size w5 wx)
  case first =>
    have hRh := hR.keep hb
    have hDh := hD.keep hb
    have dtb0 := cell_keep tb0 (Below.refl _ _).drew
    have dtb1 := cell_keep tb1 (Below.refl _ _).drew
    have dtb2 := cell_keep tb2 (Below.refl _ _).drew
    have dtb3 := cell_keep tb3 (Below.refl _ _).drew
    have dtb4 := cell_keep tb4 (Below.refl _ _).drew
    have dtb5 := cell_keep tb5 (Below.refl _ _).drew
    have dx0 := cell_keep x0 (Below.refl _ _).drew
    have dx1 := cell_keep x1 (Below.refl _ _).drew
    have dx2 := cell_keep x2 (Below.refl _ _).drew
    have dx3 := cell_keep x3 (Below.refl _ _).drew
    have dx4 := cell_keep x4 (Below.refl _ _).drew
    have dx5 := cell_keep x5 (Below.refl _ _).drew
    go_region_law (first
      | ((try go_simp); refine (c_toSearch A0 _ _ _ _ _ (hRh.keep (by first | exact Below.refl _ _ | exact (Below.refl _ _).drew)) (hDh.keep (by first | exact Below.refl _ _ | exact (Below.refl _ _).drew))).mono ?_; rintro e wz ⟨o1, c1, f1, g1, ys1, rfl, h1, h2, _, hbn⟩; have hbz := bel_to (w := w5) (by first | exact Below.refl _ _ | exact (Below.refl _ _).drew) hbn; have y0 := cell_keep x0 hbz; have y1 := cell_keep x1 hbz; have y2 := cell_keep x2 hbz; have y3 := cell_keep x3 hbz; have y4 := cell_keep x4 hbz; have y5 := cell_keep x5 hbz; clear hbn)
      | ((try go_simp); refine Calls.mono (c_eqSearch A0 A0 _ _ _ _ _ _ _ _ _ ((xO.read hRoom HRr.out).keep hbz) (h1.read hRoom HRr.out) ((xF.deps rfl hDl).keep hbz) (h2.deps rfl hDl) rfl) ?_; rintro e wy ⟨rfl, hbn⟩; have hby := bel_to (w := w5) hbz hbn; clear hbn)
      | fail)
    all_goals
      go_wp2_with fail
      go_meet
      exact ⟨rfl, hby⟩
  case rest =>
    obtain ⟨rfl, hbn⟩ := hcut
    clear x0 x1 x2 x3 x4 x5
    replace tb0 := cell_keep tb0 hbn
    replace tb1 := cell_keep tb1 hbn
    replace tb2 := cell_keep tb2 hbn
    replace tb3 := cell_keep tb3 hbn
    replace tb4 := cell_keep tb4 hbn
    replace tb5 := cell_keep tb5 hbn
    replace hO8 := hO8.keep hbn
    replace hF8 := hF8.keep hbn
    replace k8 := k8.keep hbn
    replace xO := xO.keep hbn
    replace xF := xF.keep hbn
    replace kx := kx.keep hbn
    replace hO11 := hO11.keep hbn
    replace hF11 := hF11.keep hbn
    replace k11 := k11.keep hbn
    replace hb := bel_to hb hbn
    clear hbn
    have x0 := kx.cell 0 (.int .i64 A0.n) rfl
    have x1 := kx.cell 1 (.slice o_x A0.R.length c_x) rfl
    have x2 := kx.cell 2 (.int .i64 A0.m) rfl
    have x3 := kx.cell 3 (.int .i64 A0.a) rfl
    have x4 := kx.cell 4 (.slice f_x A0.F.length g_x) rfl
    have x5 := kx.cell 5 (.int .i64 A0.t) rfl
    go_wp2_with fail
    refine (c_markSearch A0 _ _ _ _ _ ys_x 1 _ xO xF xA hRoom hDl (by omega)).mono ?_
    rintro e w6 ⟨rfl, _, _, hg⟩
    have hkx : decide ((1 : Int) + (sumL A0.R A0.R.length : Int) + 2 * (A0.F.length : Int) < 0) = false := by simp; omega
    clear x0 x1 x2 x3 x4 x5
    replace hO8 := hO8.many hg lowx oldO8
    replace hF8 := OwnD.manyOld hF8 hg lowx oldF8
    replace k8 := k8.many hg (fun y hy e => by have := lowx y hy _ e; simp at this; omega)
    replace hO11 := ownRows_manyNew hO11 hg hix (Nat.le_refl _)
    replace hF11 := OwnD.manyNew hF11 hg hix (Nat.le_refl _)
    replace k11 := k11.many hg (fun y hy e => by have := hix y hy _ e; omega)
    replace tb0 := cell_many tb0 hg lowx htb
    replace tb1 := cell_many tb1 hg lowx htb
    replace tb2 := cell_many tb2 hg lowx htb
    replace tb3 := cell_many tb3 hg lowx htb
    replace tb4 := cell_many tb4 hg lowx htb
    replace tb5 := cell_many tb5 hg lowx htb
    replace hb := below_many hb (Nat.le_refl _) hg (fun y hy g e => by have := lowx y hy g e; simp at hbx; omega)
    clear hg lowx hix oldX kx xO xF xA
    have p0 := k11.cell 0 (.int .i64 A.n) rfl
    have p1 := k11.cell 1 (.slice o11 A.R.length c11) rfl
    have p2 := k11.cell 2 (.int .i64 A.m) rfl
    have p3 := k11.cell 3 (.int .i64 A.a) rfl
    have p4 := k11.cell 4 (.slice f11 A.F.length g11) rfl
    have p5 := k11.cell 5 (.int .i64 A.t) rfl
    have q0 := k8.cell 0 (.int .i64 A.n) rfl
    have q1 := k8.cell 1 (.slice o8 A.R.length c8) rfl
    have q2 := k8.cell 2 (.int .i64 A.m) rfl
    have q3 := k8.cell 3 (.int .i64 A.a) rfl
    have q4 := k8.cell 4 (.slice f8 A.F.length g8) rfl
    have q5 := k8.cell 5 (.int .i64 A.t) rfl
    go_wp2_with fail
    refine Calls.mono (c_eqSearch A A _ _ _ _ _ _ _ _ _ (hO11.read hRA HRA.out) (hO8.read hRA HRA.out) (hF11.deps rfl hFA) (hF8.deps rfl hFA) rfl) ?_
    rintro e w7 ⟨rfl, hbn⟩
    replace tb0 := cell_keep tb0 hbn
    replace tb1 := cell_keep tb1 hbn
    replace tb2 := cell_keep tb2 hbn
    replace tb3 := cell_keep tb3 hbn
    replace tb4 := cell_keep tb4 hbn
    replace tb5 := cell_keep tb5 hbn
    replace hO8 := hO8.keep hbn
    replace hF8 := hF8.keep hbn
    replace k8 := k8.keep hbn
    replace hO11 := hO11.keep hbn
    replace hF11 := hF11.keep hbn
    replace k11 := k11.keep hbn
    replace hb := bel_to hb hbn
    clear hbn
    clear p0 p1 p2 p3 p4 p5
    clear q0 q1 q2 q3 q4 q5
    have p0 := k11.cell 0 (.int .i64 A.n) rfl
    have p1 := k11.cell 1 (.slice o11 A.R.length c11) rfl
    have p2 := k11.cell 2 (.int .i64 A.m) rfl
    have p3 := k11.cell 3 (.int .i64 A.a) rfl
    have p4 := k11.cell 4 (.slice f11 A.F.length g11) rfl
    have p5 := k11.cell 5 (.int .i64 A.t) rfl
    go_wp2_with fail
    refine (c_markSearch A _ _ _ _ _ xs11 1 _ hO11 hF11 ap11 hRA hFA (by omega)).mono ?_
    rintro e w8 ⟨rfl, mO11, mF11, hg⟩
    clear p0 p1 p2 p3 p4 p5
    replace hO11 := mO11
    replace hF11 := mF11
    clear mO11 mF11
    have lowy : ∀ y ∈ (Value.slice f11 A.F.length g11 :: xs11), ∀ g, y.ownBlock = some g → w3.heap.size ≤ g := fun y hy g e => by have := low11 y hy g e; simp at this; omega
    replace k8 := k8.many hg (fun y hy e => by have := lowy y hy _ e; have := hk8; omega)
    replace k11 := k11.many hg (fun y hy e => by have := hi11 y hy _ e; omega)
    replace hO8 := hO8.many hg lowy (oldR_le oldO8 hnx)
    replace hF8 := OwnD.manyOld hF8 hg lowy (fun g e => by have := oldF8 g e; omega)
    replace tb0 := cell_many tb0 hg lowy (by omega)
    replace tb1 := cell_many tb1 hg lowy (by omega)
    replace tb2 := cell_many tb2 hg lowy (by omega)
    replace tb3 := cell_many tb3 hg lowy (by omega)
    replace tb4 := cell_many tb4 hg lowy (by omega)
    replace tb5 := cell_many tb5 hg lowy (by omega)
    replace hb := below_many hb (Nat.le_refl _) hg (fun y hy g e => by have := lowy y hy g e; omega)
    clear hg low11 hi11 old11 lowy oldO8 oldF8
    have hs0 : decide (((1 : Int) + (sumL A.R A.R.length : Int) + 2 * (A.F.length : Int)) < 0) = false := by simp; omega
    have hs1 : (((1 : Int) + (sumL A.R A.R.length : Int) + 2 * (A.F.length : Int)) != ((1 : Int) + (sumL A.R A.R.length : Int) + 2 * (A.F.length : Int))) = false := by simp
    have p0 := k11.cell 0 (.int .i64 A.n) rfl
    have p1 := k11.cell 1 (.slice o11 A.R.length c11) rfl
    have p2 := k11.cell 2 (.int .i64 A.m) rfl
    have p3 := k11.cell 3 (.int .i64 A.a) rfl
    have p4 := k11.cell 4 (.slice f11 A.F.length g11) rfl
    have p5 := k11.cell 5 (.int .i64 A.t) rfl
    go_wp2_with fail
    refine Calls.mono (c_heldSearch A _ _ _ _ 1 _ (hO11.readSeq hRA HRA.out) (hF11.deps (seqD_length _ _).symm (by rw [seqD_length]; exact hFA)) (by omega) hFA) ?_
    rintro e w9 ⟨rfl, hbn⟩
    replace tb0 := cell_keep tb0 hbn
    replace tb1 := cell_keep tb1 hbn
    replace tb2 := cell_keep tb2 hbn
    replace tb3 := cell_keep tb3 hbn
    replace tb4 := cell_keep tb4 hbn
    replace tb5 := cell_keep tb5 hbn
    replace hO8 := hO8.keep hbn
    replace hF8 := hF8.keep hbn
    replace k8 := k8.keep hbn
    replace hO11 := hO11.keep hbn
    replace hF11 := hF11.keep hbn
    replace k11 := k11.keep hbn
    replace hb := bel_to hb hbn
    clear hbn
    clear p0 p1 p2 p3 p4 p5
    go_wp2_with fail
    refine (c_toSearch A0 _ _ _ _ _ (hR.keep hb) (hD.keep hb)).mono ?_
    rintro e w10 ⟨o_u, c_u, f_u, g_u, ys_u, rfl, uO, uF, uA, hbn⟩
    replace tb0 := cell_keep tb0 hbn
    replace tb1 := cell_keep tb1 hbn
    replace tb2 := cell_keep tb2 hbn
    replace tb3 := cell_keep tb3 hbn
    replace tb4 := cell_keep tb4 hbn
    replace tb5 := cell_keep tb5 hbn
    replace hO8 := hO8.keep hbn
    replace hF8 := hF8.keep hbn
    replace k8 := k8.keep hbn
    replace hO11 := hO11.keep hbn
    replace hF11 := hF11.keep hbn
    replace k11 := k11.keep hbn
    replace hb := bel_to hb hbn
    clear hbn
    go_wp2_with fail
    have H := HIM.out o_u c_u f_u g_u _ (uO.readC hRoom HRr.out) (uF.deps rfl hDl) uF.nilcap
    unfold SrRes at H
    refine H.mono ?_
    clear H
    rintro e w11 ⟨o6, c6, f6, g6, xs6, rfl, hO6, hF6, ap6, hbn⟩
    clear uO uF uA
    replace tb0 := cell_keep tb0 hbn
    replace tb1 := cell_keep tb1 hbn
    replace tb2 := cell_keep tb2 hbn
    replace tb3 := cell_keep tb3 hbn
    replace tb4 := cell_keep tb4 hbn
    replace tb5 := cell_keep tb5 hbn
    replace hO8 := hO8.keep hbn
    replace hF8 := hF8.keep hbn
    replace k8 := k8.keep hbn
    replace hO11 := hO11.keep hbn
    replace hF11 := hF11.keep hbn
    replace k11 := k11.keep hbn
    replace hb := bel_to hb hbn
    clear hbn
    have k6 := Blk.new w11 #[.int .i64 A.n, .slice o6 A.R.length c6, .int .i64 A.m, .int .i64 A.a, .slice f6 A.F.length g6, .int .i64 A.t] 32
    have hbn := (Below.refl w11.heap.size w11).alloc (Nat.le_refl _) (.cells #[.int .i64 A.n, .slice o6 A.R.length c6, .int .i64 A.m, .int .i64 A.a, .slice f6 A.F.length g6, .int .i64 A.t] 32)
    replace tb0 := cell_keep tb0 hbn
    replace tb1 := cell_keep tb1 hbn
    replace tb2 := cell_keep tb2 hbn
    replace tb3 := cell_keep tb3 hbn
    replace tb4 := cell_keep tb4 hbn
    replace tb5 := cell_keep tb5 hbn
    replace hO8 := hO8.keep hbn
    replace hF8 := hF8.keep hbn
    replace k8 := k8.keep hbn
    replace hO11 := hO11.keep hbn
    replace hF11 := hF11.keep hbn
    replace k11 := k11.keep hbn
    replace hO6 := hO6.keep hbn
    replace hF6 := hF6.keep hbn
    replace hb := bel_to hb hbn
    clear hbn
    have p0 := k6.cell 0 (.int .i64 A.n) rfl
    have p1 := k6.cell 1 (.slice o6 A.R.length c6) rfl
    have p2 := k6.cell 2 (.int .i64 A.m) rfl
    have p3 := k6.cell 3 (.int .i64 A.a) rfl
    have p4 := k6.cell 4 (.slice f6 A.F.length g6) rfl
    have p5 := k6.cell 5 (.int .i64 A.t) rfl
    have q0 := k8.cell 0 (.int .i64 A.n) rfl
    have q1 := k8.cell 1 (.slice o8 A.R.length c8) rfl
    have q2 := k8.cell 2 (.int .i64 A.m) rfl
    have q3 := k8.cell 3 (.int .i64 A.a) rfl
    have q4 := k8.cell 4 (.slice f8 A.F.length g8) rfl
    have q5 := k8.cell 5 (.int .i64 A.t) rfl
    go_wp2_with fail
    refine Calls.mono (c_eqSearch A A _ _ _ _ _ _ _ _ _ (hO6.read hRA HRA.out) (hO8.read hRA HRA.out) (hF6.deps rfl hFA) (hF8.deps rfl hFA) rfl) ?_
    rintro e w12 ⟨rfl, hbn⟩
    replace tb0 := cell_keep tb0 hbn
    replace tb1 := cell_keep tb1 hbn
    replace tb2 := cell_keep tb2 hbn
    replace tb3 := cell_keep tb3 hbn
    replace tb4 := cell_keep tb4 hbn
    replace tb5 := cell_keep tb5 hbn
    replace hO8 := hO8.keep hbn
    replace hF8 := hF8.keep hbn
    replace k8 := k8.keep hbn
    replace hO11 := hO11.keep hbn
    replace hF11 := hF11.keep hbn
    replace k11 := k11.keep hbn
    replace hO6 := hO6.keep hbn
    replace hF6 := hF6.keep hbn
    replace k6 := k6.keep hbn
    replace hb := bel_to hb hbn
    clear hbn
    clear p0 p1 p2 p3 p4 p5
    clear q0 q1 q2 q3 q4 q5
    have p0 := k11.cell 0 (.int .i64 A.n) rfl
    have p1 := k11.cell 1 (.slice o11 A.R.length c11) rfl
    have p2 := k11.cell 2 (.int .i64 A.m) rfl
    have p3 := k11.cell 3 (.int .i64 A.a) rfl
    have p4 := k11.cell 4 (.slice f11 A.F.length g11) rfl
    have p5 := k11.cell 5 (.int .i64 A.t) rfl
    go_wp2_with fail
    refine Calls.mono (c_heldSearch A _ _ _ _ 1 _ (hO11.readSeq hRA HRA.out) (hF11.deps (seqD_length _ _).symm (by rw [seqD_length]; exact hFA)) (by omega) hFA) ?_
    rintro e w13 ⟨rfl, hbn⟩
    replace tb0 := cell_keep tb0 hbn
    replace tb1 := cell_keep tb1 hbn
    replace tb2 := cell_keep tb2 hbn
    replace tb3 := cell_keep tb3 hbn
    replace tb4 := cell_keep tb4 hbn
    replace tb5 := cell_keep tb5 hbn
    replace hO8 := hO8.keep hbn
    replace hF8 := hF8.keep hbn
    replace k8 := k8.keep hbn
    replace hO11 := hO11.keep hbn
    replace hF11 := hF11.keep hbn
    replace k11 := k11.keep hbn
    replace hO6 := hO6.keep hbn
    replace hF6 := hF6.keep hbn
    replace k6 := k6.keep hbn
    replace hb := bel_to hb hbn
    clear hbn
    clear p0 p1 p2 p3 p4 p5
    go_wp2
    go_ret
    exact ⟨rfl, hb⟩
end Go.Proofs.YtjbmpnbfiahdhaaGreat
