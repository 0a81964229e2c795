/- Contracts and lemmas for FnSearches, part 4 of 8. -/
import Derived.Test.YtcenndlbhgfdfaaGreatQFnSearches1
import Derived.Test.YtcenndlbhgfdfaaGreatQFnSearches2
import Derived.Test.YtcenndlbhgfdfaaGreatQFnSearches3
import Derived.Deep.CutRange
namespace Go.Proofs.YtcenndlbhgfdfaaGreat
open Go.RowKit
set_option linter.unusedVariables false
set_option maxRecDepth 100000

theorem cov_same {F : List (Int × Int)} {x r : Int} (hF : ∀ o ∈ F, St o.1 ∧ Co o.2) (hx : St x) : covF F x r = covS F x r := by
  unfold covF covS
  rw [Bool.eq_iff_iff, List.any_eq_true, List.any_eq_true]
  constructor
  · rintro ⟨o, ho, h⟩; exact ⟨o, ho, by rw [← insA_eq (hF o ho).1 hx]; exact h⟩
  · rintro ⟨o, ho, h⟩; exact ⟨o, ho, by rw [insA_eq (hF o ho).1 hx]; exact h⟩
set_option maxHeartbeats 3200000 in
theorem c_l8Replay (N K : Nat) (oa) (ca : Nat) (R : List (List Int)) (m : Int) (w : World) (hR : RowsAt w oa R) (ht : isTabF N R = true) (hK : K ≤ N * 2 ^ N) :
    Calls Tryz.prog 53 #[.agg #[.int .i64 N, .slice oa R.length ca], .int .i64 m, .int .i64 K] w fun e w' => ∃ o c, e = .returned (.tuple #[.slice o (repF R m N K).1.length c, .int .i64 (repF R m N K).2]) ∧ OwnD w' w.heap.size (.slice o (repF R m N K).1.length c) (repF R m N K).1 ∧ Below w.heap.size w w' := by
  obtain ⟨j0, hj, hy0, hy1, hy2⟩ := info_parts info_dep
  obtain ⟨hn1, hn5, _, _⟩ := isTab_of ht
  have hN5 : N ≤ 5 := by omega
  have hN1 : 1 ≤ N := by omega
  have hc160 := count_le hN5
  have HT : Hid (isTabF N R = true) := ht
  have HK : Hid (∀ k, k ≤ N * 2 ^ N → (∀ o ∈ (repF R m N k).1, St o.1 ∧ Co o.2) ∧ (repF R m N k).1.length ≤ k ∧ 0 ≤ (repF R m N k).2 ∧ (repF R m N k).2 ≤ k) := fun k hk => rep_ok hN5 hN1 k hk
  have HD : Hid (∀ (k : Nat) (w' : World), k < N * 2 ^ N → Ans Tryz.prog 55 #[.int .i64 N, .int .i64 k] w' (.agg #[.int .i64 (candF N k).1, .int .i64 (candF N k).2])) := fun k w' hk => c_l8Dep N k hN5 hN1 hk w'
  have HCN : Hid (∀ k, k < N * 2 ^ N → St (candF N k).1 ∧ Co (candF N k).2) := fun k hk => ⟨(cand_ok hN5 hN1 hk).2.1, (cand_ok hN5 hN1 hk).2.2.1⟩
  have HS : Hid (∀ k G g, repF R m N k = (G, g) → repF R m N (k + 1) = if hasc (candF N k).1 (candF N k).2 || covS G (candF N k).1 (candF N k).2 then (G, g) else (if holdsF R m (candF N k).1 (candF N k).2 then G ++ [((candF N k).1, (candF N k).2)] else G, g + 1)) := fun k G g h => by show stepF R m N k (repF R m N k) = _; rw [h]; rfl
  generalize hM : N * 2 ^ N = M at *
  have hb := bel2 w (.cells #[.int .i64 N, .slice oa R.length ca] 26) (.cells #[] 38)
  have a0 := two_a w #[.int .i64 N, .slice oa R.length ca] 26 #[] 38 0 _ rfl
  have a1 := two_a w #[.int .i64 N, .slice oa R.length ca] 26 #[] 38 1 _ rfl
  have hO : OwnD ((w.alloc (.cells #[.int .i64 N, .slice oa R.length ca] 26)).alloc (.cells #[] 38)) (w.heap.size + 1) (.slice (some ⟨w.heap.size + 1, 0, none⟩) 0 0) [] := by
    have h := (OwnD.empty (w.alloc (.cells #[.int .i64 N, .slice oa R.length ca] 26)) _ (Nat.le_refl _))
    simpa using h
  clear ht hn1 hn5 hM
  go_enter Tryz.func53, Tryz.ntmps53
  go_wp2
  go_loopw [8, 9, 10] (fun v tt i wr => ∃ (k : Nat) (G : List (Int × Int)) (g : Int), i = .int .i64 k ∧ tt = .int .i64 g ∧ k ≤ K ∧ repF R m N k = (G, g) ∧ OwnD wr (w.heap.size + 1) v G ∧ wr.cell? ⟨w.heap.size, 0, none⟩ = some (.int .i64 N) ∧ wr.cell? ⟨w.heap.size, 1, none⟩ = some (.slice oa R.length ca) ∧ Below w.heap.size w wr) (fun _ _ i _ => K - (intOf i).toNat)
  case atStart => exact ⟨0, [], 0, rfl, rfl, Nat.zero_le _, rfl, hO, a0, a1, hb⟩
  case round =>
    clear hO a0 a1 hb
    obtain ⟨k, G, g, rfl, rfl, hk, hGg, hO, a0, a1, hb⟩ := hrel
    have HG : Hid (repF R m N k = (G, g)) := hGg
    obtain ⟨i1, i2, i3, i4⟩ := HK.out k (by omega)
    rw [hGg] at i1 i2 i3 i4
    dsimp only at i1 i2 i3 i4
    have hGl : G.length ≤ Room := by unfold Room; omega
    obtain ⟨o, c, rfl⟩ := hO.shape
    by_cases hlt : k < K
    · have HSK := (show Hid _ from HS.out k G g hGg)
      obtain ⟨hst, hco⟩ := HCN.out k (by omega)
      have HCV : Hid (covF G (candF N k).1 (candF N k).2 = covS G (candF N k).1 (candF N k).2) := cov_same i1 hst
      have HDk : Hid (∀ w', Ans Tryz.prog 55 #[.int .i64 N, .int .i64 k] w' (.agg #[.int .i64 (candF N k).1, .int .i64 (candF N k).2])) := fun w' => HD.out k w' (by omega)
      clear hGg i1
      generalize (candF N k).1 = x at *
      generalize (candF N k).2 = r at *
      have hst' : Hid (St x ∧ Co r) := ⟨hst, hco⟩
      have hr0 := hco.1
      have hr5 := hco.2
      clear hst hco
      go_wp2_with fail
      refine Calls.mono (HDk.out _) ?_
      rintro e w1 ⟨rfl, hbn⟩
      replace a0 := cell_keep a0 hbn
      replace a1 := cell_keep a1 hbn
      replace hO := hO.keep hbn
      replace hb := bel_to hb hbn
      have hba := (Below.refl w1.heap.size w1).alloc (Nat.le_refl _) (.cells #[.int .i64 x, .int .i64 r] 38)
      replace a0 := cell_keep a0 hba
      replace a1 := cell_keep a1 hba
      replace hO := hO.keep hba
      replace hb := bel_to hb hba
      have d0 := box_at w1 #[.int .i64 x, .int .i64 r] 38 0 _ rfl
      have d1 := box_at w1 #[.int .i64 x, .int .i64 r] 38 1 _ rfl
      clear hbn hba
      cases h1 : hasc x r
      · have h1' : (bits BinOp.and IntKind.i64 (x / 2 ^ r.toNat) 1 == 1) = false := h1
        cases h2 : covF G x r
        · have h2' : covS G x r = false := HCV.out.symm.trans h2
          cases h3 : holdsF R m x r
          · have HZ : Hid (repF R m N (k + 1) = (G, g + 1)) := by show repF R m N (k + 1) = _; rw [HSK.out, h1, h2', h3]; rfl
            go_wp2_with (first | (go_at_call 91; refine Calls.mono (Ans.eqb (c_l8Covered _ _ G x r _ (hO.deps rfl hGl)) h2) ?_; rintro e w1 ⟨rfl, hbn⟩; replace a0 := cell_keep a0 hbn; replace a1 := cell_keep a1 hbn; replace d0 := cell_keep d0 hbn; replace d1 := cell_keep d1 hbn; replace hO := hO.keep hbn; replace hb := bel_to (w := w) (by first | exact hb | exact hb.alloc hb.size _ | exact (hb.alloc hb.size _).alloc (Nat.le_trans hb.size (by simp)) _ | exact hb.setCell (by simp [hb.size]) _) hbn; clear hbn) | (go_at_call 72; refine Calls.mono (Ans.eqb (c_l7Holds N oa ca R m x r _ (hR.keep hb) HT.out hst'.out.1 hst'.out.2) h3) ?_; rintro e w1 ⟨rfl, hbn⟩; replace a0 := cell_keep a0 hbn; replace a1 := cell_keep a1 hbn; replace d0 := cell_keep d0 hbn; replace d1 := cell_keep d1 hbn; replace hO := hO.keep hbn; replace hb := bel_to (w := w) (by first | exact hb | exact hb.alloc hb.size _ | exact (hb.alloc hb.size _).alloc (Nat.le_trans hb.size (by simp)) _ | exact hb.setCell (by simp [hb.size]) _) hbn; clear hbn) | fail)
            go_roundw
            case rel => exact ⟨k + 1, G, g + 1, by go_num, rfl, by omega, HZ.out, hO, a0, a1, hb⟩
            case measure => simp [intOf]; omega
          · have HZ : Hid (repF R m N (k + 1) = (G ++ [(x, r)], g + 1)) := by show repF R m N (k + 1) = _; rw [HSK.out, h1, h2', h3]; rfl
            go_wp2_with (first | (go_at_call 91; refine Calls.mono (Ans.eqb (c_l8Covered _ _ G x r _ (hO.deps rfl hGl)) h2) ?_; rintro e w1 ⟨rfl, hbn⟩; replace a0 := cell_keep a0 hbn; replace a1 := cell_keep a1 hbn; replace d0 := cell_keep d0 hbn; replace d1 := cell_keep d1 hbn; replace hO := hO.keep hbn; replace hb := bel_to (w := w) (by first | exact hb | exact hb.alloc hb.size _ | exact (hb.alloc hb.size _).alloc (Nat.le_trans hb.size (by simp)) _ | exact hb.setCell (by simp [hb.size]) _) hbn; clear hbn) | (go_at_call 72; refine Calls.mono (Ans.eqb (c_l7Holds N oa ca R m x r _ (hR.keep hb) HT.out hst'.out.1 hst'.out.2) h3) ?_; rintro e w1 ⟨rfl, hbn⟩; replace a0 := cell_keep a0 hbn; replace a1 := cell_keep a1 hbn; replace d0 := cell_keep d0 hbn; replace d1 := cell_keep d1 hbn; replace hO := hO.keep hbn; replace hb := bel_to (w := w) (by first | exact hb | exact hb.alloc hb.size _ | exact (hb.alloc hb.size _).alloc (Nat.le_trans hb.size (by simp)) _ | exact hb.setCell (by simp [hb.size]) _) hbn; clear hbn) | (at_builtin; refine wpList_append_fresh rfl _ _ 27 rfl (w.heap.size + 1) 38 j0 (.agg #[.int .i64 0, .int .i64 0]) 2 16 Tryz.underlying27 hj hy0 hy1 hy2 rfl (by decide) _ _ _ rfl (World.ownsRow.alloc hO _) _ 1 1 [.int .i64 x, .int .i64 r] rfl rfl (World.news_of_block (cs := #[.int .i64 x, .int .i64 r]) (t := 38) (fr := (0, 0)) (heap_alloc_new _ _)) (by intro u hu; simp at hu; rcases hu with rfl | rfl <;> rfl) (by unfold maxLen; omega) (by omega) (by have := World.block_lt_of_cell? _ _ a1; simp at this; simp; omega) ?_; intro v' w4 hown hgrow hfr; replace hb := (hb.alloc hb.size _).grown hgrow (by have := hb.size; simp; omega) (fun g hg => Nat.le_trans (Nat.le_succ _) (World.ownsRow.lt hO g hg).1); replace a0 := cell_gr (cell_al a0 _) (World.ownsRow.alloc hO _) (by omega) hgrow; replace a1 := cell_gr (cell_al a1 _) (World.ownsRow.alloc hO _) (by omega) hgrow; replace hO := own_snocD' hown; clear hown hgrow hfr) | fail)
            go_roundw
            case rel => exact ⟨k + 1, _, g + 1, by go_num, rfl, by omega, HZ.out, hO, a0, a1, hb⟩
            case measure => simp [intOf]; omega
        · have h2' : covS G x r = true := HCV.out.symm.trans h2
          have HZ : Hid (repF R m N (k + 1) = (G, g)) := by show repF R m N (k + 1) = _; rw [HSK.out, h1, h2']; rfl
          go_wp2_with (first | (go_at_call 91; refine Calls.mono (Ans.eqb (c_l8Covered _ _ G x r _ (hO.deps rfl hGl)) h2) ?_; rintro e w1 ⟨rfl, hbn⟩; replace a0 := cell_keep a0 hbn; replace a1 := cell_keep a1 hbn; replace d0 := cell_keep d0 hbn; replace d1 := cell_keep d1 hbn; replace hO := hO.keep hbn; replace hb := bel_to (w := w) (by first | exact hb | exact hb.alloc hb.size _ | exact (hb.alloc hb.size _).alloc (Nat.le_trans hb.size (by simp)) _ | exact hb.setCell (by simp [hb.size]) _) hbn; clear hbn) | fail)
          go_roundw
          case rel => exact ⟨k + 1, G, g, by go_num, rfl, by omega, HZ.out, hO, a0, a1, hb⟩
          case measure => simp [intOf]; omega
      · have h1' : (bits BinOp.and IntKind.i64 (x / 2 ^ r.toNat) 1 == 1) = true := h1
        have HZ : Hid (repF R m N (k + 1) = (G, g)) := by show repF R m N (k + 1) = _; rw [HSK.out, h1]; rfl
        go_wp2
        go_roundw
        case rel => exact ⟨k + 1, G, g, by go_num, rfl, by omega, HZ.out, hO, a0, a1, hb⟩
        case measure => simp [intOf]; omega
    · have hkk : k = K := by omega
      have HKK : Hid (repF R m N K = (G, g)) := by show repF R m N K = (G, g); rw [← hkk]; exact HG.out
      clear hkk hGg
      go_wp2
      go_ret2
      rw [HKK.out]
      exact ⟨_, _, rfl, hO.based (Nat.le_succ _), hb⟩

set_option maxHeartbeats 1600000 in
theorem c_specIsSearch (A : Sr) (oa fa) (ca fca : Nat) (w : World) (hA : RowsAt w oa A.R) (hC : DepsAt w fa A.F) :
    Ans Tryz.prog 11 #[.agg #[.int .i64 A.n, .slice oa A.R.length ca, .int .i64 A.m, .int .i64 A.a, .slice fa A.F.length fca, .int .i64 A.t]] w (.bool (isSrF A)) := by
  unfold Ans
  obtain ⟨n, R, m, a, F, t⟩ := A
  dsimp only at hA hC ⊢
  have hb := (Below.refl w.heap.size w).alloc (Nat.le_refl _) (.cells #[.int .i64 n, .slice oa R.length ca, .int .i64 m, .int .i64 a, .slice fa F.length fca, .int .i64 t] 29)
  have kS := Blk.new w #[.int .i64 n, .slice oa R.length ca, .int .i64 m, .int .i64 a, .slice fa F.length fca, .int .i64 t] 29
  have s0 := kS.cell 0 (.int .i64 n) rfl
  have s1 := kS.cell 1 (.slice oa R.length ca) rfl
  have s2 := kS.cell 2 (.int .i64 m) rfl
  have s3 := kS.cell 3 (.int .i64 a) rfl
  have s4 := kS.cell 4 (.slice fa F.length fca) rfl
  have s5 := kS.cell 5 (.int .i64 t) rfl
  have hx := fun (x : After (w.alloc (.cells #[.int .i64 n, .slice oa R.length ca, .int .i64 m, .int .i64 a, .slice fa F.length fca, .int .i64 t] 29))) => (hA.keep hb).keep x.bel
  cases hok : (isTabF n R && modeF m)
  · have HM : Hid (isSrF ⟨n, R, m, a, F, t⟩ = false) := by show isSrF ⟨n, R, m, a, F, t⟩ = false; unfold isSrF; dsimp only; rw [hok]; simp
    go_enter Tryz.func11, Tryz.ntmps11
    go_wp2_with fail
    (refine wp_region_after (by kernel_rfl) (by kernel_rfl) ?_; have q_s0 := fun (x : After _) => cell_keep s0 x.bel; have q_s1 := fun (x : After _) => cell_keep s1 x.bel; have q_s2 := fun (x : After _) => cell_keep s2 x.bel; have q_s3 := fun (x : After _) => cell_keep s3 x.bel; (repeat (go_big_quiet_step ((first | (go_at_call 51; exact Ans.after (Ans.eqb (c_l4Fine _ _ _ _ _ _ (hx _)) hok)))))); clear q_s0; clear q_s1; clear q_s2; clear q_s3; refine wpQuiet_nil ?_; rintro _ ⟨⟨w1, hbn⟩, rfl⟩; (try simp only [After.w]); replace s0 := cell_keep s0 hbn; replace s1 := cell_keep s1 hbn; replace s2 := cell_keep s2 hbn; replace s3 := cell_keep s3 hbn; replace hb := bel_to (w := w) (by first | exact hb | exact hb.alloc hb.size _ | exact (hb.alloc hb.size _).alloc (Nat.le_trans hb.size (by simp)) _ | exact hb.setCell (by simp [hb.size]) _) hbn; clear hbn)
    go_wp2
    go_ret
    exact ⟨ret_bool HM.out.symm, hb⟩
  have hok' := hok
  simp only [Bool.and_eq_true] at hok'
  obtain ⟨ht, hm⟩ := hok'
  obtain ⟨hn1, hn5, _, _⟩ := isTab_of ht
  obtain ⟨N, rfl⟩ := Int.eq_ofNat_of_zero_le (show 0 ≤ n by omega)
  have hN5 : N ≤ 5 := by omega
  have HCN : Hid (cntF N = ((N * 2 ^ N : Nat) : Int)) := by show cntF N = _; unfold cntF; rw [Int.toNat_natCast]
  have HCO : Hid (∀ w', Ans Tryz.prog 48 #[.int .i64 N] w' (.int .i64 ((N * 2 ^ N : Nat) : Int))) := fun w' => c_l8Count N hN5 w'
  have hc160 := count_le hN5
  have HRP : Hid (∀ (K : Nat) (w' : World), RowsAt w' oa R → K ≤ N * 2 ^ N → Calls Tryz.prog 53 #[.agg #[.int .i64 N, .slice oa R.length ca], .int .i64 m, .int .i64 K] w' fun e w'' => ∃ o c, e = .returned (.tuple #[.slice o (repF R m N K).1.length c, .int .i64 (repF R m N K).2]) ∧ OwnD w'' w'.heap.size (.slice o (repF R m N K).1.length c) (repF R m N K).1 ∧ Below w'.heap.size w' w'') := fun K w' h hK => c_l8Replay N K oa ca R m w' h ht hK
  have HRL : Hid (∀ k, k ≤ N * 2 ^ N → (repF R m N k).1.length ≤ k) := fun k hk => (rep_ok hN5 (by omega) k hk).2.1
  have HST : Hid (isTabF N R = true ∧ modeF m = true) := ⟨ht, hm⟩
  generalize hcnt : N * 2 ^ N = M at *
  clear ht hm hn1 hn5 hcnt
  cases hin : inB a 0 (M : Int)
  · have HM : Hid (isSrF ⟨N, R, m, a, F, t⟩ = false) := by
      show isSrF ⟨N, R, m, a, F, t⟩ = false
      have hin' := hin
      unfold inB at hin'
      unfold isSrF
      dsimp only
      rw [HCN.out, hin']
      simp
    go_enter Tryz.func11, Tryz.ntmps11
    go_wp2_with fail
    (refine wp_region_after (by kernel_rfl) (by kernel_rfl) ?_; have q_s0 := fun (x : After _) => cell_keep s0 x.bel; have q_s1 := fun (x : After _) => cell_keep s1 x.bel; have q_s2 := fun (x : After _) => cell_keep s2 x.bel; have q_s3 := fun (x : After _) => cell_keep s3 x.bel; (repeat (go_big_quiet_step ((first | (go_at_call 51; exact Ans.after (Ans.eqb (c_l4Fine _ _ _ _ _ _ (hx _)) hok)) | (go_at_call 48; exact Ans.after (HCO.out _)) | (go_at_call 52; exact Ans.after (Ans.eqb (c_l1In _ _ _ _) hin)))))); clear q_s0; clear q_s1; clear q_s2; clear q_s3; refine wpQuiet_nil ?_; rintro _ ⟨⟨w1, hbn⟩, rfl⟩; (try simp only [After.w]); replace s0 := cell_keep s0 hbn; replace s1 := cell_keep s1 hbn; replace s2 := cell_keep s2 hbn; replace s3 := cell_keep s3 hbn; replace hb := bel_to (w := w) (by first | exact hb | exact hb.alloc hb.size _ | exact (hb.alloc hb.size _).alloc (Nat.le_trans hb.size (by simp)) _ | exact hb.setCell (by simp [hb.size]) _) hbn; clear hbn)
    go_wp2
    go_ret
    exact ⟨ret_bool HM.out.symm, hb⟩
  have hr : 0 ≤ a ∧ a ≤ (M : Int) := by unfold inB at hin; simpa using hin
  obtain ⟨K, rfl⟩ := Int.eq_ofNat_of_zero_le hr.1
  have hKM : K ≤ M := by omega
  go_enter Tryz.func11, Tryz.ntmps11
  go_wp2_with fail
  (refine wp_region_after (by kernel_rfl) (by kernel_rfl) ?_; have q_s0 := fun (x : After _) => cell_keep s0 x.bel; have q_s1 := fun (x : After _) => cell_keep s1 x.bel; have q_s2 := fun (x : After _) => cell_keep s2 x.bel; have q_s3 := fun (x : After _) => cell_keep s3 x.bel; have q_s4 := fun (x : After _) => cell_keep s4 x.bel; have q_s5 := fun (x : After _) => cell_keep s5 x.bel; (repeat (go_big_quiet_step ((first | (go_at_call 51; exact Ans.after (Ans.eqb (c_l4Fine _ _ _ _ _ _ (hx _)) hok)) | (go_at_call 48; exact Ans.after (HCO.out _)) | (go_at_call 52; exact Ans.after (Ans.eqb (c_l1In _ _ _ _) hin)))))); clear q_s0; clear q_s1; clear q_s2; clear q_s3; clear q_s4; clear q_s5; refine wpQuiet_nil ?_; rintro _ ⟨⟨w1, hbn⟩, rfl⟩; (try simp only [After.w]); replace s0 := cell_keep s0 hbn; replace s1 := cell_keep s1 hbn; replace s2 := cell_keep s2 hbn; replace s3 := cell_keep s3 hbn; replace s4 := cell_keep s4 hbn; replace s5 := cell_keep s5 hbn; replace hb := bel_to (w := w) (by first | exact hb | exact hb.alloc hb.size _ | exact (hb.alloc hb.size _).alloc (Nat.le_trans hb.size (by simp)) _ | exact hb.setCell (by simp [hb.size]) _) hbn; clear hbn)
  clear hr
  go_wp2_with fail
  refine (HRP.out K _ (hA.keep hb) hKM).mono ?_
  rintro e w2 ⟨o, c, rfl, hO, hbn⟩
  replace s4 := cell_keep s4 hbn
  replace s5 := cell_keep s5 hbn
  replace hb := bel_to hb hbn
  have hGl := HRL.out K hKM
  have HM : Hid (isSrF ⟨N, R, m, K, F, t⟩ = (decide ((repF R m N K).2 = t) && decide ((repF R m N K).1 = F))) := by
    show isSrF ⟨N, R, m, K, F, t⟩ = _
    unfold isSrF
    dsimp only
    rw [HCN.out, HST.out.1, HST.out.2, Int.toNat_natCast, Int.toNat_natCast, decide_eq_true (show 0 ≤ (K : Int) by omega), decide_eq_true (show (K : Int) ≤ (M : Int) by omega)]; rfl
  generalize (repF R m N K).1 = G at *
  generalize (repF R m N K).2 = g at *
  have hGr : G.length ≤ Room := by unfold Room; omega
  clear hbn
  cases h4 : decide (F = G)
  · have h4' : decide (G = F) = false := by rw [decide_eq_false_iff_not] at *; exact fun e => h4 e.symm
    go_wp2_with (first | (go_at_call 30; refine Calls.mono (Ans.eqb (c_specSameDeps _ _ _ _ F G _ (hC.keep hb) (hO.deps rfl hGr)) h4) ?_; rintro e w1 ⟨rfl, hbn⟩; replace s4 := cell_keep s4 hbn; replace s5 := cell_keep s5 hbn; replace hb := bel_to (w := w) (by first | exact hb | exact hb.alloc hb.size _ | exact (hb.alloc hb.size _).alloc (Nat.le_trans hb.size (by simp)) _ | exact hb.setCell (by simp [hb.size]) _) hbn; clear hbn) | fail)
    go_ret
    exact ⟨ret_bool (by rw [HM.out, h4']; simp), hb⟩
  · have h4' : decide (G = F) = true := by rw [decide_eq_true_iff] at *; exact h4.symm
    cases h5 : (t == g)
    · have h5' : decide (g = t) = false := by rw [decide_eq_false_iff_not]; intro e; simp [e] at h5
      go_wp2_with (first | (go_at_call 30; refine Calls.mono (Ans.eqb (c_specSameDeps _ _ _ _ F G _ (hC.keep hb) (hO.deps rfl hGr)) h4) ?_; rintro e w1 ⟨rfl, hbn⟩; replace s4 := cell_keep s4 hbn; replace s5 := cell_keep s5 hbn; replace hb := bel_to (w := w) (by first | exact hb | exact hb.alloc hb.size _ | exact (hb.alloc hb.size _).alloc (Nat.le_trans hb.size (by simp)) _ | exact hb.setCell (by simp [hb.size]) _) hbn; clear hbn) | fail)
      go_ret
      exact ⟨ret_bool (by rw [HM.out, h5']; rfl), hb⟩
    · have h5' : decide (g = t) = true := by rw [decide_eq_true_iff]; simp at h5; exact h5.symm
      go_wp2_with (first | (go_at_call 30; refine Calls.mono (Ans.eqb (c_specSameDeps _ _ _ _ F G _ (hC.keep hb) (hO.deps rfl hGr)) h4) ?_; rintro e w1 ⟨rfl, hbn⟩; replace s4 := cell_keep s4 hbn; replace s5 := cell_keep s5 hbn; replace hb := bel_to (w := w) (by first | exact hb | exact hb.alloc hb.size _ | exact (hb.alloc hb.size _).alloc (Nat.le_trans hb.size (by simp)) _ | exact hb.setCell (by simp [hb.size]) _) hbn; clear hbn) | fail)
      go_ret
      exact ⟨ret_bool (by rw [HM.out, h4', h5']; rfl), hb⟩

def isSrdF (A : Sr) : Bool := isSrF A && (A.a == cntF A.n)
theorem isSr_tab {A : Sr} (h : isSrF A = true) : 1 ≤ A.n ∧ A.n ≤ 5 := by
  unfold isSrF at h
  simp only [Bool.and_eq_true] at h
  obtain ⟨h1, h5, _⟩ := isTab_of h.1.1.1
  exact ⟨h1, h5⟩

set_option maxHeartbeats 800000 in
theorem c_IsSearched (A : Sr) (oa fa) (ca fca : Nat) (w : World) (hA : RowsC w oa A.R) (hC : DepsAt w fa A.F) :
    Ans Tryz.prog 18 #[.agg #[.int .i64 A.n, .slice oa A.R.length ca, .int .i64 A.m, .int .i64 A.a, .slice fa A.F.length fca, .int .i64 A.t]] w (.bool (isSrdF A)) := by
  unfold Ans
  obtain ⟨n, R, m, a, F, t⟩ := A
  dsimp only at hA hC ⊢
  have hb := (Below.refl w.heap.size w).alloc (Nat.le_refl _) (.cells #[.int .i64 n, .slice oa R.length ca, .int .i64 m, .int .i64 a, .slice fa F.length fca, .int .i64 t] 29)
  have kS := Blk.new w #[.int .i64 n, .slice oa R.length ca, .int .i64 m, .int .i64 a, .slice fa F.length fca, .int .i64 t] 29
  have s0 := kS.cell 0 (.int .i64 n) rfl
  have s1 := kS.cell 1 (.slice oa R.length ca) rfl
  have s2 := kS.cell 2 (.int .i64 m) rfl
  have s3 := kS.cell 3 (.int .i64 a) rfl
  have s4 := kS.cell 4 (.slice fa F.length fca) rfl
  have s5 := kS.cell 5 (.int .i64 t) rfl
  have hx := fun (x : After (w.alloc (.cells #[.int .i64 n, .slice oa R.length ca, .int .i64 m, .int .i64 a, .slice fa F.length fca, .int .i64 t] 29))) => c_IsSearch ⟨n, R, m, a, F, t⟩ oa fa ca fca _ ((hA.keep hb).keep x.bel) ((hC.keep hb).keep x.bel)
  cases his : isSrF ⟨n, R, m, a, F, t⟩
  · have HM : Hid (isSrdF ⟨n, R, m, a, F, t⟩ = false) := by show isSrdF ⟨n, R, m, a, F, t⟩ = false; unfold isSrdF; rw [his]; rfl
    go_enter Tryz.func18, Tryz.ntmps18
    go_wp2_with fail
    (refine wp_region_after (by kernel_rfl) (by kernel_rfl) ?_; have q_s0 := fun (x : After _) => cell_keep s0 x.bel; have q_s1 := fun (x : After _) => cell_keep s1 x.bel; have q_s2 := fun (x : After _) => cell_keep s2 x.bel; have q_s3 := fun (x : After _) => cell_keep s3 x.bel; have q_s4 := fun (x : After _) => cell_keep s4 x.bel; have q_s5 := fun (x : After _) => cell_keep s5 x.bel; (repeat (go_big_quiet_step ((first | (go_at_call 10; exact Ans.after (Ans.eqb (hx _) his)))))); clear q_s0; clear q_s1; clear q_s2; clear q_s3; clear q_s4; clear q_s5; refine wpQuiet_nil ?_; rintro _ ⟨⟨w1, hbn⟩, rfl⟩; (try simp only [After.w]); replace s0 := cell_keep s0 hbn; replace s1 := cell_keep s1 hbn; replace s2 := cell_keep s2 hbn; replace s3 := cell_keep s3 hbn; replace s4 := cell_keep s4 hbn; replace s5 := cell_keep s5 hbn; replace hb := bel_to (w := w) (by first | exact hb | exact hb.alloc hb.size _ | exact (hb.alloc hb.size _).alloc (Nat.le_trans hb.size (by simp)) _ | exact hb.setCell (by simp [hb.size]) _) hbn; clear hbn)
    go_wp2
    go_ret
    exact ⟨ret_bool HM.out.symm, hb⟩
  have hn := isSr_tab his
  dsimp only at hn
  obtain ⟨N, rfl⟩ := Int.eq_ofNat_of_zero_le (show 0 ≤ n by omega)
  have hN5 : N ≤ 5 := by omega
  have HCO : Hid (∀ w', Ans Tryz.prog 44 #[.int .i64 N] w' (.int .i64 ((N * 2 ^ N : Nat) : Int))) := fun w' => c_candidatesOf N hN5 w'
  have HM : Hid (isSrdF ⟨N, R, m, a, F, t⟩ = (a == ((N * 2 ^ N : Nat) : Int))) := by show isSrdF ⟨N, R, m, a, F, t⟩ = _; unfold isSrdF cntF; rw [his]; dsimp only; rw [Int.toNat_natCast]; rfl
  generalize N * 2 ^ N = M at *
  go_enter Tryz.func18, Tryz.ntmps18
  go_wp2_with fail
  (refine wp_region_after (by kernel_rfl) (by kernel_rfl) ?_; have q_s0 := fun (x : After _) => cell_keep s0 x.bel; have q_s1 := fun (x : After _) => cell_keep s1 x.bel; have q_s2 := fun (x : After _) => cell_keep s2 x.bel; have q_s3 := fun (x : After _) => cell_keep s3 x.bel; have q_s4 := fun (x : After _) => cell_keep s4 x.bel; have q_s5 := fun (x : After _) => cell_keep s5 x.bel; (repeat (go_big_quiet_step ((first | (go_at_call 10; exact Ans.after (Ans.eqb (hx _) his)) | (go_at_call 44; exact Ans.after (HCO.out _)))))); clear q_s0; clear q_s1; clear q_s2; clear q_s3; clear q_s4; clear q_s5; refine wpQuiet_nil ?_; rintro _ ⟨⟨w1, hbn⟩, rfl⟩; (try simp only [After.w]); replace s0 := cell_keep s0 hbn; replace s1 := cell_keep s1 hbn; replace s2 := cell_keep s2 hbn; replace s3 := cell_keep s3 hbn; replace s4 := cell_keep s4 hbn; replace s5 := cell_keep s5 hbn; replace hb := bel_to (w := w) (by first | exact hb | exact hb.alloc hb.size _ | exact (hb.alloc hb.size _).alloc (Nat.le_trans hb.size (by simp)) _ | exact hb.setCell (by simp [hb.size]) _) hbn; clear hbn)
  go_wp2
  go_ret
  exact ⟨ret_bool HM.out.symm, hb⟩

set_option maxHeartbeats 800000 in
theorem c_specIsSearched (A : Sr) (oa fa) (ca fca : Nat) (w : World) (hA : RowsAt w oa A.R) (hC : DepsAt w fa A.F) :
    Ans Tryz.prog 24 #[.agg #[.int .i64 A.n, .slice oa A.R.length ca, .int .i64 A.m, .int .i64 A.a, .slice fa A.F.length fca, .int .i64 A.t]] w (.bool (isSrdF A)) := by
  unfold Ans
  obtain ⟨n, R, m, a, F, t⟩ := A
  dsimp only at hA hC ⊢
  have hb := (Below.refl w.heap.size w).alloc (Nat.le_refl _) (.cells #[.int .i64 n, .slice oa R.length ca, .int .i64 m, .int .i64 a, .slice fa F.length fca, .int .i64 t] 29)
  have kS := Blk.new w #[.int .i64 n, .slice oa R.length ca, .int .i64 m, .int .i64 a, .slice fa F.length fca, .int .i64 t] 29
  have s0 := kS.cell 0 (.int .i64 n) rfl
  have s1 := kS.cell 1 (.slice oa R.length ca) rfl
  have s2 := kS.cell 2 (.int .i64 m) rfl
  have s3 := kS.cell 3 (.int .i64 a) rfl
  have s4 := kS.cell 4 (.slice fa F.length fca) rfl
  have s5 := kS.cell 5 (.int .i64 t) rfl
  have hx := fun (x : After (w.alloc (.cells #[.int .i64 n, .slice oa R.length ca, .int .i64 m, .int .i64 a, .slice fa F.length fca, .int .i64 t] 29))) => c_specIsSearch ⟨n, R, m, a, F, t⟩ oa fa ca fca _ ((hA.keep hb).keep x.bel) ((hC.keep hb).keep x.bel)
  cases his : isSrF ⟨n, R, m, a, F, t⟩
  · have HM : Hid (isSrdF ⟨n, R, m, a, F, t⟩ = false) := by show isSrdF ⟨n, R, m, a, F, t⟩ = false; unfold isSrdF; rw [his]; rfl
    go_enter Tryz.func24, Tryz.ntmps24
    go_wp2_with fail
    (refine wp_region_after (by kernel_rfl) (by kernel_rfl) ?_; have q_s0 := fun (x : After _) => cell_keep s0 x.bel; have q_s1 := fun (x : After _) => cell_keep s1 x.bel; have q_s2 := fun (x : After _) => cell_keep s2 x.bel; have q_s3 := fun (x : After _) => cell_keep s3 x.bel; have q_s4 := fun (x : After _) => cell_keep s4 x.bel; have q_s5 := fun (x : After _) => cell_keep s5 x.bel; (repeat (go_big_quiet_step ((first | (go_at_call 11; exact Ans.after (Ans.eqb (hx _) his)))))); clear q_s0; clear q_s1; clear q_s2; clear q_s3; clear q_s4; clear q_s5; refine wpQuiet_nil ?_; rintro _ ⟨⟨w1, hbn⟩, rfl⟩; (try simp only [After.w]); replace s0 := cell_keep s0 hbn; replace s1 := cell_keep s1 hbn; replace s2 := cell_keep s2 hbn; replace s3 := cell_keep s3 hbn; replace s4 := cell_keep s4 hbn; replace s5 := cell_keep s5 hbn; replace hb := bel_to (w := w) (by first | exact hb | exact hb.alloc hb.size _ | exact (hb.alloc hb.size _).alloc (Nat.le_trans hb.size (by simp)) _ | exact hb.setCell (by simp [hb.size]) _) hbn; clear hbn)
    go_wp2
    go_ret
    exact ⟨ret_bool HM.out.symm, hb⟩
  have hn := isSr_tab his
  dsimp only at hn
  obtain ⟨N, rfl⟩ := Int.eq_ofNat_of_zero_le (show 0 ≤ n by omega)
  have hN5 : N ≤ 5 := by omega
  have HCO : Hid (∀ w', Ans Tryz.prog 48 #[.int .i64 N] w' (.int .i64 ((N * 2 ^ N : Nat) : Int))) := fun w' => c_l8Count N hN5 w'
  have HM : Hid (isSrdF ⟨N, R, m, a, F, t⟩ = (a == ((N * 2 ^ N : Nat) : Int))) := by show isSrdF ⟨N, R, m, a, F, t⟩ = _; unfold isSrdF cntF; rw [his]; dsimp only; rw [Int.toNat_natCast]; rfl
  generalize N * 2 ^ N = M at *
  go_enter Tryz.func24, Tryz.ntmps24
  go_wp2_with fail
  (refine wp_region_after (by kernel_rfl) (by kernel_rfl) ?_; have q_s0 := fun (x : After _) => cell_keep s0 x.bel; have q_s1 := fun (x : After _) => cell_keep s1 x.bel; have q_s2 := fun (x : After _) => cell_keep s2 x.bel; have q_s3 := fun (x : After _) => cell_keep s3 x.bel; have q_s4 := fun (x : After _) => cell_keep s4 x.bel; have q_s5 := fun (x : After _) => cell_keep s5 x.bel; (repeat (go_big_quiet_step ((first | (go_at_call 11; exact Ans.after (Ans.eqb (hx _) his)) | (go_at_call 48; exact Ans.after (HCO.out _)))))); clear q_s0; clear q_s1; clear q_s2; clear q_s3; clear q_s4; clear q_s5; refine wpQuiet_nil ?_; rintro _ ⟨⟨w1, hbn⟩, rfl⟩; (try simp only [After.w]); replace s0 := cell_keep s0 hbn; replace s1 := cell_keep s1 hbn; replace s2 := cell_keep s2 hbn; replace s3 := cell_keep s3 hbn; replace s4 := cell_keep s4 hbn; replace s5 := cell_keep s5 hbn; replace hb := bel_to (w := w) (by first | exact hb | exact hb.alloc hb.size _ | exact (hb.alloc hb.size _).alloc (Nat.le_trans hb.size (by simp)) _ | exact hb.setCell (by simp [hb.size]) _) hbn; clear hbn)
  go_wp2
  go_ret
  exact ⟨ret_bool HM.out.symm, hb⟩
end Go.Proofs.YtcenndlbhgfdfaaGreat
namespace Go.Proofs.YtcenndlbhgfdfaaGreat
open Go.RowKit
theorem heap_two (w : World) (o1 o2 : Obj) : ((w.alloc o1).alloc o2).heap[w.heap.size + 1]? = some o2 := by
  have := heap_alloc_new (w.alloc o1) o2
  rwa [World.size_alloc] at this
end Go.Proofs.YtcenndlbhgfdfaaGreat
namespace Go.Proofs.YtcenndlbhgfdfaaGreat
open Go.RowKit
set_option linter.unusedVariables false
set_option maxRecDepth 100000

theorem bel_set2 {w0 w : World} {B : Nat} (h : Below B w0 w) {k : Nat} (hk : B ≤ k) (b0 b1 : Value) : Below B w0 ((w.setCell ⟨k, 0, none⟩ b0).setCell ⟨k, 1, none⟩ b1) :=
  Below.setCell (p := ⟨k, 1, none⟩) (Below.setCell (p := ⟨k, 0, none⟩) h hk b0) hk b1
theorem apart_lit {v : Value} {g n c : Nat} (h : v.ownBlock ≠ some g) : Apart (.slice (some ⟨g, 0, none⟩) n c) v := Or.inr fun e => h e.symm
theorem Blk.world {w : World} {g : Nat} {c : Array Value} {T : TypeId} (h : Blk w g c T) : ∃ w', w' = w := ⟨w, rfl⟩
theorem drew_grown {w w' : World} {row : Option Nat} (h : w.drew.grownBy w' row) : w.grownBy w' row := ⟨h.os, h.tape, h.output, h.size, h.block⟩
theorem drew_fresh {w : World} {v v' : Value} (h : Fresh w.drew v v') : Fresh w v v' := h
def OldR (S : Nat) (v : Value) (xs : List Value) : Prop := ∀ y, y = v ∨ y ∈ xs → ∀ g, y.ownBlock = some g → g < S
theorem OwnRows.old {w : World} {B S : Nat} {v : Value} {xs : List Value} {R : List (List Int)} (h : OwnRows w B v xs R) (hS : w.heap.size ≤ S) : OldR S v xs := by
  intro y hy g hg
  rcases hy with rfl | hy
  · exact Nat.lt_of_lt_of_le (World.ownsRow.lt h.outer g hg).2 hS
  · obtain ⟨j, _, o, c, e, h2, _⟩ := h.one hy
    exact Nat.lt_of_lt_of_le (World.ownsRow.lt h2 g hg).2 hS
theorem OwnRows.lowS {w : World} {B S : Nat} {v : Value} {xs : List Value} {R : List (List Int)} (h : OwnRows w B v xs R) (hS : S ≤ B) : ∀ y ∈ xs, ∀ g, y.ownBlock = some g → S ≤ g := by
  intro y hy g hg
  obtain ⟨j, _, o, c, e, h2, _⟩ := h.one hy
  exact Nat.le_trans hS (World.ownsRow.lt h2 g hg).1
theorem OwnRows.many {w w' : World} {B S : Nat} {v : Value} {xs vs : List Value} {R : List (List Int)} (h : OwnRows w B v xs R) (hg : GrownMany w w' vs) (hl : ∀ y ∈ vs, ∀ g, y.ownBlock = some g → S ≤ g) (ho : OldR S v xs) : OwnRows w' B v xs R := by
  have hap : ∀ u, u = v ∨ u ∈ xs → ∀ y ∈ vs, Apart u y := by
    intro u hu y hy
    cases e : u.ownBlock with
    | none => exact .inl e
    | some g => exact .inr fun e' => by have := ho u hu g e; have := hl y hy g (by rw [← e', e]); omega
  refine ⟨h.len, owns_many h.outer hg (hap v (.inl rfl)), fun j hj => ?_, h.pair⟩
  obtain ⟨o, c, h1, h2, h3⟩ := h.rows j hj
  exact ⟨o, c, h1, h2.many hg (hap _ (.inr (List.mem_iff_getElem?.2 ⟨j, h1⟩))), h3⟩
theorem OwnRows.after {w w' : World} {B size n : Nat} {e : TypeId} {u v : Value} {ys xs : List Value} {R : List (List Int)} (h : OwnRows w' w.heap.size v xs R) (h' : w.ownsRow B e size u n ys) : ApartR v xs u :=
  ⟨(apart_old h' h.outer).symm, fun y hy => by obtain ⟨j, _, o, c, e, h2, _⟩ := h.one hy; exact (apart_old h' h2).symm⟩
theorem Blk.many {w w' : World} {k : Nat} {c : Array Value} {T : TypeId} {vs : List Value} (h : Blk w k c T) (hg : GrownMany w w' vs) (hn : ∀ y ∈ vs, y.ownBlock ≠ some k) : Blk w' k c T := (hg.block k h.lt hn).trans h
theorem OwnRows.readSeq {w : World} {B c : Nat} {oa : Option Addr} {xs : List Value} {R : List (List Int)} {k : Int} (h : OwnRows w B (.slice oa R.length c) xs (seqR k R)) (hR : R.length ≤ Room) (hr : ∀ j, j < R.length → (row R j).length ≤ Room) : RowsAt w oa (seqR k R) :=
  h.read (by rw [seqR_length]; exact hR) (fun j hj => by rw [seqR_length] at hj; rw [seqR_row hj, seqI_length]; exact hr j hj)
theorem OwnRows.baseLe {w : World} {B S : Nat} {v : Value} {xs : List Value} {R : List (List Int)} (_ : OwnRows w B v xs R) (h : S ≤ B) : S ≤ B := h
theorem sum_le {R : List (List Int)} {m : Nat} (h : ∀ j, j < R.length → (row R j).length ≤ m) : ∀ k, k ≤ R.length → sumL R k ≤ m * k
  | 0, _ => by simp [sumL]
  | k + 1, hk => by
    rw [sumL_succ (by omega), Nat.mul_succ]
    have := sum_le h k (by omega)
    have := h k (by omega)
    omega
/-- Neither the list nor a row of it lies in block k. -/
def Avoid (k : Nat) (v : Value) (xs : List Value) : Prop := ∀ y, y = v ∨ y ∈ xs → y.ownBlock ≠ some k
theorem set_apart {w : World} {B size n k j : Nat} {e : TypeId} {y u : Value} {ys : List Value} (h : w.ownsRow B e size y n ys) (hk : y.ownBlock ≠ some k) : (w.setCell ⟨k, j, none⟩ u).ownsRow B e size y n ys :=
  World.ownsRow.kept h (grown_set w k j _) (.inr hk)
theorem ownRows_setAvoid {w : World} {B k : Nat} {v : Value} {xs : List Value} {R : List (List Int)} (h : OwnRows w B v xs R) (ha : Avoid k v xs) (j : Nat) (u : Value) : OwnRows (w.setCell ⟨k, j, none⟩ u) B v xs R :=
  ⟨h.len, set_apart h.outer (ha v (.inl rfl)), fun t ht => by
    obtain ⟨o, c, h1, h2, h3⟩ := h.rows t ht
    exact ⟨o, c, h1, set_apart h2 (ha _ (.inr (List.mem_iff_getElem?.2 ⟨t, h1⟩))), h3⟩, h.pair⟩
/-- 't.Rows = append(t.Rows, r)' for a table that the call made. -/
theorem tab_snoc {w w5 w7 : World} {B k6 c c5 nC : Nat} {hd v' : Value} {T T2 : TypeId} {o o5 : Option Addr} {xs : List Value} {P : List (List Int)} {C : List Int} (hnC : C.length = nC)
    (hO : OwnRows w5 B (.slice o P.length c) xs P) (hC : OwnI w5 B (.slice o5 nC c5) C) (hap : ApartR (.slice o P.length c) xs (.slice o5 nC c5))
    (kb : Blk w5 k6 #[hd, .slice o P.length c] T) (av : Avoid k6 (.slice o P.length c) xs) (avC : (Value.slice o5 nC c5).ownBlock ≠ some k6) (hb : Below w.heap.size w w5) (hB : w.heap.size ≤ B) (hk6 : w.heap.size ≤ k6)
    (hown : w7.ownsRow B 50 1 v' (xs.length + 1) (xs ++ [.slice o5 nC c5])) (hgrow : (w5.alloc (.cells #[.slice o5 nC c5] T2)).grownBy w7 (Value.slice o P.length c).ownBlock) (hfr : Fresh (w5.alloc (.cells #[.slice o5 nC c5] T2)) (.slice o P.length c) v') :
    (∃ o' c', v' = .slice o' (P.length + 1) c') ∧ w7.cell? ⟨k6, 1, none⟩ = some (.slice o P.length c) ∧ w7.frozen? ⟨k6, 1, none⟩ = false ∧ Blk (w7.setCell ⟨k6, 1, none⟩ v') k6 #[hd, v'] T ∧
    OwnRows (w7.setCell ⟨k6, 1, none⟩ v') B v' (xs ++ [.slice o5 nC c5]) (P ++ [C]) ∧ Avoid k6 v' (xs ++ [.slice o5 nC c5]) ∧ Below w.heap.size w (w7.setCell ⟨k6, 1, none⟩ v') ∧
    (∀ (B' : Nat) (e : TypeId) (size : Nat) (u : Value) (n : Nat) (ys : List Value), w5.ownsRow B' e size u n ys → Apart u (.slice o P.length c) → u.ownBlock ≠ some k6 → (w7.setCell ⟨k6, 1, none⟩ v').ownsRow B' e size u n ys ∧ Apart u v') ∧
    (∀ (g : Nat) (cs : Array Value) (T' : TypeId), Blk w5 g cs T' → g ≠ k6 → (Value.slice o P.length c).ownBlock ≠ some g → Blk (w7.setCell ⟨k6, 1, none⟩ v') g cs T') := by
  subst hnC
  have hO2 := OwnRows.snoc hO hC hap hown hgrow hfr
  have hsh : ∃ o' c', v' = .slice o' (P.length + 1) c' := by
    obtain ⟨o', c', e⟩ := hO2.shape
    exact ⟨o', c', by rw [e]; simp⟩
  have hv : v'.ownBlock ≠ some k6 := by
    rcases hfr with h | h
    · rw [h]; exact av _ (.inl rfl)
    · intro e
      have h1 := h k6 e
      have h2 := kb.lt
      simp at h1; omega
  have av2 : Avoid k6 v' (xs ++ [.slice o5 C.length c5]) := by
    intro y hy
    rcases hy with rfl | hy
    · exact hv
    · rcases List.mem_append.1 hy with hy | hy
      · exact av y (.inr hy)
      · rw [List.mem_singleton] at hy; subst hy; exact avC
  have k7 : Blk w7 k6 #[hd, .slice o P.length c] T := (kb.alloc _).grown hgrow (fun e => av _ (.inl rfl) e.symm)
  have hb7 : Below w.heap.size w w7 := (hb.alloc hb.size _).grown hgrow (by have := hb.size; simp; omega) (fun g hg => Nat.le_trans hB (World.ownsRow.lt hO.outer g hg).1)
  refine ⟨hsh, k7.cell 1 _ rfl, k7.free 1, k7.set 1 v', ownRows_setAvoid hO2 av2 1 v', av2, Below.setCell (p := (⟨k6, 1, none⟩ : Addr)) hb7 hk6 v', ?_, ?_⟩
  · intro B' e size u n ys h ha hk
    have h1 := World.ownsRow.alloc h (.cells #[.slice o5 C.length c5] T2)
    exact ⟨set_apart (World.ownsRow.kept h1 hgrow ha) hk, Apart.next h1 ha hfr⟩
  · intro g cs T' h hg hne
    exact ((h.alloc _).grown hgrow (fun e => hne e.symm)).far ⟨k6, 1, none⟩ v' hg

theorem oldR_le {S S' : Nat} {v : Value} {xs : List Value} (h : OldR S v xs) (hS : S ≤ S') : OldR S' v xs := fun y hy g e => Nat.lt_of_lt_of_le (h y hy g e) hS
theorem apartR_none (v : Value) (xs : List Value) : ApartR v xs (.slice none 0 0) := ⟨Apart.symm (.inl rfl), fun y _ => Apart.symm (.inl rfl)⟩
theorem ownD_none (w : World) (base : Nat) : OwnD w base (.slice none 0 0) [] := ⟨rfl, Or.inl ⟨rfl, rfl⟩⟩
theorem Blk.keepTo {w w' : World} {g B : Nat} {c : Array Value} {T : TypeId} (h : Blk w g c T) (hg : g < B) (hb : Below B w w') : Blk w' g c T := (hb.block g hg).trans h
end Go.Proofs.YtcenndlbhgfdfaaGreat
namespace Go.Proofs.YtcenndlbhgfdfaaGreat
open Go.RowKit
set_option linter.unusedVariables false
set_option maxRecDepth 100000

theorem step_append_none {P : Program} (w : World) {ops : Array Oper} {o : Oper} {a : Act} {K : Act → World → Prop} {Q : Exit → Act → World → Prop} {E : Prop} (hgd : o.guard = none) (s x : Operand) (t : TypeId)
    (ho : o.op = .call { callee := .builtin .append, args := #[s, x], argTypes := #[t, t] })
    (base : Nat) (e : TypeId) (i : TypeInfo) (size : Nat) (ht : P.underlying t = some (.slice e)) (hi : P.info? e = some i)
    (v : Value) (n : Nat) (xs : List Value) (hs : a.eval s = v) (hown : w.ownsRow base e size v n xs) (hx : a.eval x = .slice none 0 0)
    (h : K (a.put o.dst v) w) : if Region.wanted o (yielded ops a.tmps) = true then Oper.wp P o a w K Q else E := by
  have hw : Region.wanted o (yielded ops a.tmps) = true := by simp [Region.wanted, hgd]
  rw [if_pos hw]
  have hrun := run_append_owned_none (P := P) (w := w) base t o.type e i size ht hi v n xs hown
  unfold Oper.wp
  simp [execOp, ho, resolve, invoke, builtin, hs, hx, hrun, Result.andThen]
  exact h
theorem avoid_none (k : Nat) : Avoid k (.slice none 0 0) [] := fun y hy e => by
  rcases hy with rfl | hy
  · cases e
  · cases hy
/-- What holds before row k is copied. -/
def CpI (n : Int) (va : Value) (R : List (List Int)) (w : World) (k : Nat) (wr : World) : Prop := ∃ (o : Option Addr) (c : Nat) (xs : List Value), Blk wr (w.heap.size + 2) #[.int .i64 n, .slice o k c] 26 ∧ OwnRows wr (w.heap.size + 2) (.slice o k c) xs (R.take k) ∧ Avoid (w.heap.size + 2) (.slice o k c) xs ∧ Blk wr w.heap.size #[.int .i64 n, va] 26 ∧ Blk wr (w.heap.size + 1) #[.int .i64 0, .slice none 0 0] 26 ∧ Below w.heap.size w wr
theorem CpI.next {n : Int} {va : Value} {R : List (List Int)} {w wr : World} {k : Nat} {o : Option Addr} {c : Nat} {xs : List Value} {P : List (List Int)} {C : List Int} (hS : R.take (k + 1) = P ++ [C]) (hP : P.length = k) (h1 : Blk wr (w.heap.size + 2) #[.int .i64 n, .slice o (P.length + 1) c] 26) (h2 : OwnRows wr (w.heap.size + 2) (.slice o (P.length + 1) c) xs (P ++ [C])) (h3 : Avoid (w.heap.size + 2) (.slice o (P.length + 1) c) xs) (h4 : Blk wr w.heap.size #[.int .i64 n, va] 26) (h5 : Blk wr (w.heap.size + 1) #[.int .i64 0, .slice none 0 0] 26) (h6 : Below w.heap.size w wr) : CpI n va R w (k + 1) wr := by
  unfold CpI
  rw [hS]
  rw [hP] at h1 h2 h3
  exact ⟨o, c, xs, h1, h2, h3, h4, h5, h6⟩
set_option maxHeartbeats 3200000 in
theorem c_l3Copy (n : Int) (oa) (ca : Nat) (R : List (List Int)) (w : World) (hR : RowsC w oa R) (hRl : R.length ≤ 1048576) (hRr : ∀ j, j < R.length → (row R j).length ≤ 1048576) :
    Calls Tryz.prog 63 #[.agg #[.int .i64 n, .slice oa R.length ca]] w fun e w' => ∃ o c xs, e = .returned (.agg #[.int .i64 n, .slice o R.length c]) ∧ OwnRows w' w.heap.size (.slice o R.length c) xs R ∧ Below w.heap.size w w' := by
  obtain ⟨i0, hi, hz0, hz1, hz2⟩ := info_parts info_int
  obtain ⟨j0, hj, hy0, hy1, hy2⟩ := info_parts info_ints
  have hb := (bel2 w (.cells #[.int .i64 n, .slice oa R.length ca] 26) (.cells #[.int .i64 0, .slice none 0 0] 26)).alloc (by simp; omega) (.cells #[.int .i64 n, .slice none 0 0] 26)
  have kA := ((Blk.new w #[.int .i64 n, .slice oa R.length ca] 26).alloc (.cells #[.int .i64 0, .slice none 0 0] 26)).alloc (.cells #[.int .i64 n, .slice none 0 0] 26)
  have kZ := (Blk.new (w.alloc (.cells #[.int .i64 n, .slice oa R.length ca] 26)) #[.int .i64 0, .slice none 0 0] 26).alloc (.cells #[.int .i64 n, .slice none 0 0] 26)
  have kT := Blk.new ((w.alloc (.cells #[.int .i64 n, .slice oa R.length ca] 26)).alloc (.cells #[.int .i64 0, .slice none 0 0] 26)) #[.int .i64 n, .slice none 0 0] 26
  simp only [World.size_alloc] at kZ kT
  have HR : Hid (RowsC w oa R) := hR
  have HRr : Hid (∀ j, j < R.length → (row R j).length ≤ 1048576) := hRr
  clear hR hRr
  have a0 := two_a w #[.int .i64 n, .slice oa R.length ca] 26 #[.int .i64 0, .slice none 0 0] 26 0 (.int .i64 n) rfl
  go_enter Tryz.func63, Tryz.ntmps63
  go_wp2_with fail
  go_loopw [4] (fun i wr => ∃ k : Nat, i = .int .i64 k ∧ k ≤ R.length ∧ CpI n (.slice oa R.length ca) R w k wr) (fun i _ => R.length - (intOf i).toNat)
  case atStart => exact ⟨0, rfl, Nat.zero_le _, none, 0, [], kT, OwnRows.none _ _, avoid_none _, kA, kZ, hb⟩
  case round =>
    clear kT kA kZ hb a0
    obtain ⟨k, rfl, hk, o, c, xs, kT, hO, av, kA, kZ, hb⟩ := hrel
    have a1 := kA.cell 1 (.slice oa R.length ca) rfl
    by_cases hlt : k < R.length
    · obtain ⟨b, off, rfl, hbs, hc⟩ := HR.out.1.at_ (by omega)
      obtain ⟨ob, cb, h1, r1⟩ := hc k hlt
      have hnil := HR.out.2 b off rfl k hlt ob _ cb h1
      have HT : Hid (R.take (k + 1) = R.take k ++ [row R k]) := take_row hlt
      have hLl := HRr.out k hlt
      have hc1 := cell_keep h1 hb
      have hrow := r1.keep hb
      have hPl : (R.take k).length = k := by rw [List.length_take]; omega
      have hxl := hO.len
      rw [hPl] at hxl
      have HPl : Hid ((R.take k).length = k) := hPl
      clear hc h1 r1 hPl
      generalize row R k = L at *
      generalize R.take k = P at *
      go_upto_region 5 with fail
      have hkt := kT.lt
      have hbe := (Below.refl wr.heap.size wr).alloc (Nat.le_refl _) (.cells #[] 3)
      have a1d := kA.drew.cell 1 (.slice (some ⟨b, off, none⟩) R.length ca) rfl
      have a1e := (kA.keep hbe).drew.cell 1 (.slice (some ⟨b, off, none⟩) R.length ca) rfl
      have hc1d := cell_keep hc1 (Below.refl _ _).drew
      have hc1e := cell_keep hc1 hbe.drew
      have q1d := kT.drew.cell 1 (.slice o k c) rfl
      have q1e := (kT.keep hbe).drew.cell 1 (.slice o k c) rfl
      have hE := OwnI.empty wr wr.heap.size (Nat.le_refl _)
      rcases ob with _ | ⟨b', off', sp'⟩
      · have hcb : cb = 0 := hnil rfl
        have hL0 : L = [] := by
          rcases Nat.eq_zero_or_pos L.length with h | h
          · exact List.eq_nil_of_length_eq_zero h
          · obtain ⟨_, _, e, _⟩ := hrow.at_ h; cases e
        subst hcb hL0
        have kTe := kT.keep hbe
        have hOe := hO.keep hbe
        have q1f := fun cs T => (kTe.alloc (.cells cs T)).drew.cell 1 (.slice o k c) rfl
        go_region_law (first
          | (refine step_append_none _ (by rfl) _ _ 50 (by rfl) wr.heap.size 3 i0 1 Tryz.underlying50 hi (.slice (some ⟨wr.heap.size, 0, none⟩) 0 0) 0 [] (by rfl) hE (by rfl) ?_)
          | (rw [← HPl.out] at hOe kTe; refine step_append_held _ (by rfl) _ _ 24 (by rfl) (w.heap.size + 2) 50 j0 (.slice none 0 0) 1 24 Tryz.underlying24 hj hy0 hy1 hy2 rfl (by decide) (.slice o P.length c) _ _ (by first | rfl | (rw [HPl.out]; rfl)) (World.ownsRow.alloc hOe.outer _) _ 1 1 [.slice (some ⟨wr.heap.size, 0, none⟩) 0 0] (by rfl) rfl (World.news_of_block (cs := #[.slice (some ⟨wr.heap.size, 0, none⟩) 0 0]) (t := 50) (fr := (0, 0)) (by first | exact heap_two _ _ _ | exact heap_alloc_new _ _)) (by intro u hu; simp at hu; subst hu; rfl) (by unfold maxLen; omega) (by omega) (by have := hbe.size; simp; omega) ?_; intro v7 w7 hown _ hgrow hfr; obtain ⟨⟨o7, c7, rfl⟩, s7, t7, kT7, hO7, av7, hb7, hoth, hblk⟩ := tab_snoc (w := w) (C := []) (nC := 0) rfl hOe (hE.based (show w.heap.size + 2 ≤ _ by omega)) (by have hq := hO; rw [← HPl.out] at hq; exact hq.fresh hE) kTe (by rw [HPl.out]; exact av) (fun e => by have := (World.ownsRow.lt hE _ e).1; omega) (bel_to hb hbe) (show w.heap.size ≤ w.heap.size + 2 by omega) (show w.heap.size ≤ w.heap.size + 2 by omega) hown (drew_grown hgrow) (drew_fresh hfr); rw [HPl.out] at s7; clear hown hgrow hfr)
          | fail)
        all_goals
          have kA7 := hblk _ _ _ (kA.keep hbe) (show w.heap.size ≠ w.heap.size + 2 by omega) (fun e => by have := (World.ownsRow.lt hO.outer _ (by rw [← HPl.out]; exact e)).1; omega)
          have kZ7 := hblk _ _ _ (kZ.keep hbe) (show w.heap.size + 1 ≠ w.heap.size + 2 by omega) (fun e => by have := (World.ownsRow.lt hO.outer _ (by rw [← HPl.out]; exact e)).1; omega)
          have HN := (show Hid _ from CpI.next HT.out HPl.out kT7 hO7 av7 kA7 kZ7 hb7)
          clear kA7 kZ7 kT7 hO7 av7 hoth hblk hb7
          go_wp2
          go_roundw
          case rel => exact ⟨k + 1, by go_num, by omega, HN.out⟩
          case measure => simp [intOf]; omega
      · have HB : Hid (∀ j u, (L.map encI)[j]? = some u → (wr.alloc (.cells #[] 3)).drew.cell? ((⟨b', off', sp'⟩ : Addr).add j) = some u) := fun j u hu => (hrow.keep hbe.drew).cellsAny rfl j u hu
        go_region_law (first
          | (refine step_append_own _ (by rfl) _ _ 50 (by rfl) wr.heap.size 3 i0 (.int .i64 0) 1 8 Tryz.underlying50 hi hz0 hz1 hz2 rfl (by decide) (.slice (some ⟨wr.heap.size, 0, none⟩) 0 0) 0 [] (by rfl) hE ⟨b', off', sp'⟩ L.length _ (L.map encI) (by rfl) (by simp) HB.out (ones L) (by unfold maxLen; simp; omega) (by simp; omega) (by simp) ?_; intro v8 w8 hown hgrow; have hI8 : OwnI w8 wr.heap.size v8 L := (by unfold OwnI; simpa using hown); have hb8 := hbe.drew.grown hgrow (by simp) (fun g hg => (World.ownsRow.lt hE g hg).1); clear hown hgrow; obtain ⟨o8, c8, rfl⟩ := hI8.shape; have kT8 := kT.keep hb8; have hO8 := hO.keep hb8; have q8 := kT8.cell 1 (.slice o k c) rfl; have q8b := fun cs T => (kT8.alloc (.cells cs T)).cell 1 (.slice o k c) rfl)
          | (rw [← HPl.out] at hO8 kT8; refine step_append_held _ (by rfl) _ _ 24 (by rfl) (w.heap.size + 2) 50 j0 (.slice none 0 0) 1 24 Tryz.underlying24 hj hy0 hy1 hy2 rfl (by decide) (.slice o P.length c) _ _ (by first | rfl | (rw [HPl.out]; rfl)) (World.ownsRow.alloc hO8.outer _) _ 1 1 [.slice o8 L.length c8] (by rfl) rfl (World.news_of_block (cs := #[.slice o8 L.length c8]) (t := 50) (fr := (0, 0)) (by first | exact heap_two _ _ _ | exact heap_alloc_new _ _)) (by intro u hu; simp at hu; subst hu; rfl) (by unfold maxLen; omega) (by omega) (by have := hb8.size; simp; omega) ?_; intro v7 w7 hown _ hgrow hfr; obtain ⟨⟨o7, c7, rfl⟩, s7, t7, kT7, hO7, av7, hb7, hoth, hblk⟩ := tab_snoc (w := w) (C := L) (nC := L.length) rfl hO8 (hI8.based (show w.heap.size + 2 ≤ _ by omega)) (by have hq := hO; rw [← HPl.out] at hq; exact hq.fresh hI8) kT8 (by rw [HPl.out]; exact av) (fun e => by have := (World.ownsRow.lt hI8 _ e).1; omega) (bel_to hb hb8) (show w.heap.size ≤ w.heap.size + 2 by omega) (show w.heap.size ≤ w.heap.size + 2 by omega) hown (hgrow) (hfr); rw [HPl.out] at s7; clear hown hgrow hfr)
          | fail)
        all_goals
          have kA7 := hblk _ _ _ (kA.keep hb8) (show w.heap.size ≠ w.heap.size + 2 by omega) (fun e => by have := (World.ownsRow.lt hO.outer _ (by rw [← HPl.out]; exact e)).1; omega)
          have kZ7 := hblk _ _ _ (kZ.keep hb8) (show w.heap.size + 1 ≠ w.heap.size + 2 by omega) (fun e => by have := (World.ownsRow.lt hO.outer _ (by rw [← HPl.out]; exact e)).1; omega)
          have HN := (show Hid _ from CpI.next HT.out HPl.out kT7 hO7 av7 kA7 kZ7 hb7)
          clear kA7 kZ7 kT7 hO7 av7 hoth hblk hb7
          go_wp2
          go_roundw
          case rel => exact ⟨k + 1, by go_num, by omega, HN.out⟩
          case measure => simp [intOf]; omega
    · have hkk : k = R.length := by omega
      have HE : Hid (R.take k = R) := by show R.take k = R; rw [hkk, List.take_length]
      have HK : Hid (k = R.length) := hkk
      have r0 := kT.cell 0 (.int .i64 n) rfl
      have r1 := kT.cell 1 (.slice o k c) rfl
      have z0 := kZ.cell 0 (.int .i64 0) rfl
      have z1 := kZ.cell 1 (.slice none 0 0) rfl
      have f0 := kZ.free 0
      have f1 := kZ.free 1
      have k2 : Blk _ (w.heap.size + 1) #[.int .i64 n, .slice o k c] 26 := (kZ.set 0 (.int .i64 n)).set 1 (.slice o k c)
      have q0 := k2.cell 0 (.int .i64 n) rfl
      have q1 := k2.cell 1 (.slice o k c) rfl
      rw [HE.out] at hO
      clear hkk
      go_wp2
      refine bodyPost_ret (v := .agg #[.int .i64 n, .slice o k c]) (by simp only [results, Tryz.results63]; simp [go_sem, q0, q1]) rfl ?_
      rw [HK.out] at hO ⊢
      exact ⟨o, c, xs, rfl, ((hO.far_set 0 (.int .i64 n) (show w.heap.size + 1 < w.heap.size + 2 by omega)).far_set 1 (.slice o R.length c) (show w.heap.size + 1 < w.heap.size + 2 by omega)).based (by omega), bel_set2 hb (Nat.le_succ _) _ _⟩
end Go.Proofs.YtcenndlbhgfdfaaGreat
namespace Go.Proofs.YtcenndlbhgfdfaaGreat
open Go.RowKit
set_option linter.unusedVariables false
set_option maxRecDepth 100000

theorem OwnRows.farv {w w' : World} {B : Nat} {v u : Value} {xs : List Value} {R : List (List Int)} (h : OwnRows w B v xs R) (hg : w.grownBy w' u.ownBlock) (ha : ApartR v xs u) : OwnRows w' B v xs R := h.far hg ha
end Go.Proofs.YtcenndlbhgfdfaaGreat
namespace Go.Proofs.YtcenndlbhgfdfaaGreat
open Go.RowKit
set_option linter.unusedVariables false
set_option maxRecDepth 100000

theorem owns_manyOld {w w' : World} {B size n S : Nat} {e : TypeId} {v : Value} {xs vs : List Value} (h : w.ownsRow B e size v n xs) (hg : GrownMany w w' vs) (hl : ∀ y ∈ vs, ∀ g, y.ownBlock = some g → S ≤ g) (ho : ∀ g, v.ownBlock = some g → g < S) : w'.ownsRow B e size v n xs :=
  owns_many h hg (fun y hy => by
    cases e : v.ownBlock with
    | none => exact .inl e
    | some g => exact .inr fun e' => by have := ho g e; have := hl y hy g (by rw [← e', e]); omega)
theorem owns_manyNew {w w' : World} {B size n S : Nat} {e : TypeId} {v : Value} {xs vs : List Value} (h : w.ownsRow B e size v n xs) (hg : GrownMany w w' vs) (hl : ∀ y ∈ vs, ∀ g, y.ownBlock = some g → g < S) (hS : S ≤ B) : w'.ownsRow B e size v n xs :=
  owns_many h hg (fun y hy => by
    cases e : v.ownBlock with
    | none => exact .inl e
    | some g => exact .inr fun e' => by have := (World.ownsRow.lt h g e).1; have := hl y hy g (by rw [← e', e]); omega)
theorem OwnD.manyOld {w w' : World} {B S : Nat} {v : Value} {D : List (Int × Int)} {vs : List Value} (h : OwnD w B v D) (hg : GrownMany w w' vs) (hl : ∀ y ∈ vs, ∀ g, y.ownBlock = some g → S ≤ g) (ho : ∀ g, v.ownBlock = some g → g < S) : OwnD w' B v D := owns_manyOld h hg hl ho
theorem OwnD.manyNew {w w' : World} {B S : Nat} {v : Value} {D : List (Int × Int)} {vs : List Value} (h : OwnD w B v D) (hg : GrownMany w w' vs) (hl : ∀ y ∈ vs, ∀ g, y.ownBlock = some g → g < S) (hS : S ≤ B) : OwnD w' B v D := owns_manyNew h hg hl hS
theorem ownRows_manyNew {w w' : World} {B S : Nat} {v : Value} {xs vs : List Value} {R : List (List Int)} (h : OwnRows w B v xs R) (hg : GrownMany w w' vs) (hl : ∀ y ∈ vs, ∀ g, y.ownBlock = some g → g < S) (hS : S ≤ B) : OwnRows w' B v xs R := by
  refine ⟨h.len, owns_manyNew h.outer hg hl hS, fun j hj => ?_, h.pair⟩
  obtain ⟨o, c, h1, h2, h3⟩ := h.rows j hj
  exact ⟨o, c, h1, owns_manyNew h2 hg hl hS, h3⟩
theorem low_cons {v : Value} {vs : List Value} {S : Nat} (h : ∀ g, v.ownBlock = some g → S ≤ g) (h' : ∀ y ∈ vs, ∀ g, y.ownBlock = some g → S ≤ g) : ∀ y ∈ v :: vs, ∀ g, y.ownBlock = some g → S ≤ g := fun y hy g e => by
  rcases List.mem_cons.1 hy with rfl | hy
  · exact h g e
  · exact h' y hy g e
theorem hi_cons {v : Value} {vs : List Value} {S : Nat} (h : ∀ g, v.ownBlock = some g → g < S) (h' : ∀ y ∈ vs, ∀ g, y.ownBlock = some g → g < S) : ∀ y ∈ v :: vs, ∀ g, y.ownBlock = some g → g < S := fun y hy g e => by
  rcases List.mem_cons.1 hy with rfl | hy
  · exact h g e
  · exact h' y hy g e
def srA (A : Sr) (o : Option Addr) (c : Nat) (fo : Option Addr) (fc : Nat) : Array Value := #[.int .i64 A.n, .slice o A.R.length c, .int .i64 A.m, .int .i64 A.a, .slice fo A.F.length fc, .int .i64 A.t]
/-- A call that answers a search (and, where it says so, a bool beside it). -/
def SrRes (f : FuncId) (args : Array Value) (w : World) (A : Sr) (q : Value → Value) : Prop :=
  Calls Tryz.prog f args w fun e w' => ∃ o c fo fc xs, e = .returned (q (.agg #[.int .i64 A.n, .slice o A.R.length c, .int .i64 A.m, .int .i64 A.a, .slice fo A.F.length fc, .int .i64 A.t])) ∧ OwnRows w' w.heap.size (.slice o A.R.length c) xs A.R ∧ OwnD w' w.heap.size (.slice fo A.F.length fc) A.F ∧ ApartR (.slice o A.R.length c) xs (.slice fo A.F.length fc) ∧ Below w.heap.size w w'
end Go.Proofs.YtcenndlbhgfdfaaGreat
namespace Go.Proofs.YtcenndlbhgfdfaaGreat
open Go.RowKit
set_option linter.unusedVariables false
set_option maxRecDepth 100000

set_option maxHeartbeats 1600000 in
theorem c_copySearch (A : Sr) (oa fa) (ca fca : Nat) (w : World) (hR : RowsC w oa A.R) (hD : DepsAt w fa A.F) (hnil : fa = none → fca = 0) :
    SrRes 43 #[.agg #[.int .i64 A.n, .slice oa A.R.length ca, .int .i64 A.m, .int .i64 A.a, .slice fa A.F.length fca, .int .i64 A.t]] w A (fun v => v) := by
  unfold SrRes
  obtain ⟨n, R, m, a, F, t⟩ := A
  dsimp only at *
  have hb := bel2 w (.cells #[.int .i64 n, .slice oa R.length ca, .int .i64 m, .int .i64 a, .slice fa F.length fca, .int .i64 t] 29) (.cells srZ 29)
  have kA := (Blk.new w #[.int .i64 n, .slice oa R.length ca, .int .i64 m, .int .i64 a, .slice fa F.length fca, .int .i64 t] 29).alloc (.cells srZ 29)
  have kZ := Blk.new (w.alloc (.cells #[.int .i64 n, .slice oa R.length ca, .int .i64 m, .int .i64 a, .slice fa F.length fca, .int .i64 t] 29)) srZ 29
  simp only [World.size_alloc] at kZ
  unfold srZ at hb kA kZ
  have s0 := kA.cell 0 (.int .i64 n) rfl
  have s1 := kA.cell 1 (.slice oa R.length ca) rfl
  go_enter Tryz.func43, Tryz.ntmps43
  go_wp2_with fail
  refine (c_copyTable n oa ca R _ (hR.keep hb)).mono ?_
  rintro e w1 ⟨o, c, xs, rfl, hO, hbn⟩
  replace kA := kA.keep hbn
  replace kZ := kZ.keep hbn
  replace hb := bel_to hb hbn
  have hs1 : w.heap.size + 1 < w1.heap.size := kZ.lt
  clear hbn s0 s1
  simp only [World.size_alloc] at hO
  have s0 := kA.cell 0 (.int .i64 n) rfl
  have s1 := kA.cell 1 (.slice oa R.length ca) rfl
  have f0 := kA.free 0
  have f1 := kA.free 1
  have kA2 : Blk _ w.heap.size #[.int .i64 n, .slice o R.length c, .int .i64 m, .int .i64 a, .slice fa F.length fca, .int .i64 t] 29 := (kA.set 0 (.int .i64 n)).set 1 (.slice o R.length c)
  have kZ2 := (kZ.far ⟨w.heap.size, 0, none⟩ (.int .i64 n) (by simp)).far ⟨w.heap.size, 1, none⟩ (.slice o R.length c) (by simp)
  have hb2 := bel_set2 hb (Nat.le_refl _) (.int .i64 n) (.slice o R.length c)
  have hO2 := (hO.far_set 0 (.int .i64 n) (show w.heap.size < w.heap.size + 1 + 1 by omega)).far_set 1 (.slice o R.length c) (show w.heap.size < w.heap.size + 1 + 1 by omega)
  have s4 := kA2.cell 4 (.slice fa F.length fca) rfl
  have hsz : w.heap.size + 1 < ((w1.setCell ⟨w.heap.size, 0, none⟩ (.int .i64 n)).setCell ⟨w.heap.size, 1, none⟩ (.slice o R.length c)).heap.size := by simpa using hs1
  clear kA kZ hb hO
  go_wp2_with fail
  refine (c_copyDeps fa fca F _ (hD.keep hb2) hnil).mono ?_
  rintro e w3 ⟨v3, rfl, hF, hbn⟩
  have ap := hO2.fresh hF
  obtain ⟨o3, c3, rfl⟩ := hF.shape
  replace hF := hF.based (show w.heap.size + 2 ≤ _ by omega)
  replace kA := kA2.keep hbn
  replace kZ := kZ2.keep hbn
  replace hO := hO2.keep hbn
  replace hb := bel_to hb2 hbn
  clear hbn s0 s1 f0 f1 s4 kA2 kZ2 hO2 hb2 hsz
  have s4 := kA.cell 4 (.slice fa F.length fca) rfl
  have f4 := kA.free 4
  have kA2 : Blk _ w.heap.size #[.int .i64 n, .slice o R.length c, .int .i64 m, .int .i64 a, .slice o3 F.length c3, .int .i64 t] 29 := kA.set 4 (.slice o3 F.length c3)
  have kZ2 := kZ.far ⟨w.heap.size, 4, none⟩ (.slice o3 F.length c3) (by simp)
  have hb2 := Below.setCell (p := (⟨w.heap.size, 4, none⟩ : Addr)) hb (Nat.le_refl _) (.slice o3 F.length c3)
  have hO2 := hO.far_set 4 (.slice o3 F.length c3) (show w.heap.size < w.heap.size + 1 + 1 by omega)
  have hF2 := OwnD.far_set hF 4 (.slice o3 F.length c3) (show w.heap.size < w.heap.size + 2 by omega)
  have s0 := kA2.cell 0 (.int .i64 n) rfl
  have s1 := kA2.cell 1 (.slice o R.length c) rfl
  have s2 := kA2.cell 2 (.int .i64 m) rfl
  have s3 := kA2.cell 3 (.int .i64 a) rfl
  have s4' := kA2.cell 4 (.slice o3 F.length c3) rfl
  have s5 := kA2.cell 5 (.int .i64 t) rfl
  have z0 := kZ2.cell 0 (.int .i64 0) rfl
  have z1 := kZ2.cell 1 (.slice none 0 0) rfl
  have z2 := kZ2.cell 2 (.int .i64 0) rfl
  have z3 := kZ2.cell 3 (.int .i64 0) rfl
  have z4 := kZ2.cell 4 (.slice none 0 0) rfl
  have z5 := kZ2.cell 5 (.int .i64 0) rfl
  have g0 := kZ2.free 0
  have g1 := kZ2.free 1
  have g2 := kZ2.free 2
  have g3 := kZ2.free 3
  have g4 := kZ2.free 4
  have g5 := kZ2.free 5
  have k6 := kZ2.set6 (.int .i64 n) (.slice o R.length c) (.int .i64 m) (.int .i64 a) (.slice o3 F.length c3) (.int .i64 t)
  unfold set6 at k6
  have q0 := k6.cell 0 _ rfl
  have q1 := k6.cell 1 _ rfl
  have q2 := k6.cell 2 _ rfl
  have q3 := k6.cell 3 _ rfl
  have q4 := k6.cell 4 _ rfl
  have q5 := k6.cell 5 _ rfl
  go_wp2
  exact bodyPost_ret (v := .agg #[.int .i64 n, .slice o R.length c, .int .i64 m, .int .i64 a, .slice o3 F.length c3, .int .i64 t]) (by simp only [results, Tryz.results43]; simp [go_sem, q0, q1, q2, q3, q4, q5]) rfl
    ⟨o, c, o3, c3, xs, rfl, (hO2.far6 (show w.heap.size + 1 < w.heap.size + 1 + 1 by omega) _ _ _ _ _ _).based (by omega), (OwnD.set6 hF2 (fun e => by have := (World.ownsRow.lt hF2 _ e).1; omega) _ _ _ _ _ _).based (by omega), ap, bel_set6 hb2 (Nat.le_succ _) _ _ _ _ _ _⟩
/-- Where a search stands that stops at the last candidate or when its tests are used up. -/
def stopAt (R : List (List Int)) (m : Int) (N M : Nat) (b t0 : Int) : Nat → Nat → Nat
  | 0, k => k
  | f + 1, k => if decide (k < M) && decide ((repF R m N k).2 - t0 < b) then stopAt R m N M b t0 f (k + 1) else k
theorem stopAt_le {R : List (List Int)} {m : Int} {N M : Nat} {b t0 : Int} : ∀ f k, k ≤ M → stopAt R m N M b t0 f k ≤ M ∧ k ≤ stopAt R m N M b t0 f k
  | 0, k, h => ⟨h, Nat.le_refl _⟩
  | f + 1, k, h => by
    unfold stopAt
    split
    · next hh =>
      simp only [Bool.and_eq_true, decide_eq_true_eq] at hh
      have := stopAt_le (R := R) (m := m) (N := N) (M := M) (b := b) (t0 := t0) f (k + 1) (by omega)
      exact ⟨this.1, by omega⟩
    · exact ⟨h, Nat.le_refl _⟩
def stopF (A : Sr) (b : Int) : Nat := stopAt A.R A.m A.n.toNat (A.n.toNat * 2 ^ A.n.toNat) b A.t (A.n.toNat * 2 ^ A.n.toNat - A.a.toNat) A.a.toNat
def runSr (A : Sr) (b : Int) : Sr := if isSrF A then ⟨A.n, A.R, A.m, (stopF A b : Nat), (repF A.R A.m A.n.toNat (stopF A b)).1, (repF A.R A.m A.n.toNat (stopF A b)).2⟩ else A
theorem apartR_next {w : World} {B : Nat} {v u u' : Value} {xs : List Value} {R : List (List Int)} (h : OwnRows w B v xs R) (ha : ApartR v xs u) (hf : Fresh w u u') : ApartR v xs u' :=
  ⟨Apart.next h.outer ha.1 hf, fun y hy => by obtain ⟨j, _, o, c, e, h2, _⟩ := h.one hy; exact Apart.next h2 (ha.2 y hy) hf⟩
theorem isSr_of {A : Sr} (h : isSrF A = true) : ∃ N K : Nat, A.n = N ∧ A.a = K ∧ 1 ≤ N ∧ N ≤ 5 ∧ K ≤ N * 2 ^ N ∧ isTabF N A.R = true ∧ modeF A.m = true ∧ repF A.R A.m N K = (A.F, A.t) := by
  have h0 := h
  unfold isSrF at h
  simp only [Bool.and_eq_true, decide_eq_true_eq] at h
  obtain ⟨⟨⟨ht, hm⟩, h1, h2⟩, h3, h4⟩ := h
  obtain ⟨hn1, hn5⟩ := isSr_tab h0
  refine ⟨A.n.toNat, A.a.toNat, by omega, by omega, by omega, by omega, ?_, by rwa [show ((A.n.toNat : Nat) : Int) = A.n by omega], hm, Prod.ext h4 h3⟩
  unfold cntF at h2
  omega
theorem ownRows_set6 {w : World} {B k : Nat} {v : Value} {xs : List Value} {R : List (List Int)} (h : OwnRows w B v xs R) (ha : Avoid k v xs) (b0 b1 b2 b3 b4 b5 : Value) : OwnRows (set6 w k b0 b1 b2 b3 b4 b5) B v xs R :=
  ownRows_setAvoid (ownRows_setAvoid (ownRows_setAvoid (ownRows_setAvoid (ownRows_setAvoid (ownRows_setAvoid h ha 0 b0) ha 1 b1) ha 2 b2) ha 3 b3) ha 4 b4) ha 5 b5
theorem stopAt_step {R : List (List Int)} {m : Int} {N M k : Nat} {b t0 : Int} (h : k < M) : stopAt R m N M b t0 (M - k) k = if decide (k < M) && decide ((repF R m N k).2 - t0 < b) then stopAt R m N M b t0 (M - (k + 1)) (k + 1) else k := by
  have e : M - k = (M - (k + 1)) + 1 := by omega
  rw [e]; rfl
theorem stopAt_end {R : List (List Int)} {m : Int} {N M : Nat} {b t0 : Int} : stopAt R m N M b t0 (M - M) M = M := by rw [Nat.sub_self]; rfl
end Go.Proofs.YtcenndlbhgfdfaaGreat
namespace Go.Proofs.YtcenndlbhgfdfaaGreat
open Go.RowKit
set_option linter.unusedVariables false
set_option maxRecDepth 100000

set_option maxHeartbeats 12800000 in
theorem c_l8Copy (A : Sr) (oa fa) (ca fca : Nat) (w : World) (hR : RowsC w oa A.R) (hRs : A.R.length ≤ 1048576 ∧ ∀ j, j < A.R.length → (row A.R j).length ≤ 1048576) (hD : DepsAt w fa A.F) (hDs : A.F.length ≤ 1048576) (hnil : fa = none → fca = 0) :
    SrRes 47 #[.agg #[.int .i64 A.n, .slice oa A.R.length ca, .int .i64 A.m, .int .i64 A.a, .slice fa A.F.length fca, .int .i64 A.t]] w A (fun v => v) := by
  unfold SrRes
  obtain ⟨n, R, m, a, F, t⟩ := A
  dsimp only at *
  obtain ⟨i0, hi, hz0, hz1, hz2⟩ := info_parts info_dep
  have hb := bel2 w (.cells #[.int .i64 n, .slice oa R.length ca, .int .i64 m, .int .i64 a, .slice fa F.length fca, .int .i64 t] 29) (.cells srZ 29)
  have kA := (Blk.new w #[.int .i64 n, .slice oa R.length ca, .int .i64 m, .int .i64 a, .slice fa F.length fca, .int .i64 t] 29).alloc (.cells srZ 29)
  have kZ := Blk.new (w.alloc (.cells #[.int .i64 n, .slice oa R.length ca, .int .i64 m, .int .i64 a, .slice fa F.length fca, .int .i64 t] 29)) srZ 29
  simp only [World.size_alloc] at kZ
  unfold srZ at hb kA kZ
  go_enter Tryz.func47, Tryz.ntmps47
  go_upto_region 1 with fail
  generalize hw2 : (w.alloc (.cells #[.int .i64 n, .slice oa R.length ca, .int .i64 m, .int .i64 a, .slice fa F.length fca, .int .i64 t] 29)).alloc (.cells #[.int .i64 0, .slice none 0 0, .int .i64 0, .int .i64 0, .slice none 0 0, .int .i64 0] 29) = w2 at *
  have HSW : Hid (w2.heap.size = w.heap.size + 2) := by show _ = _; rw [← hw2]; simp
  clear hw2
  refine wp_region_held_drew (S := fun w' => w'.cell? ⟨w.heap.size, 0, none⟩ = some (.int .i64 n) ∧ w'.cell? ⟨w.heap.size, 1, none⟩ = some (.slice oa R.length ca) ∧ w'.cell? ⟨w.heap.size, 2, none⟩ = some (.int .i64 m) ∧ w'.cell? ⟨w.heap.size, 3, none⟩ = some (.int .i64 a) ∧ w'.cell? ⟨w.heap.size, 4, none⟩ = some (.slice fa F.length fca) ∧ w'.cell? ⟨w.heap.size, 5, none⟩ = some (.int .i64 t)) (by kernel_rfl) ⟨kA.drew.cell 0 _ rfl, kA.drew.cell 1 _ rfl, kA.drew.cell 2 _ rfl, kA.drew.cell 3 _ rfl, kA.drew.cell 4 _ rfl, kA.drew.cell 5 _ rfl⟩ (fun hS => ?_)
  (refine wpAnyH_val (i := 0) (some 3) ?_ rfl rfl (by kernel_rfl) (by kernel_rfl) (by kernel_rfl) (fun _ _ _ h => h) (by rfl) (by assumption) ?_ ?_; rotate_left; (intro w hSw; go_simp; (try with_reducible rfl)); (try simp only [Act.put, List.setIfInBounds_toArray, List.set_cons_zero, List.set_cons_succ])); (refine wpAnyH_val (i := 1) (some 4) ?_ rfl rfl (by kernel_rfl) (by kernel_rfl) (by kernel_rfl) (fun _ _ _ h => h) (by rfl) (by assumption) ?_ ?_; rotate_left; (intro w hSw; go_simp; (try with_reducible rfl)); (try simp only [Act.put, List.setIfInBounds_toArray, List.set_cons_zero, List.set_cons_succ])); (refine wpAnyH_val (i := 3) (some 6) ?_ rfl rfl (by kernel_rfl) (by kernel_rfl) (by kernel_rfl) (fun _ _ _ h => h) (by rfl) (by assumption) ?_ ?_; rotate_left; (intro w hSw; go_simp; (try with_reducible rfl)); (try simp only [Act.put, List.setIfInBounds_toArray, List.set_cons_zero, List.set_cons_succ])); (refine wpAnyH_val (i := 4) (some 7) ?_ rfl rfl (by kernel_rfl) (by kernel_rfl) (by kernel_rfl) (fun _ _ _ h => h) (by rfl) (by assumption) ?_ ?_; rotate_left; (intro w hSw; go_simp; (try with_reducible rfl)); (try simp only [Act.put, List.setIfInBounds_toArray, List.set_cons_zero, List.set_cons_succ])); (refine wpAnyH_val (i := 5) (some 8) ?_ rfl rfl (by kernel_rfl) (by kernel_rfl) (by kernel_rfl) (fun _ _ _ h => h) (by rfl) (by assumption) ?_ ?_; rotate_left; (intro w hSw; go_simp; (try with_reducible rfl)); (try simp only [Act.put, List.setIfInBounds_toArray, List.set_cons_zero, List.set_cons_succ])); (refine wpAnyH_val (i := 6) (some 9) ?_ rfl rfl (by kernel_rfl) (by kernel_rfl) (by kernel_rfl) (fun _ _ _ h => h) (by rfl) (by assumption) ?_ ?_; rotate_left; (intro w hSw; go_simp; (try with_reducible rfl)); (try simp only [Act.put, List.setIfInBounds_toArray, List.set_cons_zero, List.set_cons_succ])); (refine wpAnyH_val (i := 8) (some 11) ?_ rfl rfl (by kernel_rfl) (by kernel_rfl) (by kernel_rfl) (fun _ _ _ h => h) (by rfl) (by assumption) ?_ ?_; rotate_left; (intro w hSw; go_simp; (try with_reducible rfl)); (try simp only [Act.put, List.setIfInBounds_toArray, List.set_cons_zero, List.set_cons_succ])); (refine wpAnyH_val (i := 9) (some 12) ?_ rfl rfl (by kernel_rfl) (by kernel_rfl) (by kernel_rfl) (fun _ _ _ h => h) (by rfl) (by assumption) ?_ ?_; rotate_left; (intro w hSw; go_simp; (try with_reducible rfl)); (try simp only [Act.put, List.setIfInBounds_toArray, List.set_cons_zero, List.set_cons_succ])); (refine wpAnyH_val (i := 11) (some 14) ?_ rfl rfl (by kernel_rfl) (by kernel_rfl) (by kernel_rfl) (fun _ _ _ h => h) (by rfl) (by assumption) ?_ ?_; rotate_left; (intro w hSw; go_simp; (try with_reducible rfl)); (try simp only [Act.put, List.setIfInBounds_toArray, List.set_cons_zero, List.set_cons_succ])); (refine wpAnyH_val (i := 12) (some 15) ?_ rfl rfl (by kernel_rfl) (by kernel_rfl) (by kernel_rfl) (fun _ _ _ h => h) (by rfl) (by assumption) ?_ ?_; rotate_left; (intro w hSw; go_simp; (try with_reducible rfl)); (try simp only [Act.put, List.setIfInBounds_toArray, List.set_cons_zero, List.set_cons_succ]))
  refine wpAnyH_ready (rs := [2, 7]) (by kernel_rfl) (by simp) ?_
  refine AllReadyH.cons rfl (fun K hK => ?_) (AllReadyH.cons rfl (fun K hK => ?_) AllReadyH.nil)
  -- the two orders
  · go_simp
    refine (c_l3Copy n oa ca R _ (hR.keep hb.drew) hRs.1 hRs.2).mono ?_
    rintro e w3 ⟨o, c, xs, rfl, hO, hbn⟩
    have kA3 := kA.drew.keep hbn
    have kZ3 := kZ.drew.keep hbn
    have hb3 := bel_to hb.drew hbn
    have hs3 : w.heap.size + 2 ≤ w3.heap.size := by have := hbn.size; have := HSW.out; simp at *; omega
    replace hO := hO.based (show w.heap.size + 2 ≤ _ by have := HSW.out; simp; omega)
    refine hK.out _ _ ⟨kA3.cell 0 _ rfl, kA3.cell 1 _ rfl, kA3.cell 2 _ rfl, kA3.cell 3 _ rfl, kA3.cell 4 _ rfl, kA3.cell 5 _ rfl⟩ (fun hS2 => ?_)
    clear hK hS hS2 hbn
    (try simp only [Act.put, List.setIfInBounds_toArray, List.set_cons_zero, List.set_cons_succ])
    refine wpAnyH_ready (rs := [7]) (by kernel_rfl) (by simp) ?_; refine AllReadyH.cons rfl (fun K hK => ?_) AllReadyH.nil
    go_simp
    have hba := (Below.refl w3.heap.size w3).alloc (Nat.le_refl _) (.cells #[] 38)
    have hE4 := OwnD.empty w3 (w.heap.size + 2) hs3
    have apE := hO.fresh (OwnD.empty w3 w3.heap.size (Nat.le_refl _))
    have kA4 := kA3.keep hba
    have kZ4 := kZ3.keep hba
    have hO4 := hO.keep hba
    have hb4 := bel_to hb3 hba
    have hsz4 := hs3
    refine hK.out _ _ ⟨kA4.cell 0 _ rfl, kA4.cell 1 _ rfl, kA4.cell 2 _ rfl, kA4.cell 3 _ rfl, kA4.cell 4 _ rfl, kA4.cell 5 _ rfl⟩ (fun hS2 => ?_)
    clear hK hS2 hba kA3 kZ3 hO hb3
    (try simp only [Act.put, List.setIfInBounds_toArray, List.set_cons_zero, List.set_cons_succ])
    rcases fa with _ | ⟨b', off', sp'⟩
    · have hcf : fca = 0 := hnil rfl
      have hF0 : F = [] := by
        rcases Nat.eq_zero_or_pos F.length with h | h
        · exact List.eq_nil_of_length_eq_zero h
        · obtain ⟨_, _, e, _⟩ := hD.at_ h; cases e
      subst hcf hF0
      refine wpAnyH_ready (rs := [10]) (by kernel_rfl) (by simp) ?_; refine AllReadyH.cons rfl (fun K hK => ?_) AllReadyH.nil
      refine step_append_none _ (by rfl) _ _ 27 (by rfl) (w.heap.size + 2) 38 i0 2 Tryz.underlying27 hi (.slice (some ⟨w3.heap.size, 0, none⟩) 0 0) 0 [] (by rfl) hE4 (by rfl) ?_
      refine hK.out _ _ ⟨kA4.cell 0 _ rfl, kA4.cell 1 _ rfl, kA4.cell 2 _ rfl, kA4.cell 3 _ rfl, kA4.cell 4 _ rfl, kA4.cell 5 _ rfl⟩ (fun hS3 => ?_)
      clear hK
      (try simp only [Act.put, List.setIfInBounds_toArray, List.set_cons_zero, List.set_cons_succ])
      have kA5 := kA4
      have kZ5 := kZ4
      have hO5 := hO4
      have hb5 := hb4
      have hF5 := hE4
      have ap := apE
      clear kA4 kZ4 hO4 hb4 hE4
      (refine wpAnyH_val (i := 13) (some 16) ?_ rfl rfl (by kernel_rfl) (by kernel_rfl) (by kernel_rfl) (fun _ _ _ h => h) (by rfl) (by assumption) ?_ ?_; rotate_left; (intro w hSw; go_simp; (try with_reducible rfl)); (try simp only [Act.put, List.setIfInBounds_toArray, List.set_cons_zero, List.set_cons_succ]))
      have z0 := kZ5.cell 0 (.int .i64 0) rfl
      have z1 := kZ5.cell 1 (.slice none 0 0) rfl
      have z2 := kZ5.cell 2 (.int .i64 0) rfl
      have z3 := kZ5.cell 3 (.int .i64 0) rfl
      have z4 := kZ5.cell 4 (.slice none 0 0) rfl
      have z5 := kZ5.cell 5 (.int .i64 0) rfl
      have g0 := kZ5.free 0
      have g1 := kZ5.free 1
      have g2 := kZ5.free 2
      have g3 := kZ5.free 3
      have g4 := kZ5.free 4
      have g5 := kZ5.free 5
      refine wpAnyH_ready (rs := [14]) (by kernel_rfl) (by simp) ?_; refine AllReadyH.cons rfl (fun K hK => ?_) AllReadyH.nil
      go_simp
      have kA6 := kA5.far6 (k := w.heap.size + 1) (by omega) (.int .i64 n) (.slice o R.length c) (.int .i64 m) (.int .i64 a) (.slice (some ⟨w3.heap.size, 0, none⟩) 0 0) (.int .i64 t)
      have k6 := kZ5.set6 (.int .i64 n) (.slice o R.length c) (.int .i64 m) (.int .i64 a) (.slice (some ⟨w3.heap.size, 0, none⟩) 0 0) (.int .i64 t)
      have hO6 := hO5.far6 (show w.heap.size + 1 < w.heap.size + 2 by omega) (.int .i64 n) (.slice o R.length c) (.int .i64 m) (.int .i64 a) (.slice (some ⟨w3.heap.size, 0, none⟩) 0 0) (.int .i64 t)
      have hF6 := OwnD.set6 hF5 (fun e => by have := (World.ownsRow.lt hF5 _ e).1; omega : (Value.slice (some ⟨w3.heap.size, 0, none⟩) 0 0).ownBlock ≠ some (w.heap.size + 1)) (.int .i64 n) (.slice o R.length c) (.int .i64 m) (.int .i64 a) (.slice (some ⟨w3.heap.size, 0, none⟩) 0 0) (.int .i64 t)
      have hb6 := bel_set6 hb5 (show w.heap.size ≤ w.heap.size + 1 by omega) (.int .i64 n) (.slice o R.length c) (.int .i64 m) (.int .i64 a) (.slice (some ⟨w3.heap.size, 0, none⟩) 0 0) (.int .i64 t)
      unfold set6 at kA6 k6 hO6 hF6 hb6
      refine hK.out _ _ ⟨kA6.cell 0 _ rfl, kA6.cell 1 _ rfl, kA6.cell 2 _ rfl, kA6.cell 3 _ rfl, kA6.cell 4 _ rfl, kA6.cell 5 _ rfl⟩ (fun hS4 => ?_)
      (try simp only [Act.put, List.setIfInBounds_toArray, List.set_cons_zero, List.set_cons_succ])
      refine wpAnyH_done (by kernel_rfl) ?_ _
      try dsimp only [NoPanic, Exit.then]
      have q0 := k6.cell 0 _ rfl
      have q1 := k6.cell 1 _ rfl
      have q2 := k6.cell 2 _ rfl
      have q3 := k6.cell 3 _ rfl
      have q4 := k6.cell 4 _ rfl
      have q5 := k6.cell 5 _ rfl
      clear hK hS3 hS4 z0 z1 z2 z3 z4 z5 g0 g1 g2 g3 g4 g5
      go_wp2
      exact bodyPost_ret (v := .agg #[.int .i64 n, .slice o R.length c, .int .i64 m, .int .i64 a, .slice (some ⟨w3.heap.size, 0, none⟩) 0 0, .int .i64 t]) (by simp only [results, Tryz.results47]; simp [go_sem, q0, q1, q2, q3, q4, q5]) rfl ⟨o, c, some ⟨w3.heap.size, 0, none⟩, 0, rfl, xs, hO6.based (by omega), hF6.based (by omega), ap, hb6⟩
    · have HB : ∀ j u, (dcells F)[j]? = some u → World.cell? _ ((⟨b', off', sp'⟩ : Addr).add j) = some u := fun j u hu => (hD.keep hb4).cellsAny j u hu
      refine wpAnyH_ready (rs := [10]) (by kernel_rfl) (by simp) ?_; refine AllReadyH.cons rfl (fun K hK => ?_) AllReadyH.nil
      refine step_append_held _ (by rfl) _ _ 27 (by rfl) (w.heap.size + 2) 38 i0 (.agg #[.int .i64 0, .int .i64 0]) 2 16 Tryz.underlying27 hi hz0 hz1 hz2 rfl (by decide) (.slice (some ⟨w3.heap.size, 0, none⟩) 0 0) 0 [] (by rfl) hE4 ⟨b', off', sp'⟩ F.length _ (dcells F) (by rfl) (dcells_length F) HB (dcells_one F) (by unfold maxLen; simp; omega) (by simp; omega) (by have := hb4.size; simp at hsz4 ⊢; omega) ?_
      intro v9 w9 hown _ hgrow hfr
      have hF5' := OwnD.joined (A := []) (B := F) (by have e : dcells ([] : List (Int × Int)) = [] := rfl; simpa [e] using hown)
      have hF5 : OwnD w9 (w.heap.size + 2) v9 F := hF5'
      clear hF5'
      obtain ⟨o9, c9, rfl⟩ := hF5.shape
      have hlo : ∀ g, (Value.slice (some ⟨w3.heap.size, 0, none⟩) 0 0).ownBlock = some g → w.heap.size + 2 ≤ g := fun g e => (World.ownsRow.lt hE4 g e).1
      have kA5 := kA4.grown hgrow (fun e => by have := hlo _ e.symm; omega)
      have kZ5 := kZ4.grown hgrow (fun e => by have := hlo _ e.symm; omega)
      have hO5 := hO4.far hgrow apE
      have ap := apartR_next hO4 apE hfr
      have hb5 := hb4.grown hgrow hb4.size (fun g e => by have := hlo g e; omega)
      refine hK.out _ _ ⟨kA5.cell 0 _ rfl, kA5.cell 1 _ rfl, kA5.cell 2 _ rfl, kA5.cell 3 _ rfl, kA5.cell 4 _ rfl, kA5.cell 5 _ rfl⟩ (fun hS3 => ?_)
      clear hK hown hgrow hfr kA4 kZ4 hO4 hb4 hE4 apE
      (try simp only [Act.put, List.setIfInBounds_toArray, List.set_cons_zero, List.set_cons_succ])
      (refine wpAnyH_val (i := 13) (some 16) ?_ rfl rfl (by kernel_rfl) (by kernel_rfl) (by kernel_rfl) (fun _ _ _ h => h) (by rfl) (by assumption) ?_ ?_; rotate_left; (intro w hSw; go_simp; (try with_reducible rfl)); (try simp only [Act.put, List.setIfInBounds_toArray, List.set_cons_zero, List.set_cons_succ]))
      have z0 := kZ5.cell 0 (.int .i64 0) rfl
      have z1 := kZ5.cell 1 (.slice none 0 0) rfl
      have z2 := kZ5.cell 2 (.int .i64 0) rfl
      have z3 := kZ5.cell 3 (.int .i64 0) rfl
      have z4 := kZ5.cell 4 (.slice none 0 0) rfl
      have z5 := kZ5.cell 5 (.int .i64 0) rfl
      have g0 := kZ5.free 0
      have g1 := kZ5.free 1
      have g2 := kZ5.free 2
      have g3 := kZ5.free 3
      have g4 := kZ5.free 4
      have g5 := kZ5.free 5
      refine wpAnyH_ready (rs := [14]) (by kernel_rfl) (by simp) ?_; refine AllReadyH.cons rfl (fun K hK => ?_) AllReadyH.nil
      go_simp
      have kA6 := kA5.far6 (k := w.heap.size + 1) (by omega) (.int .i64 n) (.slice o R.length c) (.int .i64 m) (.int .i64 a) (.slice o9 F.length c9) (.int .i64 t)
      have k6 := kZ5.set6 (.int .i64 n) (.slice o R.length c) (.int .i64 m) (.int .i64 a) (.slice o9 F.length c9) (.int .i64 t)
      have hO6 := hO5.far6 (show w.heap.size + 1 < w.heap.size + 2 by omega) (.int .i64 n) (.slice o R.length c) (.int .i64 m) (.int .i64 a) (.slice o9 F.length c9) (.int .i64 t)
      have hF6 := OwnD.set6 hF5 (fun e => by have := (World.ownsRow.lt hF5 _ e).1; omega : (Value.slice o9 F.length c9).ownBlock ≠ some (w.heap.size + 1)) (.int .i64 n) (.slice o R.length c) (.int .i64 m) (.int .i64 a) (.slice o9 F.length c9) (.int .i64 t)
      have hb6 := bel_set6 hb5 (show w.heap.size ≤ w.heap.size + 1 by omega) (.int .i64 n) (.slice o R.length c) (.int .i64 m) (.int .i64 a) (.slice o9 F.length c9) (.int .i64 t)
      unfold set6 at kA6 k6 hO6 hF6 hb6
      refine hK.out _ _ ⟨kA6.cell 0 _ rfl, kA6.cell 1 _ rfl, kA6.cell 2 _ rfl, kA6.cell 3 _ rfl, kA6.cell 4 _ rfl, kA6.cell 5 _ rfl⟩ (fun hS4 => ?_)
      (try simp only [Act.put, List.setIfInBounds_toArray, List.set_cons_zero, List.set_cons_succ])
      refine wpAnyH_done (by kernel_rfl) ?_ _
      try dsimp only [NoPanic, Exit.then]
      have q0 := k6.cell 0 _ rfl
      have q1 := k6.cell 1 _ rfl
      have q2 := k6.cell 2 _ rfl
      have q3 := k6.cell 3 _ rfl
      have q4 := k6.cell 4 _ rfl
      have q5 := k6.cell 5 _ rfl
      clear hK hS3 hS4 z0 z1 z2 z3 z4 z5 g0 g1 g2 g3 g4 g5
      go_wp2
      exact bodyPost_ret (v := .agg #[.int .i64 n, .slice o R.length c, .int .i64 m, .int .i64 a, .slice o9 F.length c9, .int .i64 t]) (by simp only [results, Tryz.results47]; simp [go_sem, q0, q1, q2, q3, q4, q5]) rfl ⟨o, c, o9, c9, xs, rfl, hO6.based (by omega), hF6.based (by omega), ap, hb6⟩
  · go_simp
    have hba := ((Below.refl w2.heap.size w2).drew).alloc (Nat.le_refl _) (.cells #[] 38)
    have hE := OwnD.empty w2.drew (w.heap.size + 2) (by have := HSW.out; simp; omega)
    have hE' := OwnD.empty w2.drew w2.heap.size (Nat.le_refl _)
    have kA3 := kA.keep hba
    have kZ3 := kZ.keep hba
    have hb3 := bel_to hb hba
    refine hK.out _ _ ⟨kA3.cell 0 _ rfl, kA3.cell 1 _ rfl, kA3.cell 2 _ rfl, kA3.cell 3 _ rfl, kA3.cell 4 _ rfl, kA3.cell 5 _ rfl⟩ (fun hS2 => ?_)
    clear hK hS hS2
    (try simp only [Act.put, List.setIfInBounds_toArray, List.set_cons_zero, List.set_cons_succ])
    refine wpAnyH_ready (rs := [2]) (by kernel_rfl) (by simp) ?_; refine AllReadyH.cons rfl (fun K hK => ?_) AllReadyH.nil
    go_simp
    refine (c_l3Copy n oa ca R _ (hR.keep hb3) hRs.1 hRs.2).mono ?_
    rintro e w3 ⟨o, c, xs, rfl, hO, hbn⟩
    have apE := hO.after hE'
    have hE4 := hE.keep hbn
    have kA4 := kA3.keep hbn
    have kZ4 := kZ3.keep hbn
    have hb4 := bel_to hb3 hbn
    have hO4 := hO.based (show w.heap.size + 2 ≤ _ by have := HSW.out; simp; omega)
    have hsz4 : w.heap.size + 2 ≤ w3.heap.size := by have := hbn.size; have := HSW.out; simp at *; omega
    refine hK.out _ _ ⟨kA4.cell 0 _ rfl, kA4.cell 1 _ rfl, kA4.cell 2 _ rfl, kA4.cell 3 _ rfl, kA4.cell 4 _ rfl, kA4.cell 5 _ rfl⟩ (fun hS2 => ?_)
    clear hK hS2 hba hbn kA3 kZ3 hO hb3 hE hE'
    (try simp only [Act.put, List.setIfInBounds_toArray, List.set_cons_zero, List.set_cons_succ])
    rcases fa with _ | ⟨b', off', sp'⟩
    · have hcf : fca = 0 := hnil rfl
      have hF0 : F = [] := by
        rcases Nat.eq_zero_or_pos F.length with h | h
        · exact List.eq_nil_of_length_eq_zero h
        · obtain ⟨_, _, e, _⟩ := hD.at_ h; cases e
      subst hcf hF0
      refine wpAnyH_ready (rs := [10]) (by kernel_rfl) (by simp) ?_; refine AllReadyH.cons rfl (fun K hK => ?_) AllReadyH.nil
      refine step_append_none _ (by rfl) _ _ 27 (by rfl) (w.heap.size + 2) 38 i0 2 Tryz.underlying27 hi (.slice (some ⟨w2.heap.size, 0, none⟩) 0 0) 0 [] (by rfl) hE4 (by rfl) ?_
      refine hK.out _ _ ⟨kA4.cell 0 _ rfl, kA4.cell 1 _ rfl, kA4.cell 2 _ rfl, kA4.cell 3 _ rfl, kA4.cell 4 _ rfl, kA4.cell 5 _ rfl⟩ (fun hS3 => ?_)
      clear hK
      (try simp only [Act.put, List.setIfInBounds_toArray, List.set_cons_zero, List.set_cons_succ])
      have kA5 := kA4
      have kZ5 := kZ4
      have hO5 := hO4
      have hb5 := hb4
      have hF5 := hE4
      have ap := apE
      clear kA4 kZ4 hO4 hb4 hE4
      (refine wpAnyH_val (i := 13) (some 16) ?_ rfl rfl (by kernel_rfl) (by kernel_rfl) (by kernel_rfl) (fun _ _ _ h => h) (by rfl) (by assumption) ?_ ?_; rotate_left; (intro w hSw; go_simp; (try with_reducible rfl)); (try simp only [Act.put, List.setIfInBounds_toArray, List.set_cons_zero, List.set_cons_succ]))
      have z0 := kZ5.cell 0 (.int .i64 0) rfl
      have z1 := kZ5.cell 1 (.slice none 0 0) rfl
      have z2 := kZ5.cell 2 (.int .i64 0) rfl
      have z3 := kZ5.cell 3 (.int .i64 0) rfl
      have z4 := kZ5.cell 4 (.slice none 0 0) rfl
      have z5 := kZ5.cell 5 (.int .i64 0) rfl
      have g0 := kZ5.free 0
      have g1 := kZ5.free 1
      have g2 := kZ5.free 2
      have g3 := kZ5.free 3
      have g4 := kZ5.free 4
      have g5 := kZ5.free 5
      refine wpAnyH_ready (rs := [14]) (by kernel_rfl) (by simp) ?_; refine AllReadyH.cons rfl (fun K hK => ?_) AllReadyH.nil
      go_simp
      have kA6 := kA5.far6 (k := w.heap.size + 1) (by omega) (.int .i64 n) (.slice o R.length c) (.int .i64 m) (.int .i64 a) (.slice (some ⟨w2.heap.size, 0, none⟩) 0 0) (.int .i64 t)
      have k6 := kZ5.set6 (.int .i64 n) (.slice o R.length c) (.int .i64 m) (.int .i64 a) (.slice (some ⟨w2.heap.size, 0, none⟩) 0 0) (.int .i64 t)
      have hO6 := hO5.far6 (show w.heap.size + 1 < w.heap.size + 2 by omega) (.int .i64 n) (.slice o R.length c) (.int .i64 m) (.int .i64 a) (.slice (some ⟨w2.heap.size, 0, none⟩) 0 0) (.int .i64 t)
      have hF6 := OwnD.set6 hF5 (fun e => by have := (World.ownsRow.lt hF5 _ e).1; omega : (Value.slice (some ⟨w2.heap.size, 0, none⟩) 0 0).ownBlock ≠ some (w.heap.size + 1)) (.int .i64 n) (.slice o R.length c) (.int .i64 m) (.int .i64 a) (.slice (some ⟨w2.heap.size, 0, none⟩) 0 0) (.int .i64 t)
      have hb6 := bel_set6 hb5 (show w.heap.size ≤ w.heap.size + 1 by omega) (.int .i64 n) (.slice o R.length c) (.int .i64 m) (.int .i64 a) (.slice (some ⟨w2.heap.size, 0, none⟩) 0 0) (.int .i64 t)
      unfold set6 at kA6 k6 hO6 hF6 hb6
      refine hK.out _ _ ⟨kA6.cell 0 _ rfl, kA6.cell 1 _ rfl, kA6.cell 2 _ rfl, kA6.cell 3 _ rfl, kA6.cell 4 _ rfl, kA6.cell 5 _ rfl⟩ (fun hS4 => ?_)
      (try simp only [Act.put, List.setIfInBounds_toArray, List.set_cons_zero, List.set_cons_succ])
      refine wpAnyH_done (by kernel_rfl) ?_ _
      try dsimp only [NoPanic, Exit.then]
      have q0 := k6.cell 0 _ rfl
      have q1 := k6.cell 1 _ rfl
      have q2 := k6.cell 2 _ rfl
      have q3 := k6.cell 3 _ rfl
      have q4 := k6.cell 4 _ rfl
      have q5 := k6.cell 5 _ rfl
      clear hK hS3 hS4 z0 z1 z2 z3 z4 z5 g0 g1 g2 g3 g4 g5
      go_wp2
      exact bodyPost_ret (v := .agg #[.int .i64 n, .slice o R.length c, .int .i64 m, .int .i64 a, .slice (some ⟨w2.heap.size, 0, none⟩) 0 0, .int .i64 t]) (by simp only [results, Tryz.results47]; simp [go_sem, q0, q1, q2, q3, q4, q5]) rfl ⟨o, c, some ⟨w2.heap.size, 0, none⟩, 0, rfl, xs, hO6.based (by omega), hF6.based (by omega), ap, hb6⟩
    · have HB : ∀ j u, (dcells F)[j]? = some u → World.cell? _ ((⟨b', off', sp'⟩ : Addr).add j) = some u := fun j u hu => (hD.keep hb4).cellsAny j u hu
      refine wpAnyH_ready (rs := [10]) (by kernel_rfl) (by simp) ?_; refine AllReadyH.cons rfl (fun K hK => ?_) AllReadyH.nil
      refine step_append_held _ (by rfl) _ _ 27 (by rfl) (w.heap.size + 2) 38 i0 (.agg #[.int .i64 0, .int .i64 0]) 2 16 Tryz.underlying27 hi hz0 hz1 hz2 rfl (by decide) (.slice (some ⟨w2.heap.size, 0, none⟩) 0 0) 0 [] (by rfl) hE4 ⟨b', off', sp'⟩ F.length _ (dcells F) (by rfl) (dcells_length F) HB (dcells_one F) (by unfold maxLen; simp; omega) (by simp; omega) (by have := hb4.size; simp at hsz4 ⊢; omega) ?_
      intro v9 w9 hown _ hgrow hfr
      have hF5' := OwnD.joined (A := []) (B := F) (by have e : dcells ([] : List (Int × Int)) = [] := rfl; simpa [e] using hown)
      have hF5 : OwnD w9 (w.heap.size + 2) v9 F := hF5'
      clear hF5'
      obtain ⟨o9, c9, rfl⟩ := hF5.shape
      have hlo : ∀ g, (Value.slice (some ⟨w2.heap.size, 0, none⟩) 0 0).ownBlock = some g → w.heap.size + 2 ≤ g := fun g e => (World.ownsRow.lt hE4 g e).1
      have kA5 := kA4.grown hgrow (fun e => by have := hlo _ e.symm; omega)
      have kZ5 := kZ4.grown hgrow (fun e => by have := hlo _ e.symm; omega)
      have hO5 := hO4.far hgrow apE
      have ap := apartR_next hO4 apE hfr
      have hb5 := hb4.grown hgrow hb4.size (fun g e => by have := hlo g e; omega)
      refine hK.out _ _ ⟨kA5.cell 0 _ rfl, kA5.cell 1 _ rfl, kA5.cell 2 _ rfl, kA5.cell 3 _ rfl, kA5.cell 4 _ rfl, kA5.cell 5 _ rfl⟩ (fun hS3 => ?_)
      clear hK hown hgrow hfr kA4 kZ4 hO4 hb4 hE4 apE
      (try simp only [Act.put, List.setIfInBounds_toArray, List.set_cons_zero, List.set_cons_succ])
      (refine wpAnyH_val (i := 13) (some 16) ?_ rfl rfl (by kernel_rfl) (by kernel_rfl) (by kernel_rfl) (fun _ _ _ h => h) (by rfl) (by assumption) ?_ ?_; rotate_left; (intro w hSw; go_simp; (try with_reducible rfl)); (try simp only [Act.put, List.setIfInBounds_toArray, List.set_cons_zero, List.set_cons_succ]))
      have z0 := kZ5.cell 0 (.int .i64 0) rfl
      have z1 := kZ5.cell 1 (.slice none 0 0) rfl
      have z2 := kZ5.cell 2 (.int .i64 0) rfl
      have z3 := kZ5.cell 3 (.int .i64 0) rfl
      have z4 := kZ5.cell 4 (.slice none 0 0) rfl
      have z5 := kZ5.cell 5 (.int .i64 0) rfl
      have g0 := kZ5.free 0
      have g1 := kZ5.free 1
      have g2 := kZ5.free 2
      have g3 := kZ5.free 3
      have g4 := kZ5.free 4
      have g5 := kZ5.free 5
      refine wpAnyH_ready (rs := [14]) (by kernel_rfl) (by simp) ?_; refine AllReadyH.cons rfl (fun K hK => ?_) AllReadyH.nil
      go_simp
      have kA6 := kA5.far6 (k := w.heap.size + 1) (by omega) (.int .i64 n) (.slice o R.length c) (.int .i64 m) (.int .i64 a) (.slice o9 F.length c9) (.int .i64 t)
      have k6 := kZ5.set6 (.int .i64 n) (.slice o R.length c) (.int .i64 m) (.int .i64 a) (.slice o9 F.length c9) (.int .i64 t)
      have hO6 := hO5.far6 (show w.heap.size + 1 < w.heap.size + 2 by omega) (.int .i64 n) (.slice o R.length c) (.int .i64 m) (.int .i64 a) (.slice o9 F.length c9) (.int .i64 t)
      have hF6 := OwnD.set6 hF5 (fun e => by have := (World.ownsRow.lt hF5 _ e).1; omega : (Value.slice o9 F.length c9).ownBlock ≠ some (w.heap.size + 1)) (.int .i64 n) (.slice o R.length c) (.int .i64 m) (.int .i64 a) (.slice o9 F.length c9) (.int .i64 t)
      have hb6 := bel_set6 hb5 (show w.heap.size ≤ w.heap.size + 1 by omega) (.int .i64 n) (.slice o R.length c) (.int .i64 m) (.int .i64 a) (.slice o9 F.length c9) (.int .i64 t)
      unfold set6 at kA6 k6 hO6 hF6 hb6
      refine hK.out _ _ ⟨kA6.cell 0 _ rfl, kA6.cell 1 _ rfl, kA6.cell 2 _ rfl, kA6.cell 3 _ rfl, kA6.cell 4 _ rfl, kA6.cell 5 _ rfl⟩ (fun hS4 => ?_)
      (try simp only [Act.put, List.setIfInBounds_toArray, List.set_cons_zero, List.set_cons_succ])
      refine wpAnyH_done (by kernel_rfl) ?_ _
      try dsimp only [NoPanic, Exit.then]
      have q0 := k6.cell 0 _ rfl
      have q1 := k6.cell 1 _ rfl
      have q2 := k6.cell 2 _ rfl
      have q3 := k6.cell 3 _ rfl
      have q4 := k6.cell 4 _ rfl
      have q5 := k6.cell 5 _ rfl
      clear hK hS3 hS4 z0 z1 z2 z3 z4 z5 g0 g1 g2 g3 g4 g5
      go_wp2
      exact bodyPost_ret (v := .agg #[.int .i64 n, .slice o R.length c, .int .i64 m, .int .i64 a, .slice o9 F.length c9, .int .i64 t]) (by simp only [results, Tryz.results47]; simp [go_sem, q0, q1, q2, q3, q4, q5]) rfl ⟨o, c, o9, c9, xs, rfl, hO6.based (by omega), hF6.based (by omega), ap, hb6⟩
end Go.Proofs.YtcenndlbhgfdfaaGreat
namespace Go.Proofs.YtcenndlbhgfdfaaGreat
open Go.RowKit
set_option linter.unusedVariables false
set_option maxRecDepth 100000

theorem below_toB {B : Nat} {w a b : World} (h : Below B w a) (hB : B ≤ w.heap.size) (k : Below a.heap.size a b) : Below B w b := h.trans (k.mono (Nat.le_trans hB h.size))
set_option maxHeartbeats 12800000 in
theorem c_l8Step (N k : Nat) (o fo) (c fc : Nat) (R : List (List Int)) (m t : Int) (F : List (Int × Int)) (g B : Nat) (xs : List Value) (w : World) (kg : Blk w g #[.int .i64 N, .slice o R.length c, .int .i64 m, .int .i64 k, .slice fo F.length fc, .int .i64 t] 29)
    (hO : OwnRows w B (.slice o R.length c) xs R) (hF : OwnD w B (.slice fo F.length fc) F) (ap : ApartR (.slice o R.length c) xs (.slice fo F.length fc)) (nO : Avoid g (.slice o R.length c) xs) (nF : (Value.slice fo F.length fc).ownBlock ≠ some g) (hBg : B ≤ g)
    (ht : isTabF N R = true) (hk : k < N * 2 ^ N) (hFl : F.length ≤ 160) (hFv : ∀ d ∈ F, St d.1 ∧ Co d.2) (ht0 : 0 ≤ t) (ht1 : t ≤ 160) :
    Calls Tryz.prog 49 #[.pointer (some ⟨g, 0, none⟩)] w fun e w' => ∃ fo' fc', e = .returned (.tuple #[]) ∧ Blk w' g #[.int .i64 N, .slice o R.length c, .int .i64 m, .int .i64 ((k : Int) + 1), .slice fo' (stepF R m N k (F, t)).1.length fc', .int .i64 (stepF R m N k (F, t)).2] 29 ∧ OwnRows w' B (.slice o R.length c) xs R ∧ OwnD w' B (.slice fo' (stepF R m N k (F, t)).1.length fc') (stepF R m N k (F, t)).1 ∧ ApartR (.slice o R.length c) xs (.slice fo' (stepF R m N k (F, t)).1.length fc') ∧ (Value.slice fo' (stepF R m N k (F, t)).1.length fc').ownBlock ≠ some g ∧ Below B w w' := by
  obtain ⟨i0, hi, hz0, hz1, hz2⟩ := info_parts info_dep
  obtain ⟨hn1, hn5, _, hlen⟩ := isTab_of ht
  have hN5 : N ≤ 5 := by omega
  have hN1 : 1 ≤ N := by omega
  have hk160 := count_le hN5
  have HLR : Hid (∀ j, j < R.length → (row R j).length ≤ Room) := fun j hj => by have := hlen j hj; unfold Room; omega
  clear hlen
  obtain ⟨_, hst, hco, _, _⟩ := cand_ok hN5 hN1 hk
  have HZ : Hid (stepF R m N k (F, t) = if hasc (candF N k).1 (candF N k).2 || covS F (candF N k).1 (candF N k).2 then (F, t) else (if holdsF R m (candF N k).1 (candF N k).2 then F ++ [((candF N k).1, (candF N k).2)] else F, t + 1)) := rfl
  have HCD : Hid (∀ w', Ans Tryz.prog 55 #[.int .i64 N, .int .i64 k] w' (.agg #[.int .i64 (candF N k).1, .int .i64 (candF N k).2])) := fun w' => c_l8Dep N k hN5 hN1 hk w'
  have HCV : Hid (∀ (oa : Option Addr) (cap : Nat) (w' : World), DepsAt w' oa F → Ans Tryz.prog 91 #[.slice oa F.length cap, .agg #[.int .i64 (candF N k).1, .int .i64 (candF N k).2]] w' (.bool (covS F (candF N k).1 (candF N k).2))) := fun oa cap w' h => Ans.eqb (c_l8Covered oa cap F _ _ w' h) (cov_same hFv hst)
  have HHD : Hid (∀ (w' : World), RowsAt w' o R → Ans Tryz.prog 72 #[.agg #[.int .i64 N, .slice o R.length c], .int .i64 m, .agg #[.int .i64 (candF N k).1, .int .i64 (candF N k).2]] w' (.bool (holdsF R m (candF N k).1 (candF N k).2))) := fun w' h => c_l7Holds N o c R m _ _ w' h ht hst hco
  have hRl : R.length ≤ Room := by have := (isTab_of ht).2.2.1; unfold Room; omega
  have hFl2 : F.length ≤ Room := by unfold Room; omega
  generalize hz : stepF R m N k (F, t) = z at *
  clear hz
  generalize hxx : (candF N k).1 = x at *
  generalize hrr : (candF N k).2 = r at *
  clear hxx hrr ht hFv
  have hr0 := hco.1
  have hr5 := hco.2
  have hr64 : 0 ≤ r ∧ r < 64 := ⟨hr0, by omega⟩
  have hb : Below B w w := Below.refl _ _
  have hBw : B ≤ w.heap.size := by have := kg.lt; omega
  go_enter Tryz.func49, Tryz.ntmps49
  go_upto_region 0 with fail
  go_cut [2] from 2 to 12 (fun p wx => ∃ kd, p = .pointer (some ⟨kd, 0, none⟩) ∧ Blk wx kd #[.int .i64 x, .int .i64 r] 38 ∧ w.heap.size ≤ kd ∧ Below w.heap.size w wx)
  case first =>
    refine wp_region_held_drew (S := fun w' => w'.cell? ⟨g, 0, none⟩ = some (.int .i64 N) ∧ w'.cell? ⟨g, 1, none⟩ = some (.slice o R.length c) ∧ w'.cell? ⟨g, 2, none⟩ = some (.int .i64 m) ∧ w'.cell? ⟨g, 3, none⟩ = some (.int .i64 k) ∧ w'.cell? ⟨g, 4, none⟩ = some (.slice fo F.length fc) ∧ w'.cell? ⟨g, 5, none⟩ = some (.int .i64 t)) (by kernel_rfl) ⟨kg.drew.cell 0 _ rfl, kg.drew.cell 1 _ rfl, kg.drew.cell 2 _ rfl, kg.drew.cell 3 _ rfl, kg.drew.cell 4 _ rfl, kg.drew.cell 5 _ rfl⟩ (fun hS => ?_)
    (refine wpAnyH_val (i := 0) (some 3) ?_ rfl rfl (by kernel_rfl) (by kernel_rfl) (by kernel_rfl) (fun _ _ _ h => h) (by rfl) (by assumption) ?_ ?_; rotate_left; (intro w hSw; go_simp; (try with_reducible rfl)); (try simp only [Act.put, List.setIfInBounds_toArray, List.set_cons_zero, List.set_cons_succ])); (refine wpAnyH_val (i := 1) (some 4) ?_ rfl rfl (by kernel_rfl) (by kernel_rfl) (by kernel_rfl) (fun _ _ _ h => h) (by rfl) (by assumption) ?_ ?_; rotate_left; (intro w hSw; go_simp; (try with_reducible rfl)); (try simp only [Act.put, List.setIfInBounds_toArray, List.set_cons_zero, List.set_cons_succ])); (refine wpAnyH_val (i := 2) (some 5) ?_ rfl rfl (by kernel_rfl) (by kernel_rfl) (by kernel_rfl) (fun _ _ _ h => h) (by rfl) (by assumption) ?_ ?_; rotate_left; (intro w hSw; go_simp; (try with_reducible rfl)); (try simp only [Act.put, List.setIfInBounds_toArray, List.set_cons_zero, List.set_cons_succ])); (refine wpAnyH_val (i := 3) (some 6) ?_ rfl rfl (by kernel_rfl) (by kernel_rfl) (by kernel_rfl) (fun _ _ _ h => h) (by rfl) (by assumption) ?_ ?_; rotate_left; (intro w hSw; go_simp; (try with_reducible rfl)); (try simp only [Act.put, List.setIfInBounds_toArray, List.set_cons_zero, List.set_cons_succ])); (refine wpAnyH_val (i := 4) (some 7) ?_ rfl rfl (by kernel_rfl) (by kernel_rfl) (by kernel_rfl) (fun _ _ _ h => h) (by rfl) (by assumption) ?_ ?_; rotate_left; (intro w hSw; go_simp; (try with_reducible rfl)); (try simp only [Act.put, List.setIfInBounds_toArray, List.set_cons_zero, List.set_cons_succ])); (refine wpAnyH_val (i := 5) (some 8) ?_ rfl rfl (by kernel_rfl) (by kernel_rfl) (by kernel_rfl) (fun _ _ _ h => h) (by rfl) (by assumption) ?_ ?_; rotate_left; (intro w hSw; go_simp; (try with_reducible rfl)); (try simp only [Act.put, List.setIfInBounds_toArray, List.set_cons_zero, List.set_cons_succ])); (refine wpAnyH_val (i := 6) (some 9) ?_ rfl rfl (by kernel_rfl) (by kernel_rfl) (by kernel_rfl) (fun _ _ _ h => h) (by rfl) (by assumption) ?_ ?_; rotate_left; (intro w hSw; go_simp; (try with_reducible rfl)); (try simp only [Act.put, List.setIfInBounds_toArray, List.set_cons_zero, List.set_cons_succ])); (refine wpAnyH_val (i := 7) (some 10) ?_ rfl rfl (by kernel_rfl) (by kernel_rfl) (by kernel_rfl) (fun _ _ _ h => h) (by rfl) (by assumption) ?_ ?_; rotate_left; (intro w hSw; go_simp; (try with_reducible rfl)); (try simp only [Act.put, List.setIfInBounds_toArray, List.set_cons_zero, List.set_cons_succ])); (refine wpAnyH_val (i := 8) (some 11) ?_ rfl rfl (by kernel_rfl) (by kernel_rfl) (by kernel_rfl) (fun _ _ _ h => h) (by rfl) (by assumption) ?_ ?_; rotate_left; (intro w hSw; go_simp; (try with_reducible rfl)); (try simp only [Act.put, List.setIfInBounds_toArray, List.set_cons_zero, List.set_cons_succ]))
    refine wpAnyH_ready (rs := [9, 10]) (by kernel_rfl) (by simp) ?_
    refine AllReadyH.cons rfl (fun K hK => ?_) (AllReadyH.cons rfl (fun K hK => ?_) AllReadyH.nil)
    · go_simp
      refine Calls.mono (HCD.out _) ?_
      rintro e w3 ⟨rfl, hbn⟩
      have kg2 := kg.drew.keep hbn
      have hb2 := bel_to (w := w) (Below.refl _ _).drew hbn
      have hs3 := hb2.size
      refine hK.out _ _ ⟨kg2.cell 0 _ rfl, kg2.cell 1 _ rfl, kg2.cell 2 _ rfl, kg2.cell 3 _ rfl, kg2.cell 4 _ rfl, kg2.cell 5 _ rfl⟩ (fun hS2 => ?_)
      clear hK hS hbn
      (try simp only [Act.put, List.setIfInBounds_toArray, List.set_cons_zero, List.set_cons_succ])
      refine wpAnyH_ready (rs := [10]) (by kernel_rfl) (by simp) ?_; refine AllReadyH.cons rfl (fun K hK => ?_) AllReadyH.nil; go_simp
      have hba := (Below.refl w3.heap.size w3).alloc (Nat.le_refl _) (.cells #[.int .i64 0, .int .i64 0] 38)
      have kd := Blk.new w3 #[.int .i64 0, .int .i64 0] 38
      have kgp := kg2
      have hbp := hb2
      replace kg2 := kg2.keep hba
      replace hb2 := bel_to hb2 hba
      refine hK.out _ _ ⟨kg2.cell 0 _ rfl, kg2.cell 1 _ rfl, kg2.cell 2 _ rfl, kg2.cell 3 _ rfl, kg2.cell 4 _ rfl, kg2.cell 5 _ rfl⟩ (fun hS4 => ?_)
      clear hK hS2 hba
      (try simp only [Act.put, List.setIfInBounds_toArray, List.set_cons_zero, List.set_cons_succ])
      have d0 := kd.cell 0 (.int .i64 0) rfl
      have d1 := kd.cell 1 (.int .i64 0) rfl
      have e0 := kd.free 0
      have e1 := kd.free 1
      refine wpAnyH_ready (rs := [11]) (by kernel_rfl) (by simp) ?_; refine AllReadyH.cons rfl (fun K hK => ?_) AllReadyH.nil; go_simp
      have kd2 := Blk.new w3 #[.int .i64 x, .int .i64 r] 38
      have hba := (Below.refl w3.heap.size w3).alloc (Nat.le_refl _) (.cells #[.int .i64 x, .int .i64 r] 38)
      have kg2 := kgp.keep hba
      have hb3 := bel_to hbp hba
      refine hK.out _ _ ⟨kg2.cell 0 _ rfl, kg2.cell 1 _ rfl, kg2.cell 2 _ rfl, kg2.cell 3 _ rfl, kg2.cell 4 _ rfl, kg2.cell 5 _ rfl⟩ (fun hS3 => ?_)
      (try simp only [Act.put, List.setIfInBounds_toArray, List.set_cons_zero, List.set_cons_succ])
      refine wpAnyH_done (by kernel_rfl) ?_ _
      try dsimp only [NoPanic, Exit.then]
      go_wp2_with fail
      go_meet
      exact ⟨w3.heap.size, rfl, kd2, by omega, hb3⟩
    · go_simp
      have hba := ((Below.refl w.heap.size w).drew).alloc (Nat.le_refl _) (.cells #[.int .i64 0, .int .i64 0] 38)
      have kd : Blk _ w.heap.size #[.int .i64 0, .int .i64 0] 38 := Blk.new w.drew #[.int .i64 0, .int .i64 0] 38
      have kg2 := kg.keep hba
      refine hK.out _ _ ⟨kg2.cell 0 _ rfl, kg2.cell 1 _ rfl, kg2.cell 2 _ rfl, kg2.cell 3 _ rfl, kg2.cell 4 _ rfl, kg2.cell 5 _ rfl⟩ (fun hS2 => ?_)
      clear hK hS
      (try simp only [Act.put, List.setIfInBounds_toArray, List.set_cons_zero, List.set_cons_succ])
      refine wpAnyH_ready (rs := [9]) (by kernel_rfl) (by simp) ?_; refine AllReadyH.cons rfl (fun K hK => ?_) AllReadyH.nil; go_simp
      refine Calls.mono (HCD.out _) ?_
      rintro e w3 ⟨rfl, hbn⟩
      replace kg2 := kg2.keep hbn
      replace kd := kd.keep hbn
      have hb2 := bel_to hba hbn
      refine hK.out _ _ ⟨kg2.cell 0 _ rfl, kg2.cell 1 _ rfl, kg2.cell 2 _ rfl, kg2.cell 3 _ rfl, kg2.cell 4 _ rfl, kg2.cell 5 _ rfl⟩ (fun hS4 => ?_)
      clear hK hS2 hba hbn
      (try simp only [Act.put, List.setIfInBounds_toArray, List.set_cons_zero, List.set_cons_succ])
      have d0 := kd.cell 0 (.int .i64 0) rfl
      have d1 := kd.cell 1 (.int .i64 0) rfl
      have e0 := kd.free 0
      have e1 := kd.free 1
      refine wpAnyH_ready (rs := [11]) (by kernel_rfl) (by simp) ?_; refine AllReadyH.cons rfl (fun K hK => ?_) AllReadyH.nil; go_simp
      have kd2 : Blk _ w.heap.size #[.int .i64 x, .int .i64 r] 38 := (kd.set 0 (.int .i64 x)).set 1 (.int .i64 r)
      have kg2 := (kg2.far ⟨w.heap.size, 0, none⟩ (.int .i64 x) (by have := kg.lt; simp; omega)).far ⟨w.heap.size, 1, none⟩ (.int .i64 r) (by have := kg.lt; simp; omega)
      have hb3 := bel_set2 hb2 (show w.heap.size ≤ w.heap.size by omega) (.int .i64 x) (.int .i64 r)
      refine hK.out _ _ ⟨kg2.cell 0 _ rfl, kg2.cell 1 _ rfl, kg2.cell 2 _ rfl, kg2.cell 3 _ rfl, kg2.cell 4 _ rfl, kg2.cell 5 _ rfl⟩ (fun hS3 => ?_)
      (try simp only [Act.put, List.setIfInBounds_toArray, List.set_cons_zero, List.set_cons_succ])
      refine wpAnyH_done (by kernel_rfl) ?_ _
      try dsimp only [NoPanic, Exit.then]
      go_wp2_with fail
      go_meet
      exact ⟨w.heap.size, rfl, kd2, by omega, hb3⟩
  case rest =>
    obtain ⟨bd, rfl, kd, hbd, hbn⟩ := hcut
    have hgd : g ≠ bd := by have := kg.lt; omega
    replace kg := kg.keep hbn
    replace hO := hO.keep hbn
    replace hF := hF.keep hbn
    replace hb := hbn.mono hBw
    clear hbn
    have n3 := kg.cell 3 (.int .i64 k) rfl
    have f3 := kg.free 3
    go_wp2_with fail
    replace kg := kg.set 3 (.int .i64 ((k : Int) + 1))
    replace kd := kd.far ⟨g, 3, none⟩ (.int .i64 ((k : Int) + 1)) (by simp; omega)
    replace hO := ownRows_setAvoid hO nO 3 (.int .i64 ((k : Int) + 1))
    replace hF := hF.set_ne 3 (.int .i64 ((k : Int) + 1)) nF
    replace hb := Below.setCell (p := (⟨g, 3, none⟩ : Addr)) hb hBg (.int .i64 ((k : Int) + 1))
    replace kg : Blk _ g #[.int .i64 N, .slice o R.length c, .int .i64 m, .int .i64 ((k : Int) + 1), .slice fo F.length fc, .int .i64 t] 29 := kg
    clear n3 f3
    have hdF := hF.deps rfl hFl2
    have d0 := kd.cell 0 (.int .i64 x) rfl
    have d1 := kd.cell 1 (.int .i64 r) rfl
    have n4 := kg.cell 4 (.slice fo F.length fc) rfl
    cases h1 : hasc x r
    · have hq : (bits BinOp.and .i64 (x / 2 ^ r.toNat) 1 == 1) = false := h1
      cases h2 : covS F x r
      · (refine wp_region_after (by kernel_rfl) (by kernel_rfl) ?_; have q_d0 := fun (x : After _) => cell_keep d0 x.bel; have q_d1 := fun (x : After _) => cell_keep d1 x.bel; have q_n4 := fun (x : After _) => cell_keep n4 x.bel; (repeat (go_big_quiet_step ((go_at_call 91; exact Ans.after (Ans.eqb (HCV.out _ _ _ (hdF.keep (After.bel _))) h2))))); clear q_d0; clear q_d1; clear q_n4; refine wpQuiet_nil ?_; rintro _ ⟨⟨w1, hbn⟩, rfl⟩; (try simp only [After.w]); replace kg := kg.keep hbn; replace kd := kd.keep hbn; replace hO := hO.keep hbn; replace hF := OwnD.keep hF hbn; replace hb := below_toB hb hBw hbn; clear hbn)
        clear d0 d1 n4 hdF hq
        have n5 := kg.cell 5 (.int .i64 t) rfl
        have f5 := kg.free 5
        go_wp2_with fail
        replace kg := kg.set 5 (.int .i64 (t + 1))
        replace kd := kd.far ⟨g, 5, none⟩ (.int .i64 (t + 1)) (by simp; omega)
        replace hO := ownRows_setAvoid hO nO 5 (.int .i64 (t + 1))
        replace hF := hF.set_ne 5 (.int .i64 (t + 1)) nF
        replace hb := Below.setCell (p := (⟨g, 5, none⟩ : Addr)) hb hBg (.int .i64 (t + 1))
        replace kg : Blk _ g #[.int .i64 N, .slice o R.length c, .int .i64 m, .int .i64 ((k : Int) + 1), .slice fo F.length fc, .int .i64 (t + 1)] 29 := kg
        clear n5 f5
        have hdR := hO.read hRl HLR.out
        have d0 := kd.cell 0 (.int .i64 x) rfl
        have d1 := kd.cell 1 (.int .i64 r) rfl
        have n0 := kg.cell 0 (.int .i64 N) rfl
        have n1 := kg.cell 1 (.slice o R.length c) rfl
        have n2 := kg.cell 2 (.int .i64 m) rfl
        cases h3 : holdsF R m x r
        · (refine wp_region_after (by kernel_rfl) (by kernel_rfl) ?_; have q_d0 := fun (x : After _) => cell_keep d0 x.bel; have q_d1 := fun (x : After _) => cell_keep d1 x.bel; have q_n0 := fun (x : After _) => cell_keep n0 x.bel; have q_n1 := fun (x : After _) => cell_keep n1 x.bel; have q_n2 := fun (x : After _) => cell_keep n2 x.bel; (repeat (go_big_quiet_step ((go_at_call 72; exact Ans.after (Ans.eqb (HHD.out _ (hdR.keep (After.bel _))) h3))))); clear q_d0; clear q_d1; clear q_n0; clear q_n1; clear q_n2; refine wpQuiet_nil ?_; rintro _ ⟨⟨w1, hbn⟩, rfl⟩; (try simp only [After.w]); replace kg := kg.keep hbn; replace kd := kd.keep hbn; replace hO := hO.keep hbn; replace hF := OwnD.keep hF hbn; replace hb := below_toB hb hBw hbn; clear hbn)
          have HV : Hid (z = (F, t + 1)) := by show z = _; rw [HZ.out, h1, h2, h3]; rfl
          clear d0 d1 n0 n1 n2 hdR
          go_wp2
          first | (refine bodyPost_ret (v := .tuple #[]) (by simp [results, Tryz.results49, go_sem]) rfl ?_) | (refine bodyPost_end (v := .tuple #[]) (by simp [results, Tryz.results49, go_sem]) rfl ?_)
          rw [HV.out]
          exact ⟨fo, fc, rfl, kg, hO, hF, ap, nF, hb⟩
        · (refine wp_region_after (by kernel_rfl) (by kernel_rfl) ?_; have q_d0 := fun (x : After _) => cell_keep d0 x.bel; have q_d1 := fun (x : After _) => cell_keep d1 x.bel; have q_n0 := fun (x : After _) => cell_keep n0 x.bel; have q_n1 := fun (x : After _) => cell_keep n1 x.bel; have q_n2 := fun (x : After _) => cell_keep n2 x.bel; (repeat (go_big_quiet_step ((go_at_call 72; exact Ans.after (Ans.eqb (HHD.out _ (hdR.keep (After.bel _))) h3))))); clear q_d0; clear q_d1; clear q_n0; clear q_n1; clear q_n2; refine wpQuiet_nil ?_; rintro _ ⟨⟨w1, hbn⟩, rfl⟩; (try simp only [After.w]); replace kg := kg.keep hbn; replace kd := kd.keep hbn; replace hO := hO.keep hbn; replace hF := OwnD.keep hF hbn; replace hb := below_toB hb hBw hbn; clear hbn)
          have HV : Hid (z = (F ++ [(x, r)], t + 1)) := by show z = _; rw [HZ.out, h1, h2, h3]; rfl
          clear d0 d1 n0 n1 n2 hdR
          go_wp2_with fail
          obtain ⟨wq, hwq⟩ := Blk.world kg
          subst hwq
          have hba := (Below.refl wq.heap.size wq).alloc (Nat.le_refl _) (.cells #[.int .i64 x, .int .i64 r] 38)
          have d0 := kd.drew.cell 0 (.int .i64 x) rfl
          have d1 := kd.drew.cell 1 (.int .i64 r) rfl
          have n4 := kg.drew.cell 4 (.slice fo F.length fc) rfl
          have n4b := (kg.keep hba).drew.cell 4 (.slice fo F.length fc) rfl
          have hBq := hb.size
          go_region_law (first
            | (refine step_append_held _ (by rfl) _ _ 27 (by rfl) B 38 i0 (.agg #[.int .i64 0, .int .i64 0]) 2 16 Tryz.underlying27 hi hz0 hz1 hz2 rfl (by decide) (.slice fo F.length fc) _ _ (by rfl) (World.ownsRow.alloc hF _) _ 1 1 [.int .i64 x, .int .i64 r] (by rfl) rfl (World.news_of_block (cs := #[.int .i64 x, .int .i64 r]) (t := 38) (fr := (0, 0)) (heap_alloc_new _ _)) (by intro u hu; simp at hu; rcases hu with rfl | rfl <;> rfl) (by unfold maxLen; omega) (by omega) (by simp; omega) ?_; intro v7 w7 hown _ hgrow hfr; replace hgrow := drew_grown hgrow; replace hfr := drew_fresh hfr; have hF7 := own_snocD' hown; obtain ⟨o7, c7, rfl⟩ := snoc_shape hF7; have hO7 := (hO.keep hba).far hgrow ap; have ap7 := apartR_next (hO.keep hba) ap hfr; have kg7 := (kg.keep hba).grown hgrow (fun e => nF e.symm); have nF7 : (Value.slice o7 (F.length + 1) c7).ownBlock ≠ some g := (fun e9 => by rcases hfr with h | h; (rw [h] at e9; exact nF e9); (have h8 := h g e9; have h9 := kg.lt; simp at h8; omega)); have hb7 := (Below.trans hb (hba.mono (by omega))).grown hgrow (by simp; omega) (fun k9 e9 => (World.ownsRow.lt hF k9 e9).1); have q4 := kg7.cell 4 (.slice fo F.length fc) rfl; have p4 := kg7.free 4; clear hown hgrow hfr)
            | fail)
          all_goals
            have kg8 := kg7.set 4 (.slice o7 (F.length + 1) c7)
            have hO8 := ownRows_setAvoid hO7 nO 4 (.slice o7 (F.length + 1) c7)
            have hF8 := hF7.set_ne 4 (.slice o7 (F.length + 1) c7) nF7
            have hb8 := Below.setCell (p := (⟨g, 4, none⟩ : Addr)) hb7 hBg (.slice o7 (F.length + 1) c7)
            have hl9 : (F ++ [(x, r)]).length = F.length + 1 := by simp
            clear kg7 hO7 hF7 hb7 q4 p4 d0 d1 n4 n4b
            go_wp2
            first | (refine bodyPost_ret (v := .tuple #[]) (by simp [results, Tryz.results49, go_sem]) rfl ?_) | (refine bodyPost_end (v := .tuple #[]) (by simp [results, Tryz.results49, go_sem]) rfl ?_)
            rw [HV.out]
            dsimp only; rw [hl9]
            exact ⟨o7, c7, rfl, kg8, hO8, hF8, ap7, nF7, hb8⟩
      · (refine wp_region_after (by kernel_rfl) (by kernel_rfl) ?_; have q_d0 := fun (x : After _) => cell_keep d0 x.bel; have q_d1 := fun (x : After _) => cell_keep d1 x.bel; have q_n4 := fun (x : After _) => cell_keep n4 x.bel; (repeat (go_big_quiet_step ((go_at_call 91; exact Ans.after (Ans.eqb (HCV.out _ _ _ (hdF.keep (After.bel _))) h2))))); clear q_d0; clear q_d1; clear q_n4; refine wpQuiet_nil ?_; rintro _ ⟨⟨w1, hbn⟩, rfl⟩; (try simp only [After.w]); replace kg := kg.keep hbn; replace kd := kd.keep hbn; replace hO := hO.keep hbn; replace hF := OwnD.keep hF hbn; replace hb := below_toB hb hBw hbn; clear hbn)
        have HV : Hid (z = (F, t)) := by show z = _; rw [HZ.out, h1, h2]; rfl
        clear d0 d1 n4 hdF hq
        go_wp2
        first | (refine bodyPost_ret (v := .tuple #[]) (by simp [results, Tryz.results49, go_sem]) rfl ?_) | (refine bodyPost_end (v := .tuple #[]) (by simp [results, Tryz.results49, go_sem]) rfl ?_)
        rw [HV.out]
        exact ⟨fo, fc, rfl, kg, hO, hF, ap, nF, hb⟩
    · have hq : (bits BinOp.and .i64 (x / 2 ^ r.toNat) 1 == 1) = true := h1
      (refine wp_region_after (by kernel_rfl) (by kernel_rfl) ?_; have q_d0 := fun (x : After _) => cell_keep d0 x.bel; have q_d1 := fun (x : After _) => cell_keep d1 x.bel; have q_n4 := fun (x : After _) => cell_keep n4 x.bel; (repeat (go_big_quiet_step (fail))); clear q_d0; clear q_d1; clear q_n4; refine wpQuiet_nil ?_; rintro _ ⟨⟨w1, hbn⟩, rfl⟩; (try simp only [After.w]); replace kg := kg.keep hbn; replace kd := kd.keep hbn; replace hO := hO.keep hbn; replace hF := OwnD.keep hF hbn; replace hb := below_toB hb hBw hbn; clear hbn)
      have HV : Hid (z = (F, t)) := by show z = _; rw [HZ.out, h1]; rfl
      clear d0 d1 n4 hdF hq
      go_wp2
      first | (refine bodyPost_ret (v := .tuple #[]) (by simp [results, Tryz.results49, go_sem]) rfl ?_) | (refine bodyPost_end (v := .tuple #[]) (by simp [results, Tryz.results49, go_sem]) rfl ?_)
      rw [HV.out]
      exact ⟨fo, fc, rfl, kg, hO, hF, ap, nF, hb⟩
end Go.Proofs.YtcenndlbhgfdfaaGreat
namespace Go.Proofs.YtcenndlbhgfdfaaGreat
open Go.RowKit
set_option linter.unusedVariables false
set_option maxRecDepth 100000

set_option maxHeartbeats 6400000 in
theorem c_RunSearch (A : Sr) (oa fa) (ca fca : Nat) (b : Int) (w : World) (hR : RowsC w oa A.R) (hD : DepsAt w fa A.F) (hnil : fa = none → fca = 0) :
    SrRes 7 #[.agg #[.int .i64 A.n, .slice oa A.R.length ca, .int .i64 A.m, .int .i64 A.a, .slice fa A.F.length fca, .int .i64 A.t], .int .i64 b] w (runSr A b) (fun v => v) := by
  unfold SrRes
  have H := fun w' h1 h2 => c_copySearch A oa fa ca fca w' h1 h2 hnil
  have HI := fun w' h1 h2 => c_IsSearch A oa fa ca fca w' h1 h2
  unfold SrRes at H
  obtain ⟨n, R, m, a, F, t⟩ := A
  dsimp only at *
  have hb := bel2 w (.cells #[.int .i64 n, .slice oa R.length ca, .int .i64 m, .int .i64 a, .slice fa F.length fca, .int .i64 t] 29) (.cells srZ 29)
  have kA := (Blk.new w #[.int .i64 n, .slice oa R.length ca, .int .i64 m, .int .i64 a, .slice fa F.length fca, .int .i64 t] 29).alloc (.cells srZ 29)
  have kZ := Blk.new (w.alloc (.cells #[.int .i64 n, .slice oa R.length ca, .int .i64 m, .int .i64 a, .slice fa F.length fca, .int .i64 t] 29)) srZ 29
  simp only [World.size_alloc] at kZ
  unfold srZ at hb kA kZ
  have s0 := kA.cell 0 (.int .i64 n) rfl
  have s1 := kA.cell 1 (.slice oa R.length ca) rfl
  have s2 := kA.cell 2 (.int .i64 m) rfl
  have s3 := kA.cell 3 (.int .i64 a) rfl
  have s4 := kA.cell 4 (.slice fa F.length fca) rfl
  have s5 := kA.cell 5 (.int .i64 t) rfl
  go_enter Tryz.func7, Tryz.ntmps7
  go_wp2_with fail
  refine (H _ (hR.keep hb) (hD.keep hb)).mono ?_
  clear H
  rintro e w1 ⟨o, c, fo, fc, xs, rfl, hO, hF, ap, hbn⟩
  simp only [World.size_alloc] at hO hF
  replace kA := kA.keep hbn
  replace kZ := kZ.keep hbn
  replace hb := bel_to hb hbn
  have hs1 : w.heap.size + 1 < w1.heap.size := kZ.lt
  clear hbn s0 s1 s2 s3 s4 s5
  have kT := Blk.new w1 #[.int .i64 n, .slice o R.length c, .int .i64 m, .int .i64 a, .slice fo F.length fc, .int .i64 t] 29
  have hba := (Below.refl w1.heap.size w1).alloc (Nat.le_refl _) (.cells #[.int .i64 n, .slice o R.length c, .int .i64 m, .int .i64 a, .slice fo F.length fc, .int .i64 t] 29)
  have nO : Avoid w1.heap.size (.slice o R.length c) xs := fun y hy e => by
    have := hO.old (Nat.le_refl _) y hy _ e
    omega
  have nF : (Value.slice fo F.length fc).ownBlock ≠ some w1.heap.size := hF.not_new (Nat.le_refl _)
  replace kA := kA.keep hba
  replace kZ := kZ.keep hba
  replace hO := hO.keep hba
  replace hF := hF.keep hba
  replace hb := bel_to hb hba
  clear hba
  have s0 := kA.cell 0 (.int .i64 n) rfl
  have s1 := kA.cell 1 (.slice oa R.length ca) rfl
  have s2 := kA.cell 2 (.int .i64 m) rfl
  have s3 := kA.cell 3 (.int .i64 a) rfl
  have s4 := kA.cell 4 (.slice fa F.length fca) rfl
  have s5 := kA.cell 5 (.int .i64 t) rfl
  go_upto_region 2 with fail
  generalize w1.alloc (.cells #[.int .i64 n, .slice o R.length c, .int .i64 m, .int .i64 a, .slice fo F.length fc, .int .i64 t] 29) = w2 at *
  generalize w1.heap.size = k5 at *
  go_wp2_with fail
  cases hs : isSrF ⟨n, R, m, a, F, t⟩
  · have HV : Hid (runSr ⟨n, R, m, a, F, t⟩ b = ⟨n, R, m, a, F, t⟩) := by show _ = _; unfold runSr; rw [hs]; rfl
    refine Calls.mono (Ans.eqb (HI _ (hR.keep hb) (hD.keep hb)) hs) ?_
    rintro e w3 ⟨rfl, hbn⟩
    replace kA := kA.keep hbn
    replace kZ := kZ.keep hbn
    replace kT := kT.keep hbn
    replace hO := hO.keep hbn
    replace hF := hF.keep hbn
    replace hb := bel_to hb hbn
    clear hbn s0 s1 s2 s3 s4 s5 hs HI
    have r0 := kT.cell 0 (.int .i64 n) rfl
    have r1 := kT.cell 1 (.slice o R.length c) rfl
    have r2 := kT.cell 2 (.int .i64 m) rfl
    have r3 := kT.cell 3 (.int .i64 a) rfl
    have r4 := kT.cell 4 (.slice fo F.length fc) rfl
    have r5 := kT.cell 5 (.int .i64 t) rfl
    have z0 := kZ.cell 0 (.int .i64 0) rfl
    have z1 := kZ.cell 1 (.slice none 0 0) rfl
    have z2 := kZ.cell 2 (.int .i64 0) rfl
    have z3 := kZ.cell 3 (.int .i64 0) rfl
    have z4 := kZ.cell 4 (.slice none 0 0) rfl
    have z5 := kZ.cell 5 (.int .i64 0) rfl
    have g0 := kZ.free 0
    have g1 := kZ.free 1
    have g2 := kZ.free 2
    have g3 := kZ.free 3
    have g4 := kZ.free 4
    have g5 := kZ.free 5
    have k6 := kZ.set6 (.int .i64 n) (.slice o R.length c) (.int .i64 m) (.int .i64 a) (.slice fo F.length fc) (.int .i64 t)
    unfold set6 at k6
    have q0 := k6.cell 0 _ rfl
    have q1 := k6.cell 1 _ rfl
    have q2 := k6.cell 2 _ rfl
    have q3 := k6.cell 3 _ rfl
    have q4 := k6.cell 4 _ rfl
    have q5 := k6.cell 5 _ rfl
    go_wp2
    refine bodyPost_ret (v := .agg #[.int .i64 n, .slice o R.length c, .int .i64 m, .int .i64 a, .slice fo F.length fc, .int .i64 t]) (by simp only [results, Tryz.results7]; simp [go_sem, q0, q1, q2, q3, q4, q5]) rfl ?_
    rw [HV.out]
    exact ⟨o, c, fo, fc, xs, rfl, (hO.far6 (show w.heap.size + 1 < w.heap.size + 1 + 1 by omega) _ _ _ _ _ _).based (by omega), (OwnD.set6 hF (fun e => by have := (World.ownsRow.lt hF _ e).1; omega) _ _ _ _ _ _).based (by omega), ap, bel_set6 hb (Nat.le_succ _) _ _ _ _ _ _⟩
  · obtain ⟨N, K, hnN, haK, hN1, hN5, hKM, ht, hm, hrep⟩ := isSr_of hs
    dsimp only at hnN haK ht hm hrep
    subst hnN haK
    have HV : Hid (runSr ⟨(N : Int), R, m, (K : Int), F, t⟩ b = ⟨N, R, m, (stopAt R m N (N * 2 ^ N) b t (N * 2 ^ N - K) K : Nat), (repF R m N (stopAt R m N (N * 2 ^ N) b t (N * 2 ^ N - K) K)).1, (repF R m N (stopAt R m N (N * 2 ^ N) b t (N * 2 ^ N - K) K)).2⟩) := by
      show _ = _; unfold runSr stopF; rw [hs]; simp only [Int.toNat_natCast]; rfl
    have hc160 := count_le hN5
    obtain ⟨_, _, _, hlen⟩ := isTab_of ht
    have HLR : Hid (∀ j, j < R.length → (row R j).length ≤ Room) := fun j hj => by have := hlen j hj; unfold Room; omega
    have hRl := hR.1.len
    clear hlen
    have HCO : Hid (∀ w', Ans Tryz.prog 44 #[.int .i64 N] w' (.int .i64 ((N * 2 ^ N : Nat) : Int))) := fun w' => c_candidatesOf N hN5 w'
    have HK : Hid (∀ k, k ≤ N * 2 ^ N → (∀ o ∈ (repF R m N k).1, St o.1 ∧ Co o.2) ∧ (repF R m N k).1.length ≤ k ∧ 0 ≤ (repF R m N k).2 ∧ (repF R m N k).2 ≤ k) := fun k hk => rep_ok hN5 hN1 k hk
    have HS : Hid (∀ k, repF R m N (k + 1) = stepF R m N k (repF R m N k)) := fun k => rfl
    have HSF : Hid (∀ (o : Option Addr) (c k : Nat) (fo : Option Addr) (fc : Nat) (g : Int) (G : List (Int × Int)) (B : Nat) (w' : World), RowsAt w' o R → k < N * 2 ^ N → OwnD w' B (.slice fo G.length fc) G → B ≤ w'.heap.size → G.length ≤ 160 → 0 ≤ g → g ≤ 160 →
        Calls Tryz.prog 45 #[.agg #[.int .i64 N, .slice o R.length c, .int .i64 m, .int .i64 k, .slice fo G.length fc, .int .i64 g]] w' fun e w'' => ∃ fo' fc', e = .returned (.agg #[.int .i64 N, .slice o R.length c, .int .i64 m, .int .i64 ((k : Int) + 1), .slice fo' (stepF R m N k (G, g)).1.length fc', .int .i64 (stepF R m N k (G, g)).2]) ∧ OwnD w'' B (.slice fo' (stepF R m N k (G, g)).1.length fc') (stepF R m N k (G, g)).1 ∧ Fresh w' (.slice fo G.length fc) (.slice fo' (stepF R m N k (G, g)).1.length fc') ∧ Below w'.heap.size w' w'') :=
      fun o c k fo fc g G B w' h1 h2 h3 h4 h5 h6 h7 => c_step N k o fo c fc R m g G B w' h1 ht hm h2 h3 h4 h5 h6 h7
    have ht0 : 0 ≤ t ∧ t ≤ 160 := by have := HK.out K hKM; rw [hrep] at this; dsimp only at this; omega
    have HSE : Hid (∀ k, k < N * 2 ^ N → stopAt R m N (N * 2 ^ N) b t (N * 2 ^ N - k) k = if decide (k < N * 2 ^ N) && decide ((repF R m N k).2 - t < b) then stopAt R m N (N * 2 ^ N) b t (N * 2 ^ N - (k + 1)) (k + 1) else k) := fun k hk => stopAt_step hk
    have HSX : Hid (stopAt R m N (N * 2 ^ N) b t (N * 2 ^ N - N * 2 ^ N) (N * 2 ^ N) = N * 2 ^ N) := stopAt_end
    generalize hM : N * 2 ^ N = M at *
    refine Calls.mono (Ans.eqb (HI _ (hR.keep hb) (hD.keep hb)) hs) ?_
    rintro e w3 ⟨rfl, hbn⟩
    replace kA := kA.keep hbn
    replace kZ := kZ.keep hbn
    replace kT := kT.keep hbn
    replace hO := hO.keep hbn
    replace hF := hF.keep hbn
    replace hb := bel_to hb hbn
    clear hbn s0 s1 s2 s3 s4 s5 hs HI ht hm
    obtain ⟨S, hS⟩ : ∃ S, stopAt R m N M b t (M - K) K = S := ⟨_, rfl⟩
    have HSS : Hid (stopAt R m N M b t (M - K) K = S) := hS
    go_wp2
    go_loopw [18] (fun _ wr => ∃ (k : Nat) (G : List (Int × Int)) (g : Int) (fo : Option Addr) (fc : Nat), k ≤ M ∧ stopAt R m N M b t (M - k) k = S ∧ repF R m N k = (G, g) ∧ Blk wr k5 #[.int .i64 N, .slice o R.length c, .int .i64 m, .int .i64 k, .slice fo G.length fc, .int .i64 g] 29 ∧ OwnRows wr (w.heap.size + 1 + 1) (.slice o R.length c) xs R ∧ OwnD wr (w.heap.size + 1 + 1) (.slice fo G.length fc) G ∧ ApartR (.slice o R.length c) xs (.slice fo G.length fc) ∧ (Value.slice fo G.length fc).ownBlock ≠ some k5 ∧ Blk wr w.heap.size #[.int .i64 N, .slice oa R.length ca, .int .i64 m, .int .i64 K, .slice fa F.length fca, .int .i64 t] 29 ∧ Blk wr (w.heap.size + 1) #[.int .i64 0, .slice none 0 0, .int .i64 0, .int .i64 0, .slice none 0 0, .int .i64 0] 29 ∧ Below w.heap.size w wr) (fun _ wr => M - atOf wr k5)
    case atStart => exact ⟨K, F, t, fo, fc, hKM, hS, hrep, kT, hO, hF, ap, nF, kA, kZ, hb⟩
    case round =>
      clear kT hO hF ap nF kA kZ hb hS hrep hKM
      obtain ⟨k, G, g, fo, fc, hkM, hst, hGg, kT, hO, hF, ap, nF, kA, kZ, hb⟩ := hrel
      have HST : Hid (stopAt R m N M b t (M - k) k = S) := hst
      have HG : Hid (repF R m N k = (G, g)) := hGg
      obtain ⟨_, i2, i3, i4⟩ := HK.out k hkM
      rw [hGg] at i2 i3 i4
      dsimp only at i2 i3 i4
      clear hGg hst
      have n0 := kT.cell 0 (.int .i64 N) rfl
      have n1 := kT.cell 1 (.slice o R.length c) rfl
      have n2 := kT.cell 2 (.int .i64 m) rfl
      have n3 := kT.cell 3 (.int .i64 k) rfl
      have n4 := kT.cell 4 (.slice fo G.length fc) rfl
      have n5 := kT.cell 5 (.int .i64 g) rfl
      have s5 := kA.cell 5 (.int .i64 t) rfl
      have hkz := kZ.lt
      by_cases hlt : k < M
      · have hd1 : decide ((k : Int) < (M : Int)) = true := decide_eq_true (by omega)
        by_cases hgb : g - t < b
        · have hd2 : decide (g - t < b) = true := decide_eq_true hgb
          have HST2 : Hid (stopAt R m N M b t (M - (k + 1)) (k + 1) = S) := by
            show _ = S
            have := HSE.out k hlt
            rw [HG.out, decide_eq_true hlt, hd2] at this
            rw [← HST.out, this]; rfl
          have HSK : Hid (repF R m N (k + 1) = stepF R m N k (G, g)) := by show repF R m N (k + 1) = _; rw [HS.out, HG.out]
          have HM1 : Hid (atOf wr k5 = k) := atOf_eq n3
          go_wp2_with fail
          (refine wp_region_after (by kernel_rfl) (by kernel_rfl) ?_; have q_n0 := fun (x : After _) => cell_keep n0 x.bel; have q_n1 := fun (x : After _) => cell_keep n1 x.bel; have q_n2 := fun (x : After _) => cell_keep n2 x.bel; have q_n3 := fun (x : After _) => cell_keep n3 x.bel; have q_n4 := fun (x : After _) => cell_keep n4 x.bel; have q_n5 := fun (x : After _) => cell_keep n5 x.bel; have q_s5 := fun (x : After _) => cell_keep s5 x.bel; (repeat (go_big_quiet_step ((first | (go_at_call 44; exact Ans.after (HCO.out _)))))); clear q_n0; clear q_n1; clear q_n2; clear q_n3; clear q_n4; clear q_n5; clear q_s5; refine wpQuiet_nil ?_; rintro _ ⟨⟨w1, hbn⟩, rfl⟩; (try simp only [After.w]); replace n0 := cell_keep n0 hbn; replace n1 := cell_keep n1 hbn; replace n2 := cell_keep n2 hbn; replace n3 := cell_keep n3 hbn; replace n4 := cell_keep n4 hbn; replace n5 := cell_keep n5 hbn; replace s5 := cell_keep s5 hbn; replace kT := kT.keep hbn; replace hO := hO.keep hbn; replace hF := OwnD.keep hF hbn; replace kA := kA.keep hbn; replace kZ := kZ.keep hbn; replace hb := bel_to (w := w) (by first | exact hb | exact hb.alloc hb.size _ | exact (hb.alloc hb.size _).alloc (Nat.le_trans hb.size (by simp)) _ | exact hb.setCell (by simp [hb.size]) _) hbn; clear hbn)
          go_wp2_with fail
          refine (HSF.out o c k fo fc g G (w.heap.size + 1 + 1) _ (hO.read hRl HLR.out) (by omega) hF (by have := kZ.lt; omega) (by omega) i3 (by omega)).mono ?_
          rintro e w4 ⟨fo', fc', rfl, hF', hfr, hbn⟩
          have hkl := kT.lt
          have ap' := apartR_next hO ap hfr
          have nF' : (Value.slice fo' (stepF R m N k (G, g)).1.length fc').ownBlock ≠ some k5 := fun e9 => by
            rcases hfr with h | h
            · rw [h] at e9; exact nF e9
            · have := h k5 e9; omega
          replace kT := kT.keep hbn
          replace hO := hO.keep hbn
          replace kA := kA.keep hbn
          replace kZ := kZ.keep hbn
          replace hb := bel_to hb hbn
          clear hbn hfr n0 n1 n2 n3 n4 n5 s5 hF ap nF
          obtain ⟨z9, hz9⟩ : ∃ z, stepF R m N k (G, g) = z := ⟨_, rfl⟩
          rw [hz9] at hF' ap' nF'
          have HZ9 : Hid (stepF R m N k (G, g) = z9) := hz9
          rw [hz9]
          clear hz9
          have n0 := kT.cell 0 (.int .i64 N) rfl
          have n1 := kT.cell 1 (.slice o R.length c) rfl
          have n2 := kT.cell 2 (.int .i64 m) rfl
          have n3 := kT.cell 3 (.int .i64 k) rfl
          have n4 := kT.cell 4 (.slice fo G.length fc) rfl
          have n5 := kT.cell 5 (.int .i64 g) rfl
          have g0 := kT.free 0
          have g1 := kT.free 1
          have g2 := kT.free 2
          have g3 := kT.free 3
          have g4 := kT.free 4
          have g5 := kT.free 5
          have hk5 : w.heap.size + 1 < k5 := hs1
          have kT2 := kT.set6 (.int .i64 N) (.slice o R.length c) (.int .i64 m) (.int .i64 ((k : Int) + 1)) (.slice fo' z9.1.length fc') (.int .i64 z9.2)
          have hO2 := ownRows_set6 hO nO (.int .i64 N) (.slice o R.length c) (.int .i64 m) (.int .i64 ((k : Int) + 1)) (.slice fo' z9.1.length fc') (.int .i64 z9.2)
          have hF2 := OwnD.set6 hF' nF' (.int .i64 N) (.slice o R.length c) (.int .i64 m) (.int .i64 ((k : Int) + 1)) (.slice fo' z9.1.length fc') (.int .i64 z9.2)
          have kA2 := kA.far6 (k := k5) (by omega) (.int .i64 N) (.slice o R.length c) (.int .i64 m) (.int .i64 ((k : Int) + 1)) (.slice fo' z9.1.length fc') (.int .i64 z9.2)
          have kZ2 := kZ.far6 (k := k5) (by omega) (.int .i64 N) (.slice o R.length c) (.int .i64 m) (.int .i64 ((k : Int) + 1)) (.slice fo' z9.1.length fc') (.int .i64 z9.2)
          have hb2 := bel_set6 hb (show w.heap.size ≤ k5 by omega) (.int .i64 N) (.slice o R.length c) (.int .i64 m) (.int .i64 ((k : Int) + 1)) (.slice fo' z9.1.length fc') (.int .i64 z9.2)
          have n3' := kT2.cell 3 _ rfl
          have HM2 : Hid (atOf (set6 w4 k5 (.int .i64 N) (.slice o R.length c) (.int .i64 m) (.int .i64 ((k : Int) + 1)) (.slice fo' z9.1.length fc') (.int .i64 z9.2)) k5 = k + 1) := atOf_eq (by rw [Int.natCast_add]; exact n3')
          clear n3' kT hO kA kZ hb
          unfold set6 at kT2 hO2 hF2 kA2 kZ2 hb2 HM2
          go_wp2
          go_roundw
          case rel => exact ⟨k + 1, z9.1, z9.2, fo', fc', by omega, HST2.out, by rw [HSK.out, HZ9.out], kT2, hO2, hF2, ap', nF', kA2, kZ2, hb2⟩
          case measure => rw [HM1.out, HM2.out]; omega
        · have hd2 : decide (g - t < b) = false := decide_eq_false hgb
          have HSK : Hid (S = k) := by
            show S = k
            have := HSE.out k hlt
            rw [HG.out, decide_eq_true hlt, hd2] at this
            rw [← HST.out, this]; rfl
          go_wp2_with fail
          (refine wp_region_after (by kernel_rfl) (by kernel_rfl) ?_; have q_n0 := fun (x : After _) => cell_keep n0 x.bel; have q_n1 := fun (x : After _) => cell_keep n1 x.bel; have q_n2 := fun (x : After _) => cell_keep n2 x.bel; have q_n3 := fun (x : After _) => cell_keep n3 x.bel; have q_n4 := fun (x : After _) => cell_keep n4 x.bel; have q_n5 := fun (x : After _) => cell_keep n5 x.bel; have q_s5 := fun (x : After _) => cell_keep s5 x.bel; (repeat (go_big_quiet_step ((first | (go_at_call 44; exact Ans.after (HCO.out _)))))); clear q_n0; clear q_n1; clear q_n2; clear q_n3; clear q_n4; clear q_n5; clear q_s5; refine wpQuiet_nil ?_; rintro _ ⟨⟨w1, hbn⟩, rfl⟩; (try simp only [After.w]); replace n0 := cell_keep n0 hbn; replace n1 := cell_keep n1 hbn; replace n2 := cell_keep n2 hbn; replace n3 := cell_keep n3 hbn; replace n4 := cell_keep n4 hbn; replace n5 := cell_keep n5 hbn; replace s5 := cell_keep s5 hbn; replace kT := kT.keep hbn; replace hO := hO.keep hbn; replace hF := OwnD.keep hF hbn; replace kA := kA.keep hbn; replace kZ := kZ.keep hbn; replace hb := bel_to (w := w) (by first | exact hb | exact hb.alloc hb.size _ | exact (hb.alloc hb.size _).alloc (Nat.le_trans hb.size (by simp)) _ | exact hb.setCell (by simp [hb.size]) _) hbn; clear hbn)
          have z0 := kZ.cell 0 (.int .i64 0) rfl
          have z1 := kZ.cell 1 (.slice none 0 0) rfl
          have z2 := kZ.cell 2 (.int .i64 0) rfl
          have z3 := kZ.cell 3 (.int .i64 0) rfl
          have z4 := kZ.cell 4 (.slice none 0 0) rfl
          have z5 := kZ.cell 5 (.int .i64 0) rfl
          have g0 := kZ.free 0
          have g1 := kZ.free 1
          have g2 := kZ.free 2
          have g3 := kZ.free 3
          have g4 := kZ.free 4
          have g5 := kZ.free 5
          have k6 := kZ.set6 (.int .i64 N) (.slice o R.length c) (.int .i64 m) (.int .i64 k) (.slice fo G.length fc) (.int .i64 g)
          unfold set6 at k6
          have q0 := k6.cell 0 _ rfl
          have q1 := k6.cell 1 _ rfl
          have q2 := k6.cell 2 _ rfl
          have q3 := k6.cell 3 _ rfl
          have q4 := k6.cell 4 _ rfl
          have q5 := k6.cell 5 _ rfl
          go_wp2
          refine bodyPost_ret (v := .agg #[.int .i64 N, .slice o R.length c, .int .i64 m, .int .i64 k, .slice fo G.length fc, .int .i64 g]) (by simp only [results, Tryz.results7]; simp [go_sem, q0, q1, q2, q3, q4, q5]) rfl ?_
          rw [HV.out, HSS.out, HSK.out, HG.out]
          exact ⟨o, c, fo, fc, xs, rfl, (hO.far6 (show w.heap.size + 1 < w.heap.size + 1 + 1 by omega) _ _ _ _ _ _).based (by omega), (OwnD.set6 hF (fun e => by have := (World.ownsRow.lt hF _ e).1; omega) _ _ _ _ _ _).based (by omega), ap, bel_set6 hb (Nat.le_succ _) _ _ _ _ _ _⟩
      · have hkk : k = M := by omega
        have HSK : Hid (S = k) := by
          show S = k
          rw [← HST.out, hkk]; exact HSX.out
        have hd1 : decide ((k : Int) < (M : Int)) = false := decide_eq_false (by omega)
        clear hkk
        go_wp2_with fail
        (refine wp_region_after (by kernel_rfl) (by kernel_rfl) ?_; have q_n0 := fun (x : After _) => cell_keep n0 x.bel; have q_n1 := fun (x : After _) => cell_keep n1 x.bel; have q_n2 := fun (x : After _) => cell_keep n2 x.bel; have q_n3 := fun (x : After _) => cell_keep n3 x.bel; have q_n4 := fun (x : After _) => cell_keep n4 x.bel; have q_n5 := fun (x : After _) => cell_keep n5 x.bel; have q_s5 := fun (x : After _) => cell_keep s5 x.bel; (repeat (go_big_quiet_step ((first | (go_at_call 44; exact Ans.after (HCO.out _)))))); clear q_n0; clear q_n1; clear q_n2; clear q_n3; clear q_n4; clear q_n5; clear q_s5; refine wpQuiet_nil ?_; rintro _ ⟨⟨w1, hbn⟩, rfl⟩; (try simp only [After.w]); replace n0 := cell_keep n0 hbn; replace n1 := cell_keep n1 hbn; replace n2 := cell_keep n2 hbn; replace n3 := cell_keep n3 hbn; replace n4 := cell_keep n4 hbn; replace n5 := cell_keep n5 hbn; replace s5 := cell_keep s5 hbn; replace kT := kT.keep hbn; replace hO := hO.keep hbn; replace hF := OwnD.keep hF hbn; replace kA := kA.keep hbn; replace kZ := kZ.keep hbn; replace hb := bel_to (w := w) (by first | exact hb | exact hb.alloc hb.size _ | exact (hb.alloc hb.size _).alloc (Nat.le_trans hb.size (by simp)) _ | exact hb.setCell (by simp [hb.size]) _) hbn; clear hbn)
        have z0 := kZ.cell 0 (.int .i64 0) rfl
        have z1 := kZ.cell 1 (.slice none 0 0) rfl
        have z2 := kZ.cell 2 (.int .i64 0) rfl
        have z3 := kZ.cell 3 (.int .i64 0) rfl
        have z4 := kZ.cell 4 (.slice none 0 0) rfl
        have z5 := kZ.cell 5 (.int .i64 0) rfl
        have g0 := kZ.free 0
        have g1 := kZ.free 1
        have g2 := kZ.free 2
        have g3 := kZ.free 3
        have g4 := kZ.free 4
        have g5 := kZ.free 5
        have k6 := kZ.set6 (.int .i64 N) (.slice o R.length c) (.int .i64 m) (.int .i64 k) (.slice fo G.length fc) (.int .i64 g)
        unfold set6 at k6
        have q0 := k6.cell 0 _ rfl
        have q1 := k6.cell 1 _ rfl
        have q2 := k6.cell 2 _ rfl
        have q3 := k6.cell 3 _ rfl
        have q4 := k6.cell 4 _ rfl
        have q5 := k6.cell 5 _ rfl
        go_wp2
        refine bodyPost_ret (v := .agg #[.int .i64 N, .slice o R.length c, .int .i64 m, .int .i64 k, .slice fo G.length fc, .int .i64 g]) (by simp only [results, Tryz.results7]; simp [go_sem, q0, q1, q2, q3, q4, q5]) rfl ?_
        rw [HV.out, HSS.out, HSK.out, HG.out]
        exact ⟨o, c, fo, fc, xs, rfl, (hO.far6 (show w.heap.size + 1 < w.heap.size + 1 + 1 by omega) _ _ _ _ _ _).based (by omega), (OwnD.set6 hF (fun e => by have := (World.ownsRow.lt hF _ e).1; omega) _ _ _ _ _ _).based (by omega), ap, bel_set6 hb (Nat.le_succ _) _ _ _ _ _ _⟩
end Go.Proofs.YtcenndlbhgfdfaaGreat
namespace Go.Proofs.YtcenndlbhgfdfaaGreat
open Go.RowKit
set_option linter.unusedVariables false
set_option maxRecDepth 100000

def candAtF (A : Sr) : Int × Int × Bool := if isSrF A && !(A.a == cntF A.n) then ((candF A.n.toNat A.a.toNat).1, (candF A.n.toNat A.a.toNat).2, true) else (0, 0, false)
theorem isSr_at {A : Sr} (h : isSrF A = true) (h' : (A.a == cntF A.n) = false) : ∃ N K : Nat, A.n = N ∧ A.a = K ∧ 1 ≤ N ∧ N ≤ 5 ∧ K < N * 2 ^ N := by
  obtain ⟨h1, h5⟩ := isSr_tab h
  unfold isSrF at h
  simp only [Bool.and_eq_true, decide_eq_true_eq] at h
  have h6 := h.1.2
  have hne : A.a ≠ cntF A.n := by simpa using h'
  unfold cntF at h6 hne
  refine ⟨A.n.toNat, A.a.toNat, by omega, by omega, by omega, by omega, ?_⟩
  generalize A.n.toNat * 2 ^ A.n.toNat = M at *
  omega

set_option maxHeartbeats 1600000 in
theorem c_CandidateAt (A : Sr) (oa fa) (ca fca : Nat) (w : World) (hA : RowsC w oa A.R) (hC : DepsAt w fa A.F) (l9 r9 : Int) (b9 : Bool) (h9 : candAtF A = (l9, r9, b9)) :
    Ans Tryz.prog 14 #[.agg #[.int .i64 A.n, .slice oa A.R.length ca, .int .i64 A.m, .int .i64 A.a, .slice fa A.F.length fca, .int .i64 A.t]] w (.tuple #[.agg #[.int .i64 l9, .int .i64 r9], .bool b9]) := by
  unfold Ans
  obtain ⟨n, R, m, a, F, t⟩ := A
  dsimp only at hA hC ⊢
  have hb := bel2 w (.cells #[.int .i64 n, .slice oa R.length ca, .int .i64 m, .int .i64 a, .slice fa F.length fca, .int .i64 t] 29) (.cells #[.int .i64 0, .int .i64 0] 38)
  have kS := (Blk.new w #[.int .i64 n, .slice oa R.length ca, .int .i64 m, .int .i64 a, .slice fa F.length fca, .int .i64 t] 29).alloc (.cells #[.int .i64 0, .int .i64 0] 38)
  have kR := Blk.new (w.alloc (.cells #[.int .i64 n, .slice oa R.length ca, .int .i64 m, .int .i64 a, .slice fa F.length fca, .int .i64 t] 29)) #[.int .i64 0, .int .i64 0] 38
  simp only [World.size_alloc] at kR
  have s0 := kS.cell 0 (.int .i64 n) rfl
  have s1 := kS.cell 1 (.slice oa R.length ca) rfl
  have s2 := kS.cell 2 (.int .i64 m) rfl
  have s3 := kS.cell 3 (.int .i64 a) rfl
  have s4 := kS.cell 4 (.slice fa F.length fca) rfl
  have s5 := kS.cell 5 (.int .i64 t) rfl
  have hx := fun (x : After ((w.alloc (.cells #[.int .i64 n, .slice oa R.length ca, .int .i64 m, .int .i64 a, .slice fa F.length fca, .int .i64 t] 29)).alloc (.cells #[.int .i64 0, .int .i64 0] 38))) => c_IsSearch ⟨n, R, m, a, F, t⟩ oa fa ca fca _ ((hA.keep hb).keep x.bel) ((hC.keep hb).keep x.bel)
  cases his : isSrF ⟨n, R, m, a, F, t⟩
  · have h8 : l9 = 0 ∧ r9 = 0 ∧ b9 = false := by
      unfold candAtF at h9
      rw [his] at h9
      simp at h9
      exact ⟨h9.1.symm, h9.2.1.symm, h9.2.2⟩
    obtain ⟨rfl, rfl, rfl⟩ := h8
    go_enter Tryz.func14, Tryz.ntmps14
    go_wp2_with fail
    (refine wp_region_after (by kernel_rfl) (by kernel_rfl) ?_; have q_s0 := fun (x : After _) => cell_keep s0 x.bel; have q_s1 := fun (x : After _) => cell_keep s1 x.bel; have q_s2 := fun (x : After _) => cell_keep s2 x.bel; have q_s3 := fun (x : After _) => cell_keep s3 x.bel; have q_s4 := fun (x : After _) => cell_keep s4 x.bel; have q_s5 := fun (x : After _) => cell_keep s5 x.bel; (repeat (go_big_quiet_step ((first | (go_at_call 10; exact Ans.after (Ans.eqb (hx _) his)))))); clear q_s0; clear q_s1; clear q_s2; clear q_s3; clear q_s4; clear q_s5; refine wpQuiet_nil ?_; rintro _ ⟨⟨w1, hbn⟩, rfl⟩; (try simp only [After.w]); replace s0 := cell_keep s0 hbn; replace s1 := cell_keep s1 hbn; replace s2 := cell_keep s2 hbn; replace s3 := cell_keep s3 hbn; replace s4 := cell_keep s4 hbn; replace s5 := cell_keep s5 hbn; replace kR := kR.keep hbn; replace hb := bel_to (w := w) (by first | exact hb | exact hb.alloc hb.size _ | exact (hb.alloc hb.size _).alloc (Nat.le_trans hb.size (by simp)) _ | exact hb.setCell (by simp [hb.size]) _) hbn; clear hbn)
    have r0 := kR.cell 0 (.int .i64 0) rfl
    have r1 := kR.cell 1 (.int .i64 0) rfl
    have q0 := kR.free 0
    have q1 := kR.free 1
    go_wp2
    exact bodyPost_ret (v := .tuple #[.agg #[.int .i64 0, .int .i64 0], .bool false]) (by simp [results, Tryz.results14, go_sem, r0, r1]) rfl ⟨rfl, Below.setCell (p := (⟨w.heap.size + 1, 1, none⟩ : Addr)) (Below.setCell (p := (⟨w.heap.size + 1, 0, none⟩ : Addr)) hb (Nat.le_succ _) _) (Nat.le_succ _) _⟩
  have hn := isSr_tab his
  dsimp only at hn
  cases hat : (a == cntF n)
  case true =>
    have h8 : l9 = 0 ∧ r9 = 0 ∧ b9 = false := by
      unfold candAtF at h9
      rw [his] at h9
      dsimp only at h9
      rw [hat] at h9
      simp at h9
      exact ⟨h9.1.symm, h9.2.1.symm, h9.2.2⟩
    obtain ⟨rfl, rfl, rfl⟩ := h8
    obtain ⟨N, rfl⟩ := Int.eq_ofNat_of_zero_le (show 0 ≤ n by omega)
    have hcf : cntF N = ((N * 2 ^ N : Nat) : Int) := by unfold cntF; rw [Int.toNat_natCast]
    have HCO : Hid (∀ w', Ans Tryz.prog 44 #[.int .i64 N] w' (.int .i64 ((N * 2 ^ N : Nat) : Int))) := fun w' => c_candidatesOf N (by omega) w'
    rw [hcf] at hat
    clear hcf
    generalize N * 2 ^ N = M at *
    go_enter Tryz.func14, Tryz.ntmps14
    go_wp2_with fail
    (refine wp_region_after (by kernel_rfl) (by kernel_rfl) ?_; have q_s0 := fun (x : After _) => cell_keep s0 x.bel; have q_s1 := fun (x : After _) => cell_keep s1 x.bel; have q_s2 := fun (x : After _) => cell_keep s2 x.bel; have q_s3 := fun (x : After _) => cell_keep s3 x.bel; have q_s4 := fun (x : After _) => cell_keep s4 x.bel; have q_s5 := fun (x : After _) => cell_keep s5 x.bel; (repeat (go_big_quiet_step ((first | (go_at_call 10; exact Ans.after (Ans.eqb (hx _) his)) | (go_at_call 44; exact Ans.after (HCO.out _)))))); clear q_s0; clear q_s1; clear q_s2; clear q_s3; clear q_s4; clear q_s5; refine wpQuiet_nil ?_; rintro _ ⟨⟨w1, hbn⟩, rfl⟩; (try simp only [After.w]); replace s0 := cell_keep s0 hbn; replace s1 := cell_keep s1 hbn; replace s2 := cell_keep s2 hbn; replace s3 := cell_keep s3 hbn; replace s4 := cell_keep s4 hbn; replace s5 := cell_keep s5 hbn; replace kR := kR.keep hbn; replace hb := bel_to (w := w) (by first | exact hb | exact hb.alloc hb.size _ | exact (hb.alloc hb.size _).alloc (Nat.le_trans hb.size (by simp)) _ | exact hb.setCell (by simp [hb.size]) _) hbn; clear hbn)
    have r0 := kR.cell 0 (.int .i64 0) rfl
    have r1 := kR.cell 1 (.int .i64 0) rfl
    have q0 := kR.free 0
    have q1 := kR.free 1
    go_wp2
    exact bodyPost_ret (v := .tuple #[.agg #[.int .i64 0, .int .i64 0], .bool false]) (by simp [results, Tryz.results14, go_sem, r0, r1]) rfl ⟨rfl, Below.setCell (p := (⟨w.heap.size + 1, 1, none⟩ : Addr)) (Below.setCell (p := (⟨w.heap.size + 1, 0, none⟩ : Addr)) hb (Nat.le_succ _) _) (Nat.le_succ _) _⟩
  case false =>
    obtain ⟨N, K, hN, hK, hN1, hN5, hKM⟩ := isSr_at his hat
    dsimp only at hN hK
    subst hN hK
    have h8 : l9 = (candF N K).1 ∧ r9 = (candF N K).2 ∧ b9 = true := by
      unfold candAtF at h9
      rw [his] at h9
      dsimp only at h9
      rw [hat, Int.toNat_natCast, Int.toNat_natCast] at h9
      simp at h9
      exact ⟨h9.1.symm, h9.2.1.symm, h9.2.2⟩
    obtain ⟨rfl, rfl, rfl⟩ := h8
    have HCD : Hid (∀ w', Ans Tryz.prog 54 #[.int .i64 N, .int .i64 K] w' (.agg #[.int .i64 (candF N K).1, .int .i64 (candF N K).2])) := fun w' => c_candidate N K hN5 hN1 hKM w'
    clear h9
    generalize (candF N K).1 = x at *
    generalize (candF N K).2 = r at *
    have hcf : cntF N = ((N * 2 ^ N : Nat) : Int) := by unfold cntF; rw [Int.toNat_natCast]
    have HCO : Hid (∀ w', Ans Tryz.prog 44 #[.int .i64 N] w' (.int .i64 ((N * 2 ^ N : Nat) : Int))) := fun w' => c_candidatesOf N hN5 w'
    rw [hcf] at hat
    clear hcf
    generalize N * 2 ^ N = M at *
    go_enter Tryz.func14, Tryz.ntmps14
    go_wp2_with fail
    (refine wp_region_after (by kernel_rfl) (by kernel_rfl) ?_; have q_s0 := fun (x : After _) => cell_keep s0 x.bel; have q_s1 := fun (x : After _) => cell_keep s1 x.bel; have q_s2 := fun (x : After _) => cell_keep s2 x.bel; have q_s3 := fun (x : After _) => cell_keep s3 x.bel; have q_s4 := fun (x : After _) => cell_keep s4 x.bel; have q_s5 := fun (x : After _) => cell_keep s5 x.bel; (repeat (go_big_quiet_step ((first | (go_at_call 10; exact Ans.after (Ans.eqb (hx _) his)) | (go_at_call 44; exact Ans.after (HCO.out _)))))); clear q_s0; clear q_s1; clear q_s2; clear q_s3; clear q_s4; clear q_s5; refine wpQuiet_nil ?_; rintro _ ⟨⟨w1, hbn⟩, rfl⟩; (try simp only [After.w]); replace s0 := cell_keep s0 hbn; replace s1 := cell_keep s1 hbn; replace s2 := cell_keep s2 hbn; replace s3 := cell_keep s3 hbn; replace s4 := cell_keep s4 hbn; replace s5 := cell_keep s5 hbn; replace kR := kR.keep hbn; replace hb := bel_to (w := w) (by first | exact hb | exact hb.alloc hb.size _ | exact (hb.alloc hb.size _).alloc (Nat.le_trans hb.size (by simp)) _ | exact hb.setCell (by simp [hb.size]) _) hbn; clear hbn)
    go_wp2_with fail
    refine Calls.mono (HCD.out _) ?_
    rintro e w9 ⟨rfl, hbn⟩
    replace kR := kR.keep hbn
    replace hb := bel_to hb hbn
    clear hbn
    have r0 := kR.cell 0 (.int .i64 0) rfl
    have r1 := kR.cell 1 (.int .i64 0) rfl
    have q0 := kR.free 0
    have q1 := kR.free 1
    go_wp2
    exact bodyPost_ret (v := .tuple #[.agg #[.int .i64 x, .int .i64 r], .bool true]) (by simp [results, Tryz.results14, go_sem, r0, r1]) rfl ⟨rfl, Below.setCell (p := (⟨w.heap.size + 1, 1, none⟩ : Addr)) (Below.setCell (p := (⟨w.heap.size + 1, 0, none⟩ : Addr)) hb (Nat.le_succ _) _) (Nat.le_succ _) _⟩

set_option maxHeartbeats 1600000 in
theorem c_specCandidateAt (A : Sr) (oa fa) (ca fca : Nat) (w : World) (hA : RowsAt w oa A.R) (hC : DepsAt w fa A.F) (l9 r9 : Int) (b9 : Bool) (h9 : candAtF A = (l9, r9, b9)) :
    Ans Tryz.prog 15 #[.agg #[.int .i64 A.n, .slice oa A.R.length ca, .int .i64 A.m, .int .i64 A.a, .slice fa A.F.length fca, .int .i64 A.t]] w (.tuple #[.agg #[.int .i64 l9, .int .i64 r9], .bool b9]) := by
  unfold Ans
  obtain ⟨n, R, m, a, F, t⟩ := A
  dsimp only at hA hC ⊢
  have hb := bel2 w (.cells #[.int .i64 n, .slice oa R.length ca, .int .i64 m, .int .i64 a, .slice fa F.length fca, .int .i64 t] 29) (.cells #[.int .i64 0, .int .i64 0] 38)
  have kS := (Blk.new w #[.int .i64 n, .slice oa R.length ca, .int .i64 m, .int .i64 a, .slice fa F.length fca, .int .i64 t] 29).alloc (.cells #[.int .i64 0, .int .i64 0] 38)
  have kR := Blk.new (w.alloc (.cells #[.int .i64 n, .slice oa R.length ca, .int .i64 m, .int .i64 a, .slice fa F.length fca, .int .i64 t] 29)) #[.int .i64 0, .int .i64 0] 38
  simp only [World.size_alloc] at kR
  have s0 := kS.cell 0 (.int .i64 n) rfl
  have s1 := kS.cell 1 (.slice oa R.length ca) rfl
  have s2 := kS.cell 2 (.int .i64 m) rfl
  have s3 := kS.cell 3 (.int .i64 a) rfl
  have s4 := kS.cell 4 (.slice fa F.length fca) rfl
  have s5 := kS.cell 5 (.int .i64 t) rfl
  cases his : isSrF ⟨n, R, m, a, F, t⟩
  · have h8 : l9 = 0 ∧ r9 = 0 ∧ b9 = false := by
      unfold candAtF at h9
      rw [his] at h9
      simp at h9
      exact ⟨h9.1.symm, h9.2.1.symm, h9.2.2⟩
    obtain ⟨rfl, rfl, rfl⟩ := h8
    go_enter Tryz.func15, Tryz.ntmps15
    go_wp2_with fail
    refine Calls.mono (Ans.eqb (c_specIsSearch ⟨n, R, m, a, F, t⟩ oa fa ca fca _ (hA.keep hb) (hC.keep hb)) his) ?_
    rintro e w1 ⟨rfl, hbn⟩
    replace kR := kR.keep hbn
    replace s0 := cell_keep s0 hbn
    replace s1 := cell_keep s1 hbn
    replace s2 := cell_keep s2 hbn
    replace s3 := cell_keep s3 hbn
    replace s4 := cell_keep s4 hbn
    replace s5 := cell_keep s5 hbn
    replace hb := bel_to hb hbn
    clear hbn
    have r0 := kR.cell 0 (.int .i64 0) rfl
    have r1 := kR.cell 1 (.int .i64 0) rfl
    have q0 := kR.free 0
    have q1 := kR.free 1
    go_wp2
    exact bodyPost_ret (v := .tuple #[.agg #[.int .i64 0, .int .i64 0], .bool false]) (by simp [results, Tryz.results15, go_sem, r0, r1]) rfl ⟨rfl, Below.setCell (p := (⟨w.heap.size + 1, 1, none⟩ : Addr)) (Below.setCell (p := (⟨w.heap.size + 1, 0, none⟩ : Addr)) hb (Nat.le_succ _) _) (Nat.le_succ _) _⟩
  have hn := isSr_tab his
  dsimp only at hn
  cases hat : (a == cntF n)
  case true =>
    have h8 : l9 = 0 ∧ r9 = 0 ∧ b9 = false := by
      unfold candAtF at h9
      rw [his] at h9
      dsimp only at h9
      rw [hat] at h9
      simp at h9
      exact ⟨h9.1.symm, h9.2.1.symm, h9.2.2⟩
    obtain ⟨rfl, rfl, rfl⟩ := h8
    have hsd : isSrdF ⟨n, R, m, a, F, t⟩ = true := by unfold isSrdF; rw [his]; exact hat
    go_enter Tryz.func15, Tryz.ntmps15
    go_wp2_with fail
    refine Calls.mono (Ans.eqb (c_specIsSearch ⟨n, R, m, a, F, t⟩ oa fa ca fca _ (hA.keep hb) (hC.keep hb)) his) ?_
    rintro e w1 ⟨rfl, hbn⟩
    replace kR := kR.keep hbn
    replace s0 := cell_keep s0 hbn
    replace s1 := cell_keep s1 hbn
    replace s2 := cell_keep s2 hbn
    replace s3 := cell_keep s3 hbn
    replace s4 := cell_keep s4 hbn
    replace s5 := cell_keep s5 hbn
    replace hb := bel_to hb hbn
    clear hbn
    go_wp2_with fail
    refine Calls.mono (Ans.eqb (c_specIsSearched ⟨n, R, m, a, F, t⟩ oa fa ca fca _ (hA.keep hb) (hC.keep hb)) hsd) ?_
    rintro e w1 ⟨rfl, hbn⟩
    replace kR := kR.keep hbn
    replace s0 := cell_keep s0 hbn
    replace s1 := cell_keep s1 hbn
    replace s2 := cell_keep s2 hbn
    replace s3 := cell_keep s3 hbn
    replace s4 := cell_keep s4 hbn
    replace s5 := cell_keep s5 hbn
    replace hb := bel_to hb hbn
    clear hbn
    have r0 := kR.cell 0 (.int .i64 0) rfl
    have r1 := kR.cell 1 (.int .i64 0) rfl
    have q0 := kR.free 0
    have q1 := kR.free 1
    go_wp2
    exact bodyPost_ret (v := .tuple #[.agg #[.int .i64 0, .int .i64 0], .bool false]) (by simp [results, Tryz.results15, go_sem, r0, r1]) rfl ⟨rfl, Below.setCell (p := (⟨w.heap.size + 1, 1, none⟩ : Addr)) (Below.setCell (p := (⟨w.heap.size + 1, 0, none⟩ : Addr)) hb (Nat.le_succ _) _) (Nat.le_succ _) _⟩
  case false =>
    obtain ⟨N, K, hN, hK, hN1, hN5, hKM⟩ := isSr_at his hat
    dsimp only at hN hK
    subst hN hK
    have h8 : l9 = (candF N K).1 ∧ r9 = (candF N K).2 ∧ b9 = true := by
      unfold candAtF at h9
      rw [his] at h9
      dsimp only at h9
      rw [hat, Int.toNat_natCast, Int.toNat_natCast] at h9
      simp at h9
      exact ⟨h9.1.symm, h9.2.1.symm, h9.2.2⟩
    obtain ⟨rfl, rfl, rfl⟩ := h8
    have HCD : Hid (∀ w', Ans Tryz.prog 55 #[.int .i64 N, .int .i64 K] w' (.agg #[.int .i64 (candF N K).1, .int .i64 (candF N K).2])) := fun w' => c_l8Dep N K hN5 hN1 hKM w'
    clear h9
    generalize (candF N K).1 = x at *
    generalize (candF N K).2 = r at *
    have hsd : isSrdF ⟨N, R, m, K, F, t⟩ = false := by unfold isSrdF; rw [his]; exact hat
    go_enter Tryz.func15, Tryz.ntmps15
    go_wp2_with fail
    refine Calls.mono (Ans.eqb (c_specIsSearch ⟨N, R, m, K, F, t⟩ oa fa ca fca _ (hA.keep hb) (hC.keep hb)) his) ?_
    rintro e w1 ⟨rfl, hbn⟩
    replace kR := kR.keep hbn
    replace s0 := cell_keep s0 hbn
    replace s1 := cell_keep s1 hbn
    replace s2 := cell_keep s2 hbn
    replace s3 := cell_keep s3 hbn
    replace s4 := cell_keep s4 hbn
    replace s5 := cell_keep s5 hbn
    replace hb := bel_to hb hbn
    clear hbn
    go_wp2_with fail
    refine Calls.mono (Ans.eqb (c_specIsSearched ⟨N, R, m, K, F, t⟩ oa fa ca fca _ (hA.keep hb) (hC.keep hb)) hsd) ?_
    rintro e w1 ⟨rfl, hbn⟩
    replace kR := kR.keep hbn
    replace s0 := cell_keep s0 hbn
    replace s1 := cell_keep s1 hbn
    replace s2 := cell_keep s2 hbn
    replace s3 := cell_keep s3 hbn
    replace s4 := cell_keep s4 hbn
    replace s5 := cell_keep s5 hbn
    replace hb := bel_to hb hbn
    clear hbn
    go_wp2_with fail
    refine Calls.mono (HCD.out _) ?_
    rintro e w9 ⟨rfl, hbn⟩
    replace kR := kR.keep hbn
    replace hb := bel_to hb hbn
    clear hbn
    have r0 := kR.cell 0 (.int .i64 0) rfl
    have r1 := kR.cell 1 (.int .i64 0) rfl
    have q0 := kR.free 0
    have q1 := kR.free 1
    go_wp2
    exact bodyPost_ret (v := .tuple #[.agg #[.int .i64 x, .int .i64 r], .bool true]) (by simp [results, Tryz.results15, go_sem, r0, r1]) rfl ⟨rfl, Below.setCell (p := (⟨w.heap.size + 1, 1, none⟩ : Addr)) (Below.setCell (p := (⟨w.heap.size + 1, 0, none⟩ : Addr)) hb (Nat.le_succ _) _) (Nat.le_succ _) _⟩
end Go.Proofs.YtcenndlbhgfdfaaGreat
