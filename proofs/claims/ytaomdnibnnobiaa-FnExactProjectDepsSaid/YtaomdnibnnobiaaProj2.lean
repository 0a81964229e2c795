/- ProjectDeps, of the reference. -/
import Derived.Test.YtaomdnibnnobiaaProj
import Derived.Test.YtaomdnibnnobiaaClo
namespace Go.Proofs.Ytaomdnibnnobiaa
open Go.RowKit
set_option linter.unusedVariables false
set_option maxRecDepth 100000

theorem takenF_none {p : Int → Int → Bool} {r : Int} (h : ∀ x, p x r = false) : ∀ P : List Int, takenF p r P = [] := by
  intro P
  have : ∀ (P T : List Int), P.foldl (stepM p r) T = T := by
    intro P
    induction P with
    | nil => intro T; rfl
    | cons x P ih => intro T; rw [List.foldl_cons, ih]; unfold stepM; rw [h x, Bool.and_false]; rfl
  exact this P []
theorem prOk_none {D : List (Int × Int)} {s r : Int} (h : hasc s r = false) : ∀ P : List Int, colF (prOk D s) P r = [] := by
  intro P
  unfold colF
  rw [takenF_none (fun x => by unfold prOk; rw [h, Bool.and_false]; rfl)]; rfl
set_option maxHeartbeats 3200000 in
theorem c_specProjectDeps (n : Int) (oa) (cap : Nat) (D : List (Int × Int)) (s : Int) (w : World) (hD : DepsAt w oa D) :
    Calls Try.prog 20 #[.int .i64 n, .slice oa D.length cap, .int .i64 s] w fun e w' => ∃ v, e = .returned v ∧ OwnD w' w.heap.size v (projF n D s) ∧ Below w.heap.size w w' := by
  obtain ⟨j0, hj, hy0, hy1, hy2⟩ := info_parts info_dep
  have hb := (Below.refl w.heap.size w).alloc (Nat.le_refl _) (.cells #[] 54)
  have hO := OwnD.empty w w.heap.size (Nat.le_refl _)
  cases h1 : areDepsF n D
  · have HM : Hid (projF n D s = []) := by show projF n D s = []; unfold projF; rw [h1]; rfl
    go_enter Try.func20, Try.ntmps20
    go_wp2_with (first | (go_at_call 50; refine Calls.mono (Ans.eqb (c_specAreDeps _ _ _ D _ (hD.keep hb)) h1) ?_; rintro e w1 ⟨rfl, hbn⟩; replace hO := hO.keep hbn; replace hb := bel_to (w := w) (by first | exact hb | exact hb.alloc hb.size _ | exact (hb.alloc hb.size _).alloc (Nat.le_trans hb.size (by simp)) _ | exact hb.setCell (by simp [hb.size]) _) hbn; clear hbn))
    go_ret
    exact ⟨_, rfl, by rw [HM.out]; exact hO, hb⟩
  cases h2 : isAttr n s
  · have HM : Hid (projF n D s = []) := by show projF n D s = []; unfold projF; rw [h1, h2]; rfl
    go_enter Try.func20, Try.ntmps20
    go_wp2_with (first | (go_at_call 50; refine Calls.mono (Ans.eqb (c_specAreDeps _ _ _ D _ (hD.keep hb)) h1) ?_; rintro e w1 ⟨rfl, hbn⟩; replace hO := hO.keep hbn; replace hb := bel_to (w := w) (by first | exact hb | exact hb.alloc hb.size _ | exact (hb.alloc hb.size _).alloc (Nat.le_trans hb.size (by simp)) _ | exact hb.setCell (by simp [hb.size]) _) hbn; clear hbn) | (go_at_call 41; refine Calls.mono (Ans.eqb (c_specIsAttributes _ _ _) h2) ?_; rintro e w1 ⟨rfl, hbn⟩; replace hO := hO.keep hbn; replace hb := bel_to (w := w) (by first | exact hb | exact hb.alloc hb.size _ | exact (hb.alloc hb.size _).alloc (Nat.le_trans hb.size (by simp)) _ | exact hb.setCell (by simp [hb.size]) _) hbn; clear hbn))
    go_ret
    exact ⟨_, rfl, by rw [HM.out]; exact hO, hb⟩
  obtain ⟨hv, hn1, hn5, _⟩ := areDepsF_val h1
  obtain ⟨N, rfl⟩ := Int.eq_ofNat_of_zero_le (show 0 ≤ n by omega)
  have HM : Hid (projF N D s = colsF (prOk D s) (partsF N) N) := by show projF N D s = _; unfold projF; rw [h1, h2, Int.toNat_natCast]; rfl
  have HV : Hid (Val D) := hv
  have HSS : Hid (St s) := (isAttr_st h2).1
  have hN5 : N ≤ 5 := by omega
  have hpl := partsF_len N
  have HPS : Hid (∀ x ∈ partsF N, St x) := fun x hx => by
    have h := (partsF_mem (n := N) (by omega) (by omega)).1 hx
    have h2 := (pow_wrap (n := (N : Int)) (by omega) (by omega)).2.1
    exact ⟨h.1, by omega⟩
  clear hv
  go_enter Try.func20, Try.ntmps20
  go_wp2_with (first | (go_at_call 50; refine Calls.mono (Ans.eqb (c_specAreDeps _ _ _ D _ (hD.keep hb)) h1) ?_; rintro e w1 ⟨rfl, hbn⟩; replace hO := hO.keep hbn; replace hb := bel_to (w := w) (by first | exact hb | exact hb.alloc hb.size _ | exact (hb.alloc hb.size _).alloc (Nat.le_trans hb.size (by simp)) _ | exact hb.setCell (by simp [hb.size]) _) hbn; clear hbn) | (go_at_call 41; refine Calls.mono (Ans.eqb (c_specIsAttributes _ _ _) h2) ?_; rintro e w1 ⟨rfl, hbn⟩; replace hO := hO.keep hbn; replace hb := bel_to (w := w) (by first | exact hb | exact hb.alloc hb.size _ | exact (hb.alloc hb.size _).alloc (Nat.le_trans hb.size (by simp)) _ | exact hb.setCell (by simp [hb.size]) _) hbn; clear hbn))
  have old := hO
  refine (c_specPartsBySize (N : Int) _).mono ?_
  rintro e w2 ⟨v2, rfl, hP, hbn⟩
  have ap_PO := (apart_old old hP).symm
  replace hO := hO.keep hbn
  replace hP := hP.based hb.size
  replace hb := bel_to hb hbn
  clear old hbn
  have HGS : Hid (∀ k : Nat, colsF (prOk D s) (partsF N) (k + 1) = colsF (prOk D s) (partsF N) k ++ colF (prOk D s) (partsF N) k) := fun k => colsF_succ _ _ _
  have HCL : Hid (∀ k : Nat, (colsF (prOk D s) (partsF N) k).length ≤ 32 * k) := fun k => Nat.le_trans (colsF_len _ _ k) (Nat.mul_le_mul_right _ hpl)
  generalize partsF N = P at *
  obtain ⟨o1, c1, rfl⟩ := hP.shape
  have hPr : P.length ≤ Room := by unfold Room; omega
  go_wp2
  go_loopw [7, 9] (fun v i wr => ∃ r : Nat, i = .int .i64 r ∧ r ≤ N ∧ OwnD wr w.heap.size v (colsF (prOk D s) P r) ∧ OwnI wr w.heap.size (.slice o1 P.length c1) P ∧ Apart (.slice o1 P.length c1) v ∧ Below w.heap.size w wr) (fun _ i _ => N - (intOf i).toNat)
  case atStart => exact ⟨0, rfl, Nat.zero_le _, by simpa [colsF] using hO, hP, ap_PO, hb⟩
  case round =>
    clear hO hP ap_PO hb
    obtain ⟨r, rfl, hr, hO, hP, ap_PO, hb⟩ := hrel
    have hcl := HCL.out r
    by_cases hrt : r < N
    · have HC : Hid (colsF (prOk D s) P (r + 1) = colsF (prOk D s) P r ++ colF (prOk D s) P r) := HGS.out r
      have HCV : Hid (∀ (T : List Int) (x : Int), (∀ y ∈ T, St y) → St x → covF (colsF (prOk D s) P r ++ T.map fun y => (y, (r : Int))) x r = anyIns T x) := fun T x h1 h2 => cov_out h1 h2
      have HNN : Hid (∀ P : List Int, hasc s (r : Int) = false → colF (prOk D s) P r = []) := fun P h => prOk_none h P
      have hcs : Hid (Co (r : Int)) := ⟨by omega, by omega⟩
      generalize colsF (prOk D s) P r = A at *
      cases h3 : hasc s (r : Int)
      · have h3' : (bits BinOp.and .i64 (s / 2 ^ r) 1 == 0) = true := (hasn_eq HSS.out hcs.out).trans (by rw [h3]; rfl)
        go_wp2
        go_roundw
        case rel => exact ⟨r + 1, by go_num, by omega, by rw [HC.out, HNN.out P h3, List.append_nil]; exact hO, hP, ap_PO, hb⟩
        case measure => simp [intOf]; omega
      have h3' : (bits BinOp.and .i64 (s / 2 ^ r) 1 == 0) = false := (hasn_eq HSS.out hcs.out).trans (by rw [h3]; rfl)
      go_wp2
      go_loopw [7, 10] (fun v i wr => ∃ k : Nat, i = .int .i64 k ∧ k ≤ P.length ∧ OwnD wr w.heap.size v (A ++ colF (prOk D s) (P.take k) r) ∧ OwnI wr w.heap.size (.slice o1 P.length c1) P ∧ Apart (.slice o1 P.length c1) v ∧ Below w.heap.size w wr) (fun _ i _ => P.length - (intOf i).toNat)
      case atStart => exact ⟨0, rfl, Nat.zero_le _, by simpa [colF, takenF] using hO, hP, ap_PO, hb⟩
      case round =>
        clear hO hP ap_PO hb
        obtain ⟨k, rfl, hk, hO, hP, ap_PO, hb⟩ := hrel
        by_cases hlk : k < P.length
        · obtain ⟨b2, off2, rfl, hbs2, hca⟩ := (hP.ints rfl hPr).at_ (by omega)
          have hc2 := hca k hlk
          have hst : Hid (St (nth P k)) := HPS.out _ (List.mem_iff_getElem?.2 ⟨k, nth_eq hlk⟩)
          have hTs : Hid (∀ y ∈ takenF (prOk D s) r (P.take k), St y) := fun y hy => HPS.out y (taken_sub _ _ _ k hk y hy)
          have hOl : (A ++ colF (prOk D s) (P.take k) r).length ≤ 300 := by
            have h := colF_len (prOk D s) (P.take k) r
            rw [List.length_take] at h
            rw [List.length_append]
            omega
          have HOs : Hid (A ++ colF (prOk D s) (P.take (k + 1)) r = A ++ (stepM (prOk D s) r (takenF (prOk D s) r (P.take k)) (nth P k)).map fun x => (x, (r : Int))) := by
            show A ++ colF (prOk D s) (P.take (k + 1)) r = A ++ (stepM (prOk D s) r (takenF (prOk D s) r (P.take k)) (nth P k)).map fun x => (x, (r : Int))
            unfold colF; rw [taken_succ _ _ hlk]
          have HOk : Hid (A ++ colF (prOk D s) (P.take k) r = A ++ (takenF (prOk D s) r (P.take k)).map fun x => (x, (r : Int))) := rfl
          have HCX : Hid (covF (A ++ colF (prOk D s) (P.take k) r) (nth P k) r = anyIns (takenF (prOk D s) r (P.take k)) (nth P k)) := by
            show covF (A ++ colF (prOk D s) (P.take k) r) (nth P k) r = _
            rw [HOk.out]; exact HCV.out _ _ hTs.out hst.out
          clear hca
          generalize nth P k = x at *
          generalize takenF (prOk D s) r (P.take k) = T at *
          generalize A ++ colF (prOk D s) (P.take k) r = C at *
          have hCr : C.length ≤ Room := by unfold Room; omega
          have e0 := box_at wr #[.int .i64 x, .int .i64 (r : Int)] 54 0 _ rfl
          have e1 := box_at wr #[.int .i64 x, .int .i64 (r : Int)] 54 1 _ rfl
          obtain ⟨oC, cC, rfl⟩ := hO.shape
          have hcop : Hid (Co (r : Int)) := ⟨by omega, by omega⟩
          have HF0 : Hid (stepM (prOk D s) r T x = if (!hasc x r && !covF C x r) && prOk D s x r then T ++ [x] else T) := by
            show stepM (prOk D s) r T x = _
            unfold stepM; rw [HCX.out]
          replace hO := World.ownsRow.alloc hO (.cells #[.int .i64 x, .int .i64 (r : Int)] 54)
          replace hP := World.ownsRow.alloc hP (.cells #[.int .i64 x, .int .i64 (r : Int)] 54)
          have hB := hb.alloc hb.size (.cells #[.int .i64 x, .int .i64 (r : Int)] 54)
          have hC0 : DepsAt (wr.alloc (.cells #[.int .i64 x, .int .i64 (r : Int)] 54)) oC C := OwnD.deps hO rfl hCr
          have hc3 := cell_al hc2 (.cells #[.int .i64 x, .int .i64 (r : Int)] 54)
          have hDx := fun y : After (wr.alloc (.cells #[.int .i64 x, .int .i64 (r : Int)] 54)) => hD.keep (bel_to hB y.bel)
          have hCx := fun y : After (wr.alloc (.cells #[.int .i64 x, .int .i64 (r : Int)] 54)) => DepsAt.keep hC0 y.bel
          have HPR : Hid (prOk D s x r = ((ins x s && true) && hasc (cloF D x) r)) := by show prOk D s x r = _; unfold prOk impF; rw [h3]
          replace hb := hB
          cases h4 : ins x s
          case false =>
            have h4' : (bits BinOp.and .i64 x s == x) = false := (insA_eq hst.out HSS.out).trans h4
            go_wp2_with fail
            (refine wp_region_after (by kernel_rfl) (by kernel_rfl) ?_; have q_e0 := fun (x : After _) => cell_keep e0 x.bel; have q_e1 := fun (x : After _) => cell_keep e1 x.bel; have q_hc3 := fun (x : After _) => cell_keep hc3 x.bel; (repeat (go_big_quiet_step (fail))); clear q_e0; clear q_e1; clear q_hc3; refine wpQuiet_nil ?_; rintro _ ⟨⟨w1, hbn⟩, rfl⟩; (try simp only [After.w]); replace e0 := cell_keep e0 hbn; replace e1 := cell_keep e1 hbn; replace hc3 := cell_keep hc3 hbn; replace hO := OwnD.keep hO hbn; replace hP := OwnI.keep hP hbn; replace hb := bel_to (w := w) (by first | exact hb | exact hb.alloc hb.size _ | exact (hb.alloc hb.size _).alloc (Nat.le_trans hb.size (by simp)) _ | exact hb.setCell (by simp [hb.size]) _) hbn; clear hbn)
            go_wp2
            go_roundw
            case rel => exact ⟨k + 1, by go_num, by omega, by rw [HOs.out, HF0.out, HPR.out, h4, Bool.false_and, Bool.false_and, Bool.and_false]; simpa [HOk.out] using hO, hP, ap_PO, hb⟩
            case measure => simp [intOf]; omega
          have h4' : (bits BinOp.and .i64 x s == x) = true := (insA_eq hst.out HSS.out).trans h4
          cases h5 : hasc x (r : Int)
          case true =>
            have h5' : (bits BinOp.and .i64 (x / 2 ^ r) 1 == 0) = false := (hasn_eq hst.out hcop.out).trans (by rw [h5]; rfl)
            go_wp2_with fail
            (refine wp_region_after (by kernel_rfl) (by kernel_rfl) ?_; have q_e0 := fun (x : After _) => cell_keep e0 x.bel; have q_e1 := fun (x : After _) => cell_keep e1 x.bel; have q_hc3 := fun (x : After _) => cell_keep hc3 x.bel; (repeat (go_big_quiet_step (fail))); clear q_e0; clear q_e1; clear q_hc3; refine wpQuiet_nil ?_; rintro _ ⟨⟨w1, hbn⟩, rfl⟩; (try simp only [After.w]); replace e0 := cell_keep e0 hbn; replace e1 := cell_keep e1 hbn; replace hc3 := cell_keep hc3 hbn; replace hO := OwnD.keep hO hbn; replace hP := OwnI.keep hP hbn; replace hb := bel_to (w := w) (by first | exact hb | exact hb.alloc hb.size _ | exact (hb.alloc hb.size _).alloc (Nat.le_trans hb.size (by simp)) _ | exact hb.setCell (by simp [hb.size]) _) hbn; clear hbn)
            go_wp2
            go_roundw
            case rel => exact ⟨k + 1, by go_num, by omega, by rw [HOs.out, HF0.out, h5]; simpa [HOk.out] using hO, hP, ap_PO, hb⟩
            case measure => simp [intOf]; omega
          have h5' : (bits BinOp.and .i64 (x / 2 ^ r) 1 == 0) = true := (hasn_eq hst.out hcop.out).trans (by rw [h5]; rfl)
          cases h6 : hasc (cloF D x) (r : Int)
          case false =>
            have h6' : (bits BinOp.and .i64 (cloF D x / 2 ^ r) 1 == 1) = false := h6
            go_wp2_with fail
            (refine wp_region_after (by kernel_rfl) (by kernel_rfl) ?_; have q_e0 := fun (x : After _) => cell_keep e0 x.bel; have q_e1 := fun (x : After _) => cell_keep e1 x.bel; have q_hc3 := fun (x : After _) => cell_keep hc3 x.bel; (repeat (go_big_quiet_step ((first | (go_at_call 51; exact Ans.after (c_l10Close _ _ D x _ (hDx _) hst.out HV.out)))))); clear q_e0; clear q_e1; clear q_hc3; refine wpQuiet_nil ?_; rintro _ ⟨⟨w1, hbn⟩, rfl⟩; (try simp only [After.w]); replace e0 := cell_keep e0 hbn; replace e1 := cell_keep e1 hbn; replace hc3 := cell_keep hc3 hbn; replace hO := OwnD.keep hO hbn; replace hP := OwnI.keep hP hbn; replace hb := bel_to (w := w) (by first | exact hb | exact hb.alloc hb.size _ | exact (hb.alloc hb.size _).alloc (Nat.le_trans hb.size (by simp)) _ | exact hb.setCell (by simp [hb.size]) _) hbn; clear hbn)
            go_wp2
            go_roundw
            case rel => exact ⟨k + 1, by go_num, by omega, by rw [HOs.out, HF0.out, HPR.out, h6, Bool.and_false, Bool.and_false]; simpa [HOk.out] using hO, hP, ap_PO, hb⟩
            case measure => simp [intOf]; omega
          have h6' : (bits BinOp.and .i64 (cloF D x / 2 ^ r) 1 == 1) = true := h6
          cases h7 : covF C x (r : Int)
          case true =>
            skip
            go_wp2_with fail
            (refine wp_region_after (by kernel_rfl) (by kernel_rfl) ?_; have q_e0 := fun (x : After _) => cell_keep e0 x.bel; have q_e1 := fun (x : After _) => cell_keep e1 x.bel; have q_hc3 := fun (x : After _) => cell_keep hc3 x.bel; (repeat (go_big_quiet_step ((first | (go_at_call 51; exact Ans.after (c_l10Close _ _ D x _ (hDx _) hst.out HV.out)) | (go_at_call 43; exact Ans.after (Ans.eqb (c_l8Covered _ _ C x r _ (hCx _)) h7)))))); clear q_e0; clear q_e1; clear q_hc3; refine wpQuiet_nil ?_; rintro _ ⟨⟨w1, hbn⟩, rfl⟩; (try simp only [After.w]); replace e0 := cell_keep e0 hbn; replace e1 := cell_keep e1 hbn; replace hc3 := cell_keep hc3 hbn; replace hO := OwnD.keep hO hbn; replace hP := OwnI.keep hP hbn; replace hb := bel_to (w := w) (by first | exact hb | exact hb.alloc hb.size _ | exact (hb.alloc hb.size _).alloc (Nat.le_trans hb.size (by simp)) _ | exact hb.setCell (by simp [hb.size]) _) hbn; clear hbn)
            go_wp2
            go_roundw
            case rel => exact ⟨k + 1, by go_num, by omega, by rw [HOs.out, HF0.out, h5, h7]; simpa [HOk.out] using hO, hP, ap_PO, hb⟩
            case measure => simp [intOf]; omega
          go_wp2_with fail
          (refine wp_region_after (by kernel_rfl) (by kernel_rfl) ?_; have q_e0 := fun (x : After _) => cell_keep e0 x.bel; have q_e1 := fun (x : After _) => cell_keep e1 x.bel; have q_hc3 := fun (x : After _) => cell_keep hc3 x.bel; (repeat (go_big_quiet_step ((first | (go_at_call 51; exact Ans.after (c_l10Close _ _ D x _ (hDx _) hst.out HV.out)) | (go_at_call 43; exact Ans.after (Ans.eqb (c_l8Covered _ _ C x r _ (hCx _)) h7)))))); clear q_e0; clear q_e1; clear q_hc3; refine wpQuiet_nil ?_; rintro _ ⟨⟨w1, hbn⟩, rfl⟩; (try simp only [After.w]); replace e0 := cell_keep e0 hbn; replace e1 := cell_keep e1 hbn; replace hc3 := cell_keep hc3 hbn; replace hO := OwnD.keep hO hbn; replace hP := OwnI.keep hP hbn; replace hb := bel_to (w := w) (by first | exact hb | exact hb.alloc hb.size _ | exact (hb.alloc hb.size _).alloc (Nat.le_trans hb.size (by simp)) _ | exact hb.setCell (by simp [hb.size]) _) hbn; clear hbn)
          clear hc2 hc3
          go_wp2_with (first | (at_builtin; refine wpList_append_fresh rfl _ _ 23 rfl w.heap.size 54 j0 (.agg #[.int .i64 0, .int .i64 0]) 2 16 Try.underlying23 hj hy0 hy1 hy2 rfl (by decide) _ _ _ rfl (World.ownsRow.alloc hO _) _ 1 1 [.int .i64 x, .int .i64 (r : Int)] rfl rfl (World.news_of_block (cs := #[.int .i64 x, .int .i64 (r : Int)]) (t := 54) (fr := (0, 0)) (heap_alloc_new _ _)) (by intro u hu; simp at hu; rcases hu with rfl | rfl <;> rfl) (by unfold maxLen; omega) (by omega) (by have := hb.size; simp; omega) ?_; intro v' w4 hown hgrow hfr; replace hb := (hb.alloc hb.size _).grown hgrow (by have := hb.size; simp; omega) (fun g hg => (World.ownsRow.lt hO g hg).1); obtain ⟨hP, ap_PO⟩ := OwnI.past hP hgrow ap_PO hfr; replace hO := own_snocD hown; clear hown hgrow hfr) | fail)
          go_roundw
          case rel => exact ⟨k + 1, by go_num, by omega, by rw [HOs.out, HF0.out, h5, h7, HPR.out, h4, h6]; simpa [HOk.out] using hO, hP, ap_PO, hb⟩
          case measure => simp [intOf]; omega
        · have hkk2 : k = P.length := by omega
          have HE : Hid (colsF (prOk D s) P (r + 1) = A ++ colF (prOk D s) (P.take k) r) := by
            show colsF (prOk D s) P (r + 1) = A ++ colF (prOk D s) (P.take k) r
            rw [HC.out, hkk2, List.take_length]
          clear hkk2
          go_wp2
          go_roundw
          case rel => exact ⟨r + 1, by go_num, by omega, by rw [HE.out]; exact hO, hP, ap_PO, hb⟩
          case measure => simp [intOf]; omega
    · have hrr : r = N := by omega
      have HE : Hid (colsF (prOk D s) P r = projF N D s) := by show colsF (prOk D s) P r = projF N D s; rw [HM.out, hrr]
      clear hrr
      go_wp2
      go_ret
      exact ⟨_, rfl, by rw [← HE.out]; exact hO, hb⟩
end Go.Proofs.Ytaomdnibnnobiaa
