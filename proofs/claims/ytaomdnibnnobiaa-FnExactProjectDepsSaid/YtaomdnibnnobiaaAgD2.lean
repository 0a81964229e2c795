/- DepsOfAgreeSets, of the reference. -/
import Derived.Test.YtaomdnibnnobiaaAgD
import Derived.Test.YtaomdnibnnobiaaHold2
namespace Go.Proofs.Ytaomdnibnnobiaa
open Go.RowKit
set_option linter.unusedVariables false
set_option maxRecDepth 100000

def covF (D : List (Int × Int)) (x r : Int) : Bool := D.any fun o => (o.2 == r) && insA o.1 x
theorem c_l8Covered (oa) (cap : Nat) (D : List (Int × Int)) (x r : Int) (w : World) (hD : DepsAt w oa D) :
    Ans Try.prog 43 #[.slice oa D.length cap, .agg #[.int .i64 x, .int .i64 r]] w (.bool (covF D x r)) := by
  unfold Ans
  have hn : D.length ≤ 1073741824 := hD.len
  have hb := (Below.refl w.heap.size w).alloc (Nat.le_refl _) (.cells #[.int .i64 x, .int .i64 r] 54)
  have d0 := box_at w #[.int .i64 x, .int .i64 r] 54 0 _ rfl
  have d1 := box_at w #[.int .i64 x, .int .i64 r] 54 1 _ rfl
  go_enter Try.func43, Try.ntmps43
  go_wp2
  go_loopw [5] (fun i wr => ∃ k : Nat, i = .int .i64 k ∧ k ≤ D.length ∧ (D.take k).all (fun o => !((o.2 == r) && insA o.1 x)) = true ∧ wr.cell? ⟨w.heap.size, 0, none⟩ = some (.int .i64 x) ∧ wr.cell? ⟨w.heap.size, 1, none⟩ = some (.int .i64 r) ∧ Below w.heap.size w wr) (fun i _ => D.length - (intOf i).toNat)
  case atStart => exact ⟨0, rfl, Nat.zero_le _, by simp, d0, d1, hb⟩
  case round =>
    clear d0 d1 hb
    obtain ⟨k, rfl, hk, hall, d0, d1, hb⟩ := hrel
    have HA : Hid ((D.take k).all (fun o => !((o.2 == r) && insA o.1 x)) = true) := hall
    clear hall
    by_cases hlt : k < D.length
    · obtain ⟨b, off, rfl, hbs, hc⟩ := hD.at_ (by omega)
      have hc1 := cell_keep (hc k hlt).1 hb
      have hc2 := cell_keep (hc k hlt).2 hb
      have HT : Hid ((D.take (k + 1)).all (fun o => !((o.2 == r) && insA o.1 x)) = ((D.take k).all (fun o => !((o.2 == r) && insA o.1 x)) && !((nr D k == r) && insA (nl D k) x))) := dall_take_succ (fun o => !((o.2 == r) && insA o.1 x)) D k hlt
      have HY : Hid (((nr D k == r) && insA (nl D k) x) = true → covF D x r = true) := fun h => List.any_eq_true.2 ⟨(nl D k, nr D k), List.mem_iff_getElem?.2 ⟨k, dnth_eq hlt⟩, h⟩
      clear hc
      generalize nl D k = l at *
      generalize nr D k = q at *
      cases h1 : (q == r)
      · go_wp2_with fail
        (refine wp_region_after (by kernel_rfl) (by kernel_rfl) ?_; have q_d0 := fun (x : After _) => cell_keep d0 x.bel; have q_d1 := fun (x : After _) => cell_keep d1 x.bel; have q_hc1 := fun (x : After _) => cell_keep hc1 x.bel; have q_hc2 := fun (x : After _) => cell_keep hc2 x.bel; (repeat (go_big_quiet_step (fail))); clear q_d0; clear q_d1; clear q_hc1; clear q_hc2; refine wpQuiet_nil ?_; rintro _ ⟨⟨w1, hbn⟩, rfl⟩; (try simp only [After.w]); replace d0 := cell_keep d0 hbn; replace d1 := cell_keep d1 hbn; replace hc1 := cell_keep hc1 hbn; replace hc2 := cell_keep hc2 hbn; replace hb := bel_to (w := w) (by first | exact hb | exact hb.alloc hb.size _ | exact (hb.alloc hb.size _).alloc (Nat.le_trans hb.size (by simp)) _ | exact hb.setCell (by simp [hb.size]) _) hbn; clear hbn)
        go_wp2
        go_roundw
        case rel => exact ⟨k + 1, by go_num, by omega, by rw [HT.out, HA.out, h1]; rfl, d0, d1, hb⟩
        case measure => simp [intOf]; omega
      · cases h2 : (bits BinOp.and .i64 l x == l)
        · go_wp2_with fail
          (refine wp_region_after (by kernel_rfl) (by kernel_rfl) ?_; have q_d0 := fun (x : After _) => cell_keep d0 x.bel; have q_d1 := fun (x : After _) => cell_keep d1 x.bel; have q_hc1 := fun (x : After _) => cell_keep hc1 x.bel; have q_hc2 := fun (x : After _) => cell_keep hc2 x.bel; (repeat (go_big_quiet_step (fail))); clear q_d0; clear q_d1; clear q_hc1; clear q_hc2; refine wpQuiet_nil ?_; rintro _ ⟨⟨w1, hbn⟩, rfl⟩; (try simp only [After.w]); replace d0 := cell_keep d0 hbn; replace d1 := cell_keep d1 hbn; replace hc1 := cell_keep hc1 hbn; replace hc2 := cell_keep hc2 hbn; replace hb := bel_to (w := w) (by first | exact hb | exact hb.alloc hb.size _ | exact (hb.alloc hb.size _).alloc (Nat.le_trans hb.size (by simp)) _ | exact hb.setCell (by simp [hb.size]) _) hbn; clear hbn)
          go_wp2
          go_roundw
          case rel => exact ⟨k + 1, by go_num, by omega, by rw [HT.out, HA.out, h1]; unfold insA; rw [h2]; rfl, d0, d1, hb⟩
          case measure => simp [intOf]; omega
        · go_wp2_with fail
          (refine wp_region_after (by kernel_rfl) (by kernel_rfl) ?_; have q_d0 := fun (x : After _) => cell_keep d0 x.bel; have q_d1 := fun (x : After _) => cell_keep d1 x.bel; have q_hc1 := fun (x : After _) => cell_keep hc1 x.bel; have q_hc2 := fun (x : After _) => cell_keep hc2 x.bel; (repeat (go_big_quiet_step (fail))); clear q_d0; clear q_d1; clear q_hc1; clear q_hc2; refine wpQuiet_nil ?_; rintro _ ⟨⟨w1, hbn⟩, rfl⟩; (try simp only [After.w]); replace d0 := cell_keep d0 hbn; replace d1 := cell_keep d1 hbn; replace hc1 := cell_keep hc1 hbn; replace hc2 := cell_keep hc2 hbn; replace hb := bel_to (w := w) (by first | exact hb | exact hb.alloc hb.size _ | exact (hb.alloc hb.size _).alloc (Nat.le_trans hb.size (by simp)) _ | exact hb.setCell (by simp [hb.size]) _) hbn; clear hbn)
          go_wp2
          go_ret
          exact ⟨ret_bool (HY.out (by rw [h1]; unfold insA; rw [h2]; rfl)).symm, hb⟩
    · have hkk : k = D.length := by omega
      have HS : Hid (covF D x r = false) := by
        have h := HA.out
        rw [hkk, List.take_length, List.all_eq_true] at h
        show covF D x r = false
        unfold covF
        rw [List.any_eq_false]
        intro y hy
        have := h y hy
        intro e
        rw [e] at this
        cases this
      clear hkk
      go_wp2
      go_ret
      exact ⟨ret_bool HS.out.symm, hb⟩
theorem stepM_sub {p : Int → Int → Bool} {r : Int} {T : List Int} {x y : Int} (h : y ∈ stepM p r T x) : y ∈ T ∨ y = x := by
  unfold stepM at h
  split at h
  · simpa using h
  · exact .inl h
theorem taken_sub (p : Int → Int → Bool) (r : Int) (P : List Int) : ∀ k, k ≤ P.length → ∀ y ∈ takenF p r (P.take k), y ∈ P
  | 0, _, y, hy => by simp [takenF] at hy
  | k + 1, hk, y, hy => by
    rw [taken_succ p r (by omega)] at hy
    rcases stepM_sub hy with h | h
    · exact taken_sub p r P k (by omega) y h
    · rw [h]; exact List.mem_iff_getElem?.2 ⟨k, nth_eq (by omega)⟩
theorem cols_right {p : Int → Int → Bool} {P : List Int} {n : Nat} : ∀ o ∈ colsF p P n, o.2 < (n : Int) := by
  intro o ho
  unfold colsF at ho
  obtain ⟨r, hr, ho⟩ := List.mem_flatMap.1 ho
  unfold colF at ho
  obtain ⟨x, _, rfl⟩ := List.mem_map.1 ho
  have := List.mem_range.1 hr
  simp; omega
theorem cov_out {p : Int → Int → Bool} {P T : List Int} {n : Nat} {x : Int} (hT : ∀ y ∈ T, St y) (hx : St x) : covF (colsF p P n ++ T.map fun y => (y, (n : Int))) x n = anyIns T x := by
  unfold covF anyIns
  rw [List.any_append]
  have e1 : (colsF p P n).any (fun o => (o.2 == (n : Int)) && insA o.1 x) = false := by
    rw [List.any_eq_false]
    intro o ho
    have := cols_right o ho
    have : (o.2 == (n : Int)) = false := by simp; omega
    rw [this]; simp
  rw [e1, Bool.false_or, List.any_map, Bool.eq_iff_iff, List.any_eq_true, List.any_eq_true]
  constructor
  · rintro ⟨y, hy, h⟩; exact ⟨y, hy, by simp only [Function.comp, beq_self_eq_true, Bool.true_and] at h; rw [insA_eq (hT y hy) hx] at h; exact h⟩
  · rintro ⟨y, hy, h⟩; exact ⟨y, hy, by simp only [Function.comp, beq_self_eq_true, Bool.true_and]; rw [insA_eq (hT y hy) hx]; exact h⟩
set_option maxHeartbeats 3200000 in
theorem c_specDepsOfAgreeSets (n : Int) (oa) (cap : Nat) (L : List Int) (w : World) (hL : IntsAt w oa L) :
    Calls Try.prog 11 #[.int .i64 n, .slice oa L.length cap] w fun e w' => ∃ v, e = .returned v ∧ OwnD w' w.heap.size v (depsAF n L) ∧ Below w.heap.size w w' := by
  obtain ⟨j0, hj, hy0, hy1, hy2⟩ := info_parts info_dep
  have hn : L.length ≤ 1073741824 := hL.len
  have hb := (Below.refl w.heap.size w).alloc (Nat.le_refl _) (.cells #[] 54)
  have hO := OwnD.empty w w.heap.size (Nat.le_refl _)
  cases hin : inB n 1 5
  · have HM : Hid (depsAF n L = []) := by show depsAF n L = []; unfold depsAF depsAOk; unfold inB at hin; rw [hin]; rfl
    go_enter Try.func11, Try.ntmps11
    go_wp2_with (first | (go_at_call 40; refine Calls.mono (Ans.eqb (c_l1In _ _ _ _) hin) ?_; rintro e w1 ⟨rfl, hbn⟩; replace hO := hO.keep hbn; replace hb := bel_to (w := w) (by first | exact hb | exact hb.alloc hb.size _ | exact (hb.alloc hb.size _).alloc (Nat.le_trans hb.size (by simp)) _ | exact hb.setCell (by simp [hb.size]) _) hbn; clear hbn))
    go_ret
    exact ⟨_, rfl, by rw [HM.out]; exact hO, hb⟩
  have h15 : 1 ≤ n ∧ n ≤ 5 := by unfold inB at hin; simpa using hin
  obtain ⟨N, rfl⟩ := Int.eq_ofNat_of_zero_le (show 0 ≤ n by omega)
  have hN5 : N ≤ 5 := by omega
  have HT0 : Hid (L.all (isAttr N) = true → depsAF N L = colsF (agOk L) (partsF N) N) := fun h => by unfold depsAF depsAOk; rw [h, decide_eq_true h15.1, decide_eq_true h15.2, Int.toNat_natCast]; rfl
  have HN : Hid (L.all (isAttr N) = false → depsAF N L = []) := fun h => by unfold depsAF depsAOk; rw [h]; simp
  go_enter Try.func11, Try.ntmps11
  go_wp2_with (first | (go_at_call 40; refine Calls.mono (Ans.eqb (c_l1In _ _ _ _) hin) ?_; rintro e w1 ⟨rfl, hbn⟩; replace hO := hO.keep hbn; replace hb := bel_to (w := w) (by first | exact hb | exact hb.alloc hb.size _ | exact (hb.alloc hb.size _).alloc (Nat.le_trans hb.size (by simp)) _ | exact hb.setCell (by simp [hb.size]) _) hbn; clear hbn))
  go_loopw [6] (fun i wr => ∃ k : Nat, i = .int .i64 k ∧ k ≤ L.length ∧ (L.take k).all (isAttr N) = true ∧ OwnD wr w.heap.size (.slice (some ⟨w.heap.size, 0, none⟩) 0 0) [] ∧ Below w.heap.size w wr) (fun i _ => L.length - (intOf i).toNat)
  case atStart => exact ⟨0, rfl, Nat.zero_le _, by simp, hO, hb⟩
  case round =>
    clear hO hb
    obtain ⟨k, rfl, hk, hall, hO, hb⟩ := hrel
    have HA : Hid ((L.take k).all (isAttr N) = true) := hall
    clear hall
    by_cases hlt : k < L.length
    · obtain ⟨b, off, rfl, hbs, hc⟩ := hL.at_ (by omega)
      have hc1 := cell_keep (hc k hlt) hb
      have HS : Hid ((L.take (k + 1)).all (isAttr N) = ((L.take k).all (isAttr N) && isAttr N (nth L k))) := all_take_succ _ L k hlt
      have HF : Hid (isAttr N (nth L k) = false → L.all (isAttr N) = false) := all_false _ L k hlt
      clear hc
      generalize nth L k = x at *
      cases hst : isAttr N x
      · go_wp2_with (first | (go_at_call 41; refine Calls.mono (Ans.eqb (c_specIsAttributes _ _ _) hst) ?_; rintro e w1 ⟨rfl, hbn⟩; replace hO := hO.keep hbn; replace hb := bel_to (w := w) (by first | exact hb | exact hb.alloc hb.size _ | exact (hb.alloc hb.size _).alloc (Nat.le_trans hb.size (by simp)) _ | exact hb.setCell (by simp [hb.size]) _) hbn; clear hbn))
        go_ret
        exact ⟨_, rfl, by rw [HN.out (HF.out hst)]; exact hO, hb⟩
      · go_wp2_with (first | (go_at_call 41; refine Calls.mono (Ans.eqb (c_specIsAttributes _ _ _) hst) ?_; rintro e w1 ⟨rfl, hbn⟩; replace hO := hO.keep hbn; replace hb := bel_to (w := w) (by first | exact hb | exact hb.alloc hb.size _ | exact (hb.alloc hb.size _).alloc (Nat.le_trans hb.size (by simp)) _ | exact hb.setCell (by simp [hb.size]) _) hbn; clear hbn))
        go_roundw
        case rel => exact ⟨k + 1, by go_num, by omega, by rw [HS.out, HA.out, hst]; rfl, hO, hb⟩
        case measure => simp [intOf]; omega
    · have hkk : k = L.length := by omega
      have hall : L.all (isAttr N) = true := by have := HA.out; rw [hkk, List.take_length] at this; exact this
      have HM : Hid (depsAF N L = colsF (agOk L) (partsF N) N) := HT0.out hall
      have HLS : Hid (∀ y ∈ L, St y) := fun y hy => (isAttr_st (List.all_eq_true.1 hall y hy)).1
      have hpl := partsF_len N
      have HPS : Hid (∀ x ∈ partsF N, St x) := fun x hx => by
        have h := (partsF_mem (n := N) (by omega) (by omega)).1 hx
        have h2 := (pow_wrap (n := (N : Int)) (by omega) (by omega)).2.1
        exact ⟨h.1, by omega⟩
      clear hkk hall HA
      go_wp2_with fail
      have old := hO
      refine (c_specPartsBySize (N : Int) _).mono ?_
      rintro e w2 ⟨v2, rfl, hP, hbn⟩
      have ap_PO := (apart_old old hP).symm
      replace hO := hO.keep hbn
      replace hP := hP.based hb.size
      replace hb := bel_to hb hbn
      clear old hbn
      have HGS : Hid (∀ k : Nat, colsF (agOk L) (partsF N) (k + 1) = colsF (agOk L) (partsF N) k ++ colF (agOk L) (partsF N) k) := fun k => colsF_succ _ _ _
      have HCL : Hid (∀ k : Nat, (colsF (agOk L) (partsF N) k).length ≤ 32 * k) := fun k => Nat.le_trans (colsF_len _ _ k) (Nat.mul_le_mul_right _ hpl)
      generalize partsF N = P at *
      obtain ⟨o1, c1, rfl⟩ := hP.shape
      have hPr : P.length ≤ Room := by unfold Room; omega
      go_wp2
      go_loopw [5, 8] (fun v i wr => ∃ r : Nat, i = .int .i64 r ∧ r ≤ N ∧ OwnD wr w.heap.size v (colsF (agOk L) P r) ∧ OwnI wr w.heap.size (.slice o1 P.length c1) P ∧ Apart (.slice o1 P.length c1) v ∧ Below w.heap.size w wr) (fun _ i _ => N - (intOf i).toNat)
      case atStart => exact ⟨0, rfl, Nat.zero_le _, by simpa [colsF] using hO, hP, ap_PO, hb⟩
      case round =>
        clear hO hP ap_PO hb
        obtain ⟨r, rfl, hr, hO, hP, ap_PO, hb⟩ := hrel
        have hcl := HCL.out r
        by_cases hrt : r < N
        · have HC : Hid (colsF (agOk L) P (r + 1) = colsF (agOk L) P r ++ colF (agOk L) P r) := HGS.out r
          have HCV : Hid (∀ (T : List Int) (x : Int), (∀ y ∈ T, St y) → St x → covF (colsF (agOk L) P r ++ T.map fun y => (y, (r : Int))) x r = anyIns T x) := fun T x h1 h2 => cov_out h1 h2
          generalize colsF (agOk L) P r = A at *
          go_wp2
          go_loopw [5, 9] (fun v i wr => ∃ k : Nat, i = .int .i64 k ∧ k ≤ P.length ∧ OwnD wr w.heap.size v (A ++ colF (agOk L) (P.take k) r) ∧ OwnI wr w.heap.size (.slice o1 P.length c1) P ∧ Apart (.slice o1 P.length c1) v ∧ Below w.heap.size w wr) (fun _ i _ => P.length - (intOf i).toNat)
          case atStart => exact ⟨0, rfl, Nat.zero_le _, by simpa [colF, takenF] using hO, hP, ap_PO, hb⟩
          case round =>
            clear hO hP ap_PO hb
            obtain ⟨k, rfl, hk, hO, hP, ap_PO, hb⟩ := hrel
            by_cases hlk : k < P.length
            · obtain ⟨b2, off2, rfl, hbs2, hca⟩ := (hP.ints rfl hPr).at_ (by omega)
              have hc2 := hca k hlk
              have hst : Hid (St (nth P k)) := HPS.out _ (List.mem_iff_getElem?.2 ⟨k, nth_eq hlk⟩)
              have hTs : Hid (∀ y ∈ takenF (agOk L) r (P.take k), St y) := fun y hy => HPS.out y (taken_sub _ _ _ k hk y hy)
              have hOl : (A ++ colF (agOk L) (P.take k) r).length ≤ 300 := by
                have h := colF_len (agOk L) (P.take k) r
                rw [List.length_take] at h
                rw [List.length_append]
                omega
              have HOs : Hid (A ++ colF (agOk L) (P.take (k + 1)) r = A ++ (stepM (agOk L) r (takenF (agOk L) r (P.take k)) (nth P k)).map fun x => (x, (r : Int))) := by
                show A ++ colF (agOk L) (P.take (k + 1)) r = A ++ (stepM (agOk L) r (takenF (agOk L) r (P.take k)) (nth P k)).map fun x => (x, (r : Int))
                unfold colF; rw [taken_succ _ _ hlk]
              have HOk : Hid (A ++ colF (agOk L) (P.take k) r = A ++ (takenF (agOk L) r (P.take k)).map fun x => (x, (r : Int))) := rfl
              have HCX : Hid (covF (A ++ colF (agOk L) (P.take k) r) (nth P k) r = anyIns (takenF (agOk L) r (P.take k)) (nth P k)) := by
                show covF (A ++ colF (agOk L) (P.take k) r) (nth P k) r = _
                rw [HOk.out]; exact HCV.out _ _ hTs.out hst.out
              clear hca
              generalize nth P k = x at *
              generalize takenF (agOk L) r (P.take k) = T at *
              generalize A ++ colF (agOk L) (P.take k) r = C at *
              have hCr : C.length ≤ Room := by unfold Room; omega
              have e0 := box_at wr #[.int .i64 x, .int .i64 (r : Int)] 54 0 _ rfl
              have e1 := box_at wr #[.int .i64 x, .int .i64 (r : Int)] 54 1 _ rfl
              obtain ⟨oC, cC, rfl⟩ := hO.shape
              have hcop : Hid (Co (r : Int)) := ⟨by omega, by omega⟩
              have HF0 : Hid (stepM (agOk L) r T x = if (!hasc x r && !covF C x r) && agOk L x r then T ++ [x] else T) := by
                show stepM (agOk L) r T x = _
                unfold stepM; rw [HCX.out]
              replace hO := World.ownsRow.alloc hO (.cells #[.int .i64 x, .int .i64 (r : Int)] 54)
              replace hP := World.ownsRow.alloc hP (.cells #[.int .i64 x, .int .i64 (r : Int)] 54)
              have hB := hb.alloc hb.size (.cells #[.int .i64 x, .int .i64 (r : Int)] 54)
              have hC0 : DepsAt (wr.alloc (.cells #[.int .i64 x, .int .i64 (r : Int)] 54)) oC C := OwnD.deps hO rfl hCr
              have hc3 := cell_al hc2 (.cells #[.int .i64 x, .int .i64 (r : Int)] 54)
              cases h1 : hasc x (r : Int)
              case true =>
                have h1' : (bits BinOp.and .i64 (x / 2 ^ r) 1 == 0) = false := (hasn_eq hst.out hcop.out).trans (by rw [h1]; rfl)
                go_wp2_with fail
                go_loopw [11, 12] (fun f i wi => ∃ j : Nat, f = .bool false ∧ i = .int .i64 j ∧ j ≤ L.length ∧ OwnD wi w.heap.size (.slice oC C.length cC) C ∧ OwnI wi w.heap.size (.slice (some ⟨b2, off2, none⟩) P.length c1) P ∧ Apart (.slice (some ⟨b2, off2, none⟩) P.length c1) (.slice oC C.length cC) ∧ wi.cell? (⟨b2, off2 + k, none⟩) = some (.int .i64 x) ∧ wi.cell? ⟨wr.heap.size, 0, none⟩ = some (.int .i64 x) ∧ wi.cell? ⟨wr.heap.size, 1, none⟩ = some (.int .i64 (r : Int)) ∧ Below w.heap.size w wi) (fun _ i _ => L.length - (intOf i).toNat)
                case atStart => exact ⟨0, rfl, rfl, Nat.zero_le _, hO, hP, ap_PO, hc3, e0, e1, hB⟩
                case round =>
                  clear hO hP ap_PO hc3 e0 e1 hB
                  obtain ⟨j, hf, rfl, hj1, hO, hP, ap_PO, hc3, e0, e1, hb⟩ := hrel
                  by_cases hlj : j < L.length
                  · obtain ⟨bL, offL, rfl, hbsL, hcL⟩ := hL.at_ (by omega)
                    have hcj := cell_keep (hcL j hlj) hb
                    clear hcL
                    subst hf
                    go_wp2
                    (refine wp_region_after (by kernel_rfl) (by kernel_rfl) ?_; have q_e0 := fun (x : After _) => cell_keep e0 x.bel; have q_e1 := fun (x : After _) => cell_keep e1 x.bel; have q_hc3 := fun (x : After _) => cell_keep hc3 x.bel; have q_hcj := fun (x : After _) => cell_keep hcj x.bel; (repeat (go_big_quiet_step (fail))); clear q_e0; clear q_e1; clear q_hc3; clear q_hcj; refine wpQuiet_nil ?_; rintro _ ⟨⟨w1, hbn⟩, rfl⟩; (try simp only [After.w]); replace e0 := cell_keep e0 hbn; replace e1 := cell_keep e1 hbn; replace hc3 := cell_keep hc3 hbn; replace hcj := cell_keep hcj hbn; replace hO := OwnD.keep hO hbn; replace hP := OwnI.keep hP hbn; replace hb := bel_to (w := w) (by first | exact hb | exact hb.alloc hb.size _ | exact (hb.alloc hb.size _).alloc (Nat.le_trans hb.size (by simp)) _ | exact hb.setCell (by simp [hb.size]) _) hbn; clear hbn)
                    go_wp2
                    go_roundw
                    case rel => exact ⟨j + 1, rfl, by go_num, by omega, hO, hP, ap_PO, hc3, e0, e1, hb⟩
                    case measure => simp [intOf]; omega
                  · subst hf
                    go_wp2
                    go_roundw
                    case rel => exact ⟨k + 1, by go_num, by omega, by rw [HOs.out, HF0.out, h1]; simpa [HOk.out] using hO, hP, ap_PO, hb⟩
                    case measure => simp [intOf]; omega
              have h1' : (bits BinOp.and .i64 (x / 2 ^ r) 1 == 0) = true := (hasn_eq hst.out hcop.out).trans (by rw [h1]; rfl)
              cases h2 : covF C x (r : Int)
              case true =>
                go_wp2_with fail
                refine Calls.mono (Ans.eqb (b' := true) (c_l8Covered _ _ C x r _ hC0) h2) ?_
                rintro e w3 ⟨rfl, hbn⟩
                replace e0 := cell_keep e0 hbn
                replace e1 := cell_keep e1 hbn
                replace hc3 := cell_keep hc3 hbn
                replace hO := OwnD.keep hO hbn
                replace hP := OwnI.keep hP hbn
                replace hB := bel_to hB hbn
                clear hbn hC0
                go_wp2
                go_loopw [11, 12] (fun f i wi => ∃ j : Nat, f = .bool false ∧ i = .int .i64 j ∧ j ≤ L.length ∧ OwnD wi w.heap.size (.slice oC C.length cC) C ∧ OwnI wi w.heap.size (.slice (some ⟨b2, off2, none⟩) P.length c1) P ∧ Apart (.slice (some ⟨b2, off2, none⟩) P.length c1) (.slice oC C.length cC) ∧ wi.cell? (⟨b2, off2 + k, none⟩) = some (.int .i64 x) ∧ wi.cell? ⟨wr.heap.size, 0, none⟩ = some (.int .i64 x) ∧ wi.cell? ⟨wr.heap.size, 1, none⟩ = some (.int .i64 (r : Int)) ∧ Below w.heap.size w wi) (fun _ i _ => L.length - (intOf i).toNat)
                case atStart => exact ⟨0, rfl, rfl, Nat.zero_le _, hO, hP, ap_PO, hc3, e0, e1, hB⟩
                case round =>
                  clear hO hP ap_PO hc3 e0 e1 hB
                  obtain ⟨j, hf, rfl, hj1, hO, hP, ap_PO, hc3, e0, e1, hb⟩ := hrel
                  by_cases hlj : j < L.length
                  · obtain ⟨bL, offL, rfl, hbsL, hcL⟩ := hL.at_ (by omega)
                    have hcj := cell_keep (hcL j hlj) hb
                    clear hcL
                    subst hf
                    go_wp2
                    (refine wp_region_after (by kernel_rfl) (by kernel_rfl) ?_; have q_e0 := fun (x : After _) => cell_keep e0 x.bel; have q_e1 := fun (x : After _) => cell_keep e1 x.bel; have q_hc3 := fun (x : After _) => cell_keep hc3 x.bel; have q_hcj := fun (x : After _) => cell_keep hcj x.bel; (repeat (go_big_quiet_step (fail))); clear q_e0; clear q_e1; clear q_hc3; clear q_hcj; refine wpQuiet_nil ?_; rintro _ ⟨⟨w1, hbn⟩, rfl⟩; (try simp only [After.w]); replace e0 := cell_keep e0 hbn; replace e1 := cell_keep e1 hbn; replace hc3 := cell_keep hc3 hbn; replace hcj := cell_keep hcj hbn; replace hO := OwnD.keep hO hbn; replace hP := OwnI.keep hP hbn; replace hb := bel_to (w := w) (by first | exact hb | exact hb.alloc hb.size _ | exact (hb.alloc hb.size _).alloc (Nat.le_trans hb.size (by simp)) _ | exact hb.setCell (by simp [hb.size]) _) hbn; clear hbn)
                    go_wp2
                    go_roundw
                    case rel => exact ⟨j + 1, rfl, by go_num, by omega, hO, hP, ap_PO, hc3, e0, e1, hb⟩
                    case measure => simp [intOf]; omega
                  · subst hf
                    go_wp2
                    go_roundw
                    case rel => exact ⟨k + 1, by go_num, by omega, by rw [HOs.out, HF0.out, h1, h2]; simpa [HOk.out] using hO, hP, ap_PO, hb⟩
                    case measure => simp [intOf]; omega
              case false =>
                go_wp2_with fail
                refine Calls.mono (Ans.eqb (b' := false) (c_l8Covered _ _ C x r _ hC0) h2) ?_
                rintro e w3 ⟨rfl, hbn⟩
                replace e0 := cell_keep e0 hbn
                replace e1 := cell_keep e1 hbn
                replace hc3 := cell_keep hc3 hbn
                replace hO := OwnD.keep hO hbn
                replace hP := OwnI.keep hP hbn
                replace hB := bel_to hB hbn
                clear hbn hC0
                go_wp2
                go_loopw [11, 12] (fun f i wi => ∃ j : Nat, f = .bool ((L.take j).all fun y => !(ins x y && !hasc y r)) ∧ i = .int .i64 j ∧ j ≤ L.length ∧ OwnD wi w.heap.size (.slice oC C.length cC) C ∧ OwnI wi w.heap.size (.slice (some ⟨b2, off2, none⟩) P.length c1) P ∧ Apart (.slice (some ⟨b2, off2, none⟩) P.length c1) (.slice oC C.length cC) ∧ wi.cell? (⟨b2, off2 + k, none⟩) = some (.int .i64 x) ∧ wi.cell? ⟨wr.heap.size, 0, none⟩ = some (.int .i64 x) ∧ wi.cell? ⟨wr.heap.size, 1, none⟩ = some (.int .i64 (r : Int)) ∧ Below w.heap.size w wi) (fun _ i _ => L.length - (intOf i).toNat)
                case atStart => exact ⟨0, by simp, rfl, Nat.zero_le _, hO, hP, ap_PO, hc3, e0, e1, hB⟩
                case round =>
                  clear hO hP ap_PO hc3 e0 e1 hB
                  obtain ⟨j, hf, rfl, hj1, hO, hP, ap_PO, hc3, e0, e1, hb⟩ := hrel
                  by_cases hlj : j < L.length
                  · obtain ⟨bL, offL, rfl, hbsL, hcL⟩ := hL.at_ (by omega)
                    have hcj := cell_keep (hcL j hlj) hb
                    clear hcL
                    have HS : Hid ((L.take (j + 1)).all (fun y => !(ins x y && !hasc y r)) = ((L.take j).all (fun y => !(ins x y && !hasc y r)) && !(ins x (nth L j) && !hasc (nth L j) r))) := all_take_succ (fun y => !(ins x y && !hasc y r)) L j hlj
                    have hsy : Hid (St (nth L j)) := HLS.out _ (List.mem_iff_getElem?.2 ⟨j, nth_eq hlj⟩)
                    generalize nth L j = y at *
                    generalize (L.take j).all (fun y => !(ins x y && !hasc y r)) = f0 at *
                    subst hf
                    cases f0
                    · skip
                      go_wp2
                      (refine wp_region_after (by kernel_rfl) (by kernel_rfl) ?_; have q_e0 := fun (x : After _) => cell_keep e0 x.bel; have q_e1 := fun (x : After _) => cell_keep e1 x.bel; have q_hc3 := fun (x : After _) => cell_keep hc3 x.bel; have q_hcj := fun (x : After _) => cell_keep hcj x.bel; (repeat (go_big_quiet_step (fail))); clear q_e0; clear q_e1; clear q_hc3; clear q_hcj; refine wpQuiet_nil ?_; rintro _ ⟨⟨w1, hbn⟩, rfl⟩; (try simp only [After.w]); replace e0 := cell_keep e0 hbn; replace e1 := cell_keep e1 hbn; replace hc3 := cell_keep hc3 hbn; replace hcj := cell_keep hcj hbn; replace hO := OwnD.keep hO hbn; replace hP := OwnI.keep hP hbn; replace hb := bel_to (w := w) (by first | exact hb | exact hb.alloc hb.size _ | exact (hb.alloc hb.size _).alloc (Nat.le_trans hb.size (by simp)) _ | exact hb.setCell (by simp [hb.size]) _) hbn; clear hbn)
                      go_wp2
                      go_roundw
                      case rel => exact ⟨j + 1, by rw [HS.out]; rfl, by go_num, by omega, hO, hP, ap_PO, hc3, e0, e1, hb⟩
                      case measure => simp [intOf]; omega
                    · cases h4 : ins x y
                      · have h4' : (bits BinOp.and .i64 y x == x) = false := (and_swap hsy.out hst.out).trans h4
                        have h4'' : (bits BinOp.and .i64 y x != x) = true := by simp [bne, h4']
                        go_wp2
                        (refine wp_region_after (by kernel_rfl) (by kernel_rfl) ?_; have q_e0 := fun (x : After _) => cell_keep e0 x.bel; have q_e1 := fun (x : After _) => cell_keep e1 x.bel; have q_hc3 := fun (x : After _) => cell_keep hc3 x.bel; have q_hcj := fun (x : After _) => cell_keep hcj x.bel; (repeat (go_big_quiet_step (fail))); clear q_e0; clear q_e1; clear q_hc3; clear q_hcj; refine wpQuiet_nil ?_; rintro _ ⟨⟨w1, hbn⟩, rfl⟩; (try simp only [After.w]); replace e0 := cell_keep e0 hbn; replace e1 := cell_keep e1 hbn; replace hc3 := cell_keep hc3 hbn; replace hcj := cell_keep hcj hbn; replace hO := OwnD.keep hO hbn; replace hP := OwnI.keep hP hbn; replace hb := bel_to (w := w) (by first | exact hb | exact hb.alloc hb.size _ | exact (hb.alloc hb.size _).alloc (Nat.le_trans hb.size (by simp)) _ | exact hb.setCell (by simp [hb.size]) _) hbn; clear hbn)
                        go_wp2
                        go_roundw
                        case rel => exact ⟨j + 1, by rw [HS.out, h4]; rfl, by go_num, by omega, hO, hP, ap_PO, hc3, e0, e1, hb⟩
                        case measure => simp [intOf]; omega
                      · have h4' : (bits BinOp.and .i64 y x == x) = true := (and_swap hsy.out hst.out).trans h4
                        have h4'' : (bits BinOp.and .i64 y x != x) = false := by simp [bne, h4']
                        cases h5 : hasc y (r : Int)
                        · have h5' : (bits BinOp.and .i64 (y / 2 ^ r) 1 == 1) = false := h5
                          go_wp2
                          (refine wp_region_after (by kernel_rfl) (by kernel_rfl) ?_; have q_e0 := fun (x : After _) => cell_keep e0 x.bel; have q_e1 := fun (x : After _) => cell_keep e1 x.bel; have q_hc3 := fun (x : After _) => cell_keep hc3 x.bel; have q_hcj := fun (x : After _) => cell_keep hcj x.bel; (repeat (go_big_quiet_step (fail))); clear q_e0; clear q_e1; clear q_hc3; clear q_hcj; refine wpQuiet_nil ?_; rintro _ ⟨⟨w1, hbn⟩, rfl⟩; (try simp only [After.w]); replace e0 := cell_keep e0 hbn; replace e1 := cell_keep e1 hbn; replace hc3 := cell_keep hc3 hbn; replace hcj := cell_keep hcj hbn; replace hO := OwnD.keep hO hbn; replace hP := OwnI.keep hP hbn; replace hb := bel_to (w := w) (by first | exact hb | exact hb.alloc hb.size _ | exact (hb.alloc hb.size _).alloc (Nat.le_trans hb.size (by simp)) _ | exact hb.setCell (by simp [hb.size]) _) hbn; clear hbn)
                          go_wp2
                          go_roundw
                          case rel => exact ⟨j + 1, by rw [HS.out, h4, h5]; rfl, by go_num, by omega, hO, hP, ap_PO, hc3, e0, e1, hb⟩
                          case measure => simp [intOf]; omega
                        · have h5' : (bits BinOp.and .i64 (y / 2 ^ r) 1 == 1) = true := h5
                          go_wp2
                          (refine wp_region_after (by kernel_rfl) (by kernel_rfl) ?_; have q_e0 := fun (x : After _) => cell_keep e0 x.bel; have q_e1 := fun (x : After _) => cell_keep e1 x.bel; have q_hc3 := fun (x : After _) => cell_keep hc3 x.bel; have q_hcj := fun (x : After _) => cell_keep hcj x.bel; (repeat (go_big_quiet_step (fail))); clear q_e0; clear q_e1; clear q_hc3; clear q_hcj; refine wpQuiet_nil ?_; rintro _ ⟨⟨w1, hbn⟩, rfl⟩; (try simp only [After.w]); replace e0 := cell_keep e0 hbn; replace e1 := cell_keep e1 hbn; replace hc3 := cell_keep hc3 hbn; replace hcj := cell_keep hcj hbn; replace hO := OwnD.keep hO hbn; replace hP := OwnI.keep hP hbn; replace hb := bel_to (w := w) (by first | exact hb | exact hb.alloc hb.size _ | exact (hb.alloc hb.size _).alloc (Nat.le_trans hb.size (by simp)) _ | exact hb.setCell (by simp [hb.size]) _) hbn; clear hbn)
                          go_wp2
                          go_roundw
                          case rel => exact ⟨j + 1, by rw [HS.out, h4, h5]; rfl, by go_num, by omega, hO, hP, ap_PO, hc3, e0, e1, hb⟩
                          case measure => simp [intOf]; omega
                  · have hjj : j = L.length := by omega
                    have HJ : Hid ((L.take j).all (fun y => !(ins x y && !hasc y r)) = agOk L x r) := by show (L.take j).all _ = L.all _; rw [hjj, List.take_length]
                    clear hjj
                    rw [HJ.out] at hf
                    clear HJ
                    cases h6 : agOk L x r
                    · rw [h6] at hf
                      subst hf
                      go_wp2
                      go_roundw
                      case rel => exact ⟨k + 1, by go_num, by omega, by rw [HOs.out, HF0.out, h1, h2, h6]; simpa [HOk.out] using hO, hP, ap_PO, hb⟩
                      case measure => simp [intOf]; omega
                    · rw [h6] at hf
                      subst hf
                      clear hc2 hc3
                      go_wp2_with (first | (at_builtin; refine wpList_append_fresh rfl _ _ 23 rfl w.heap.size 54 j0 (.agg #[.int .i64 0, .int .i64 0]) 2 16 Try.underlying23 hj hy0 hy1 hy2 rfl (by decide) _ _ _ rfl (World.ownsRow.alloc hO _) _ 1 1 [.int .i64 x, .int .i64 (r : Int)] rfl rfl (World.news_of_block (cs := #[.int .i64 x, .int .i64 (r : Int)]) (t := 54) (fr := (0, 0)) (heap_alloc_new _ _)) (by intro u hu; simp at hu; rcases hu with rfl | rfl <;> rfl) (by unfold maxLen; omega) (by omega) (by have := hb.size; simp; omega) ?_; intro v' w4 hown hgrow hfr; replace hb := (hb.alloc hb.size _).grown hgrow (by have := hb.size; simp; omega) (fun g hg => (World.ownsRow.lt hO g hg).1); obtain ⟨hP, ap_PO⟩ := OwnI.past hP hgrow ap_PO hfr; replace hO := own_snocD hown; clear hown hgrow hfr) | fail)
                      go_roundw
                      case rel => exact ⟨k + 1, by go_num, by omega, by rw [HOs.out, HF0.out, h1, h2, h6]; simpa [HOk.out] using hO, hP, ap_PO, hb⟩
                      case measure => simp [intOf]; omega
            · have hkk2 : k = P.length := by omega
              have HE : Hid (colsF (agOk L) P (r + 1) = A ++ colF (agOk L) (P.take k) r) := by
                show colsF (agOk L) P (r + 1) = A ++ colF (agOk L) (P.take k) r
                rw [HC.out, hkk2, List.take_length]
              clear hkk2
              go_wp2
              go_roundw
              case rel => exact ⟨r + 1, by go_num, by omega, by rw [HE.out]; exact hO, hP, ap_PO, hb⟩
              case measure => simp [intOf]; omega
        · have hrr : r = N := by omega
          have HE : Hid (colsF (agOk L) P r = depsAF N L) := by show colsF (agOk L) P r = depsAF N L; rw [HM.out, hrr]
          clear hrr
          go_wp2
          go_ret
          exact ⟨_, rfl, by rw [← HE.out]; exact hO, hb⟩
end Go.Proofs.Ytaomdnibnnobiaa
