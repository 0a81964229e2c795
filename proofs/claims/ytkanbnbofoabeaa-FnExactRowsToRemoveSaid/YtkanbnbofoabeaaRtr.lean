/- How many rows have to be removed, of the program and of the reference. -/
import Derived.Test.YtkanbnbofoabeaaRtrP
import Derived.Test.YtkanbnbofoabeaaUniq
namespace Go.Proofs.Ytkanbnbofoabeaa
open Go.RowKit
set_option linter.unusedVariables false
set_option maxRecDepth 100000

theorem ask_attr {n : Int} {R : List (List Int)} {m l r : Int} (h : askF n R m l r = true) : ptnOk n R m l = true ∧ isTabF n R = true ∧ St l ∧ ∃ c : Nat, r = c ∧ (c : Int) < n ∧ c < 5 := by
  unfold askF at h
  simp only [Bool.and_eq_true] at h
  obtain ⟨⟨h1, h2⟩, h3⟩ := h
  have hd := h3
  unfold isDepF at hd
  simp only [Bool.and_eq_true, decide_eq_true_eq] at hd
  obtain ⟨⟨⟨q1, q2⟩, q3⟩, q4⟩ := hd
  obtain ⟨_, h5, _, _⟩ := isTab_of h1
  exact ⟨by unfold ptnOk; rw [h1, h2, q2]; rfl, h1, (dep_of h3 h5).1, r.toNat, by omega, by omega, by omega⟩
structure Cls (P : List (List Int)) (N : Nat) : Prop where
  len : P.length ≤ 40
  rows : ∀ j, j < P.length → (row P j).length ≤ 41
  low : ∀ j, j < P.length → ∀ k, k < (row P j).length → ∃ e : Nat, nth (row P j) k = e ∧ e < N
  up : ∀ j, j < P.length → Up (row P j)
theorem ptn_cls {q : Nat → Nat → Bool} {N : Nat} (hN : N ≤ 40) : Cls (ptnQ q N N) N := by
  have hm : ∀ j, j < (ptnQ q N N).length → ∃ i, i < N ∧ row (ptnQ q N N) j = clsTo q i N := fun j hj => by
    obtain ⟨i, h1, _, h2⟩ := ptn_mem.1 (row_mem hj)
    exact ⟨i, h1, h2⟩
  refine ⟨Nat.le_trans (ptn_len q N N) hN, fun j hj => ?_, fun j hj k hk => ?_, fun j hj => ?_⟩
  · have := ptn_row hj; omega
  · obtain ⟨i, hi, e⟩ := hm j hj
    rw [e] at hk ⊢
    exact cls_low hi _ (List.mem_iff_getElem?.2 ⟨k, nth_eq hk⟩)
  · obtain ⟨i, hi, e⟩ := hm j hj
    rw [e]; exact cls_up
set_option maxHeartbeats 3200000 in
theorem c_RowsToRemove (n : Int) (oa) (cap : Nat) (R : List (List Int)) (m l r : Int) (w : World) (hR : RowsAt w oa R) :
    Ans Try.prog 38 #[.agg #[.int .i64 n, .slice oa R.length cap], .int .i64 m, .agg #[.int .i64 l, .int .i64 r]] w (.int .i64 (rrF n R m l r)) := by
  unfold Ans
  have hb := bel2 w (.cells #[.int .i64 n, .slice oa R.length cap] 28) (.cells #[.int .i64 l, .int .i64 r] 33)
  have a0 := two_a w #[.int .i64 n, .slice oa R.length cap] 28 #[.int .i64 l, .int .i64 r] 33 0 _ rfl
  have a1 := two_a w #[.int .i64 n, .slice oa R.length cap] 28 #[.int .i64 l, .int .i64 r] 33 1 _ rfl
  have d0 := two_b w #[.int .i64 n, .slice oa R.length cap] 28 #[.int .i64 l, .int .i64 r] 33 0 _ rfl
  have d1 := two_b w #[.int .i64 n, .slice oa R.length cap] 28 #[.int .i64 l, .int .i64 r] 33 1 _ rfl
  cases hask : askF n R m l r
  · have HM : Hid (rrF n R m l r = -1) := by show rrF n R m l r = -1; unfold rrF; rw [hask]; rfl
    go_enter Try.func38, Try.ntmps38
    go_wp2_with (first | (go_at_call 91; refine Calls.mono (Ans.eqb (c_asked _ _ _ _ _ _ _ _ (hR.keep hb)) hask) ?_; rintro e w1 ⟨rfl, hbn⟩; replace a0 := cell_keep a0 hbn; replace a1 := cell_keep a1 hbn; replace d0 := cell_keep d0 hbn; replace d1 := cell_keep d1 hbn; replace hb := bel_to (w := w) (by first | exact hb | exact hb.alloc hb.size _ | exact (hb.alloc hb.size _).alloc (Nat.le_trans hb.size (by simp)) _ | exact hb.setCell (by simp [hb.size]) _) hbn; clear hbn))
    go_ret
    exact ⟨ret_int HM.out.symm, hb⟩
  obtain ⟨hok, ht, hst, c, rfl, hcn, hc5⟩ := ask_attr hask
  obtain ⟨hn1, hn5, hr40, hlen⟩ := isTab_of ht
  have HM : Hid (rrF n R m l c = sumTo R m c (ptnF n R m l) (ptnF n R m l).length) := by show rrF n R m l c = _; rw [ptnF_ok hok]; unfold rrF; rw [if_pos hask]
  have HC : Hid (Cls (ptnF n R m l) R.length) := by show Cls (ptnF n R m l) R.length; rw [ptnF_ok hok]; exact ptn_cls hr40
  have HL : Hid (∀ k, k < R.length → c < (row R k).length) := fun k hk => by have := hlen k hk; omega
  clear hlen ht hok hst hn1 hn5 hcn
  go_enter Try.func38, Try.ntmps38
  go_wp2_with (first | (go_at_call 91; refine Calls.mono (Ans.eqb (c_asked _ _ _ _ _ _ _ _ (hR.keep hb)) hask) ?_; rintro e w1 ⟨rfl, hbn⟩; replace a0 := cell_keep a0 hbn; replace a1 := cell_keep a1 hbn; replace d0 := cell_keep d0 hbn; replace d1 := cell_keep d1 hbn; replace hb := bel_to (w := w) (by first | exact hb | exact hb.alloc hb.size _ | exact (hb.alloc hb.size _).alloc (Nat.le_trans hb.size (by simp)) _ | exact hb.setCell (by simp [hb.size]) _) hbn; clear hbn))
  refine (c_PartitionOf n _ _ R m l _ (hR.keep hb)).mono ?_
  rintro e w2 ⟨v2, xs, rfl, hO, hbn⟩
  obtain ⟨o2, c2, rfl⟩ := hO.shape
  have hP := hO.read (Nat.le_trans HC.out.len (by unfold Room; omega)) (fun j hj => Nat.le_trans (HC.out.rows j hj) (by unfold Room; omega))
  replace a0 := cell_keep a0 hbn
  replace a1 := cell_keep a1 hbn
  replace d0 := cell_keep d0 hbn
  replace d1 := cell_keep d1 hbn
  replace hb := bel_to hb hbn
  clear hbn hO
  generalize ptnF n R m l = P at *
  have hPl := HC.out.len
  go_wp2
  go_loopw [7, 27] (fun s i wr => ∃ j : Nat, i = .int .i64 j ∧ j ≤ P.length ∧ s = .int .i64 (sumTo R m c P j) ∧ wr.cell? ⟨w.heap.size, 1, none⟩ = some (.slice oa R.length cap) ∧ wr.cell? ⟨w.heap.size + 1, 1, none⟩ = some (.int .i64 c) ∧ RowsAt wr o2 P ∧ Below w.heap.size w wr) (fun _ i _ => P.length - (intOf i).toNat)
  case atStart => exact ⟨0, rfl, Nat.zero_le _, rfl, a1, d1, hP, hb⟩
  case round =>
    clear a0 a1 d0 d1 hP hb
    obtain ⟨j, rfl, hj, rfl, a1, d1, hP, hb⟩ := hrel
    by_cases hlt : j < P.length
    · have HS : Hid (sumTo R m c P (j + 1) = sumTo R m c P j + ((row P j).length - mostTo R m c (row P j) (row P j).length)) := sum_succ ..
      have hsb := sum_bd (R := R) (m := m) (r := (c : Int)) HC.out.rows j hj
      have hrl := HC.out.rows j hlt
      have HE : Hid (∀ k, k < (row P j).length → ∃ e : Nat, nth (row P j) k = e ∧ e < R.length) := HC.out.low j hlt
      obtain ⟨b3, off3, rfl, hbs3, hcc⟩ := hP.at_ (by omega)
      obtain ⟨o4, c4, hc4, hC⟩ := hcc j hlt
      clear hcc
      generalize sumTo R m c P j = S at *
      generalize row P j = C at *
      have hs1 : -40 ≤ S := by omega
      have hs2 : S ≤ 1640 := by omega
      clear hsb
      go_wp2
      go_loopw [10, 33] (fun s i wr => ∃ k : Nat, i = .int .i64 k ∧ k ≤ C.length ∧ s = .int .i64 (mostTo R m c C k) ∧ wr.cell? ⟨w.heap.size, 1, none⟩ = some (.slice oa R.length cap) ∧ wr.cell? ⟨w.heap.size + 1, 1, none⟩ = some (.int .i64 c) ∧ RowsAt wr (some ⟨b3, off3, none⟩) P ∧ IntsAt wr o4 C ∧ Below w.heap.size w wr) (fun _ i _ => C.length - (intOf i).toNat)
      case atStart => exact ⟨0, rfl, Nat.zero_le _, rfl, a1, d1, hP, hC, hb⟩
      case round =>
        clear a1 d1 hP hC hb hc4
        obtain ⟨k, rfl, hk, rfl, a1, d1, hP, hC, hb⟩ := hrel
        have hmb := most_bd R m c C k
        by_cases hlk : k < C.length
        · have HMS : Hid (mostTo R m c C (k + 1) = max (mostTo R m c C k) (1 + (cntN (pairB R m c C k) C.length : Int))) := most_succ ..
          obtain ⟨b5, off5, rfl, hbs5, hcc⟩ := hC.at_ (by omega)
          have hc5' := hcc k hlk
          obtain ⟨e, he, heR⟩ := HE.out k hlk
          have HPB : Hid (∀ t, pairB R m c C k t = ((nth C k != nth C t) && eqCellF m (cellF R (nth C k) c) (cellF R (nth C t) c))) := fun t => rfl
          have HEK : Hid (nth C k = (e : Int)) := he
          rw [he] at hc5'
          obtain ⟨b6, off6, rfl, hbs6, hRR⟩ := hR.at_ (by omega)
          obtain ⟨o7, c7, h7, r7⟩ := hRR e heR
          have hl7 := HL.out e heR
          obtain ⟨b8, off8, rfl, hbs8, hr8⟩ := r7.at_ (by omega)
          have h8 := hr8 c hl7
          have HA : Hid (cellF R (nth C k) c = nth (row R e) c) := by show cellF R (nth C k) c = _; rw [he]; unfold cellF; simp
          clear hcc he hr8 r7
          generalize mostTo R m c C k = M at *
          go_wp2
          go_loopw [13, 39] (fun s i wr => ∃ t : Nat, i = .int .i64 t ∧ t ≤ C.length ∧ s = .int .i64 (1 + (cntN (pairB R m c C k) t : Int)) ∧ wr.cell? ⟨w.heap.size, 1, none⟩ = some (.slice (some ⟨b6, off6, none⟩) R.length cap) ∧ wr.cell? ⟨w.heap.size + 1, 1, none⟩ = some (.int .i64 c) ∧ RowsAt wr (some ⟨b3, off3, none⟩) P ∧ IntsAt wr (some ⟨b5, off5, none⟩) C ∧ Below w.heap.size w wr) (fun _ i _ => C.length - (intOf i).toNat)
          case atStart => exact ⟨0, rfl, Nat.zero_le _, rfl, a1, d1, hP, hC, hb⟩
          case round =>
            clear a1 d1 hP hC hb hc5'
            obtain ⟨t, rfl, ht', rfl, a1, d1, hP, hC, hb⟩ := hrel
            have hcl := cnt_le (pairB R m c C k) t
            by_cases hlT : t < C.length
            · obtain ⟨b9, off9, eq9, hbs9, hcc⟩ := hC.at_ (by omega)
              simp only [Option.some.injEq, Addr.mk.injEq, and_true] at eq9
              obtain ⟨rfl, rfl⟩ := eq9
              have hc9 := hcc t hlT
              obtain ⟨f, hf, hfR⟩ := HE.out t hlT
              have HCS : Hid (cntN (pairB R m c C k) (t + 1) = cntN (pairB R m c C k) t + if pairB R m c C k t then 1 else 0) := cnt_succ ..
              have HPT : Hid (pairB R m c C k t = (((e : Int) != (f : Int)) && eqCellF m (nth (row R e) c) (nth (row R f) c))) := by
                show pairB R m c C k t = _
                rw [HPB.out, HA.out, HEK.out, hf]; unfold cellF; simp
              rw [hf] at hc9
              obtain ⟨o10, c10, h10, r10⟩ := hRR f hfR
              have hl10 := HL.out f hfR
              obtain ⟨b11, off11, rfl, hbs11, hr11⟩ := r10.at_ (by omega)
              have h11 := hr11 c hl10
              have g7 := cell_keep h7 hb
              have g8 := cell_keep h8 hb
              have g10 := cell_keep h10 hb
              have g11 := cell_keep h11 hb
              clear hcc hf hr11 r10 h10 h11
              generalize nth (row R e) c = A at *
              generalize nth (row R f) c = B at *
              generalize cntN (pairB R m c C k) t = q at *
              cases hne : ((e : Int) != (f : Int))
              · have HPF : Hid (pairB R m c C k t = false) := by show pairB R m c C k t = false; rw [HPT.out, hne]; rfl
                go_wp2_with fail
                (refine wp_region_after (by kernel_rfl) (by kernel_rfl) ?_; have q_a1 := fun (x : After _) => cell_keep a1 x.bel; have q_d1 := fun (x : After _) => cell_keep d1 x.bel; (repeat (go_big_quiet_step (fail))); clear q_a1; clear q_d1; refine wpQuiet_nil ?_; rintro _ ⟨⟨w1, hbn⟩, rfl⟩; (try simp only [After.w]); replace a1 := cell_keep a1 hbn; replace d1 := cell_keep d1 hbn; replace hP := hP.keep hbn; replace hC := hC.keep hbn; replace hb := bel_to (w := w) (by first | exact hb | exact hb.alloc hb.size _ | exact (hb.alloc hb.size _).alloc (Nat.le_trans hb.size (by simp)) _ | exact hb.setCell (by simp [hb.size]) _) hbn; clear hbn)
                go_wp2
                go_roundw
                case rel => exact ⟨t + 1, by go_num, by omega, by rw [HCS.out, HPF.out]; simp, a1, d1, hP, hC, hb⟩
                case measure => simp [intOf]; omega
              · cases heq : eqCellF m A B
                · have HPF : Hid (pairB R m c C k t = false) := by show pairB R m c C k t = false; rw [HPT.out, hne, heq]; rfl
                  go_wp2_with fail
                  (refine wp_region_after (by kernel_rfl) (by kernel_rfl) ?_; have q_a1 := fun (x : After _) => cell_keep a1 x.bel; have q_d1 := fun (x : After _) => cell_keep d1 x.bel; have q_g7 := fun (x : After _) => cell_keep g7 x.bel; have q_g8 := fun (x : After _) => cell_keep g8 x.bel; have q_g10 := fun (x : After _) => cell_keep g10 x.bel; have q_g11 := fun (x : After _) => cell_keep g11 x.bel; (repeat (go_big_quiet_step ((first | (go_at_call 92; exact Ans.after (Ans.eqb (c_EqualCells _ _ _ _) heq)))))); clear q_a1; clear q_d1; clear q_g7; clear q_g8; clear q_g10; clear q_g11; refine wpQuiet_nil ?_; rintro _ ⟨⟨w1, hbn⟩, rfl⟩; (try simp only [After.w]); replace a1 := cell_keep a1 hbn; replace d1 := cell_keep d1 hbn; replace g7 := cell_keep g7 hbn; replace g8 := cell_keep g8 hbn; replace g10 := cell_keep g10 hbn; replace g11 := cell_keep g11 hbn; replace hP := hP.keep hbn; replace hC := hC.keep hbn; replace hb := bel_to (w := w) (by first | exact hb | exact hb.alloc hb.size _ | exact (hb.alloc hb.size _).alloc (Nat.le_trans hb.size (by simp)) _ | exact hb.setCell (by simp [hb.size]) _) hbn; clear hbn)
                  go_wp2
                  go_roundw
                  case rel => exact ⟨t + 1, by go_num, by omega, by rw [HCS.out, HPF.out]; simp, a1, d1, hP, hC, hb⟩
                  case measure => simp [intOf]; omega
                · have HPF : Hid (pairB R m c C k t = true) := by show pairB R m c C k t = true; rw [HPT.out, hne, heq]; rfl
                  go_wp2_with fail
                  (refine wp_region_after (by kernel_rfl) (by kernel_rfl) ?_; have q_a1 := fun (x : After _) => cell_keep a1 x.bel; have q_d1 := fun (x : After _) => cell_keep d1 x.bel; have q_g7 := fun (x : After _) => cell_keep g7 x.bel; have q_g8 := fun (x : After _) => cell_keep g8 x.bel; have q_g10 := fun (x : After _) => cell_keep g10 x.bel; have q_g11 := fun (x : After _) => cell_keep g11 x.bel; (repeat (go_big_quiet_step ((first | (go_at_call 92; exact Ans.after (Ans.eqb (c_EqualCells _ _ _ _) heq)))))); clear q_a1; clear q_d1; clear q_g7; clear q_g8; clear q_g10; clear q_g11; refine wpQuiet_nil ?_; rintro _ ⟨⟨w1, hbn⟩, rfl⟩; (try simp only [After.w]); replace a1 := cell_keep a1 hbn; replace d1 := cell_keep d1 hbn; replace g7 := cell_keep g7 hbn; replace g8 := cell_keep g8 hbn; replace g10 := cell_keep g10 hbn; replace g11 := cell_keep g11 hbn; replace hP := hP.keep hbn; replace hC := hC.keep hbn; replace hb := bel_to (w := w) (by first | exact hb | exact hb.alloc hb.size _ | exact (hb.alloc hb.size _).alloc (Nat.le_trans hb.size (by simp)) _ | exact hb.setCell (by simp [hb.size]) _) hbn; clear hbn)
                  go_wp2
                  go_roundw
                  case rel => exact ⟨t + 1, by go_num, by omega, by rw [HCS.out, HPF.out]; simp; omega, a1, d1, hP, hC, hb⟩
                  case measure => simp [intOf]; omega
            · have htt : t = C.length := by omega
              have HTT : Hid (t = C.length) := htt
              have HMS2 : Hid (mostTo R m c C (k + 1) = max M (1 + (cntN (pairB R m c C k) t : Int))) := by show mostTo R m c C (k + 1) = _; rw [HMS.out, htt]
              clear htt
              generalize cntN (pairB R m c C k) t = q at *
              have hm1 := hmb.1
              have hm2 := hmb.2
              go_wp2
              go_roundw
              case rel => exact ⟨k + 1, by go_num, by omega, by rw [HMS2.out], a1, d1, hP, hC, hb⟩
              case measure => simp [intOf]; omega
        · have hkk : k = C.length := by omega
          have HS2 : Hid (sumTo R m c P (j + 1) = S + (C.length - mostTo R m c C k)) := by show sumTo R m c P (j + 1) = _; rw [HS.out, hkk]
          clear hkk
          generalize mostTo R m c C k = M at *
          have hm1 := hmb.1
          have hm2 := hmb.2
          go_wp2
          go_roundw
          case rel => exact ⟨j + 1, by go_num, by omega, by rw [HS2.out], a1, d1, hP, hb⟩
          case measure => simp [intOf]; omega
    · have hjj : j = P.length := by omega
      have HJ : Hid (j = P.length) := hjj
      clear hjj
      go_wp2
      go_ret
      exact ⟨ret_int (by rw [HM.out, HJ.out]), hb⟩
set_option maxHeartbeats 3200000 in
theorem c_specRowsToRemove (n : Int) (oa) (cap : Nat) (R : List (List Int)) (m l r : Int) (w : World) (hR : RowsAt w oa R) :
    Ans Try.prog 37 #[.agg #[.int .i64 n, .slice oa R.length cap], .int .i64 m, .agg #[.int .i64 l, .int .i64 r]] w (.int .i64 (rrF n R m l r)) := by
  unfold Ans
  have hb := bel2 w (.cells #[.int .i64 n, .slice oa R.length cap] 28) (.cells #[.int .i64 l, .int .i64 r] 33)
  have a0 := two_a w #[.int .i64 n, .slice oa R.length cap] 28 #[.int .i64 l, .int .i64 r] 33 0 _ rfl
  have a1 := two_a w #[.int .i64 n, .slice oa R.length cap] 28 #[.int .i64 l, .int .i64 r] 33 1 _ rfl
  have d0 := two_b w #[.int .i64 n, .slice oa R.length cap] 28 #[.int .i64 l, .int .i64 r] 33 0 _ rfl
  have d1 := two_b w #[.int .i64 n, .slice oa R.length cap] 28 #[.int .i64 l, .int .i64 r] 33 1 _ rfl
  cases hf : (isTabF n R && modeF m)
  · have HM : Hid (rrF n R m l r = -1) := by show rrF n R m l r = -1; unfold rrF askF; rw [hf]; rfl
    go_enter Try.func37, Try.ntmps37
    go_wp2_with (first | (go_at_call 75; refine Calls.mono (Ans.eqb (c_l4Fine _ _ _ _ _ _ (hR.keep hb)) hf) ?_; rintro e w1 ⟨rfl, hbn⟩; replace a0 := cell_keep a0 hbn; replace a1 := cell_keep a1 hbn; replace d0 := cell_keep d0 hbn; replace d1 := cell_keep d1 hbn; replace hb := bel_to (w := w) (by first | exact hb | exact hb.alloc hb.size _ | exact (hb.alloc hb.size _).alloc (Nat.le_trans hb.size (by simp)) _ | exact hb.setCell (by simp [hb.size]) _) hbn; clear hbn))
    go_ret
    exact ⟨ret_int HM.out.symm, hb⟩
  cases hd : isDepF n l r
  · have HM : Hid (rrF n R m l r = -1) := by show rrF n R m l r = -1; unfold rrF askF; rw [hf, hd]; rfl
    go_enter Try.func37, Try.ntmps37
    go_wp2_with (first | (go_at_call 75; refine Calls.mono (Ans.eqb (c_l4Fine _ _ _ _ _ _ (hR.keep hb)) hf) ?_; rintro e w1 ⟨rfl, hbn⟩; replace a0 := cell_keep a0 hbn; replace a1 := cell_keep a1 hbn; replace d0 := cell_keep d0 hbn; replace d1 := cell_keep d1 hbn; replace hb := bel_to (w := w) (by first | exact hb | exact hb.alloc hb.size _ | exact (hb.alloc hb.size _).alloc (Nat.le_trans hb.size (by simp)) _ | exact hb.setCell (by simp [hb.size]) _) hbn; clear hbn) | (go_at_call 63; refine Calls.mono (Ans.eqb (c_specIsDep _ _ _ _) hd) ?_; rintro e w1 ⟨rfl, hbn⟩; replace a0 := cell_keep a0 hbn; replace a1 := cell_keep a1 hbn; replace d0 := cell_keep d0 hbn; replace d1 := cell_keep d1 hbn; replace hb := bel_to (w := w) (by first | exact hb | exact hb.alloc hb.size _ | exact (hb.alloc hb.size _).alloc (Nat.le_trans hb.size (by simp)) _ | exact hb.setCell (by simp [hb.size]) _) hbn; clear hbn))
    go_ret
    exact ⟨ret_int HM.out.symm, hb⟩
  have hask : askF n R m l r = true := by unfold askF; rw [hf, hd]; rfl
  obtain ⟨hok, ht, hst, c, hrc, hcn, hc5⟩ := ask_attr hask
  have hr0 : 0 ≤ r := by omega
  have hr5 : r < 5 := by omega
  obtain ⟨hn1, hn5, hr40, hlen⟩ := isTab_of ht
  have HM : Hid (rrF n R m l r = sumTo R m r (ptnQ (sameB R m l) R.length R.length) (ptnQ (sameB R m l) R.length R.length).length) := by show rrF n R m l r = _; unfold rrF; rw [if_pos hask]
  have HC : Hid (Cls (ptnQ (sameB R m l) R.length R.length) R.length) := ptn_cls hr40
  have HL : Hid (∀ k, k < R.length → (row R k).length ≤ 5 ∧ r.toNat < (row R k).length) := fun k hk => by have := hlen k hk; omega
  have HT : Hid (isTabF n R = true ∧ St l ∧ Co r) := ⟨ht, hst, ⟨hr0, hr5⟩⟩
  clear hlen ht hok hst hn1 hn5 hcn hask hrc hc5 c
  go_enter Try.func37, Try.ntmps37
  go_wp2_with (first | (go_at_call 75; refine Calls.mono (Ans.eqb (c_l4Fine _ _ _ _ _ _ (hR.keep hb)) hf) ?_; rintro e w1 ⟨rfl, hbn⟩; replace a0 := cell_keep a0 hbn; replace a1 := cell_keep a1 hbn; replace d0 := cell_keep d0 hbn; replace d1 := cell_keep d1 hbn; replace hb := bel_to (w := w) (by first | exact hb | exact hb.alloc hb.size _ | exact (hb.alloc hb.size _).alloc (Nat.le_trans hb.size (by simp)) _ | exact hb.setCell (by simp [hb.size]) _) hbn; clear hbn) | (go_at_call 63; refine Calls.mono (Ans.eqb (c_specIsDep _ _ _ _) hd) ?_; rintro e w1 ⟨rfl, hbn⟩; replace a0 := cell_keep a0 hbn; replace a1 := cell_keep a1 hbn; replace d0 := cell_keep d0 hbn; replace d1 := cell_keep d1 hbn; replace hb := bel_to (w := w) (by first | exact hb | exact hb.alloc hb.size _ | exact (hb.alloc hb.size _).alloc (Nat.le_trans hb.size (by simp)) _ | exact hb.setCell (by simp [hb.size]) _) hbn; clear hbn))
  refine (c_l5Classes n _ _ R m l _ (hR.keep hb) HT.out.1 HT.out.2.1).mono ?_
  rintro e w2 ⟨v2, xs, rfl, hO, hbn⟩
  obtain ⟨o2, c2, rfl⟩ := hO.shape
  have hP := hO.read (Nat.le_trans HC.out.len (by unfold Room; omega)) (fun j hj => Nat.le_trans (HC.out.rows j hj) (by unfold Room; omega))
  replace a0 := cell_keep a0 hbn
  replace a1 := cell_keep a1 hbn
  replace d0 := cell_keep d0 hbn
  replace d1 := cell_keep d1 hbn
  replace hb := bel_to hb hbn
  clear hbn hO
  generalize ptnQ (sameB R m l) R.length R.length = P at *
  have hPl := HC.out.len
  go_wp2
  go_loopw [7, 9] (fun s i wr => ∃ j : Nat, i = .int .i64 j ∧ j ≤ P.length ∧ s = .int .i64 (sumTo R m r P j) ∧ wr.cell? ⟨w.heap.size, 0, none⟩ = some (.int .i64 n) ∧ wr.cell? ⟨w.heap.size, 1, none⟩ = some (.slice oa R.length cap) ∧ wr.cell? ⟨w.heap.size + 1, 1, none⟩ = some (.int .i64 r) ∧ RowsAt wr o2 P ∧ Below w.heap.size w wr) (fun _ i _ => P.length - (intOf i).toNat)
  case atStart => exact ⟨0, rfl, Nat.zero_le _, rfl, a0, a1, d1, hP, hb⟩
  case round =>
    clear a0 a1 d0 d1 hP hb
    obtain ⟨j, rfl, hj, rfl, a0, a1, d1, hP, hb⟩ := hrel
    by_cases hlt : j < P.length
    · have HS : Hid (sumTo R m r P (j + 1) = sumTo R m r P j + ((row P j).length - mostTo R m r (row P j) (row P j).length)) := sum_succ ..
      have hsb := sum_bd (R := R) (m := m) (r := r) HC.out.rows j hj
      have hrl := HC.out.rows j hlt
      have HE : Hid (∀ k, k < (row P j).length → ∃ e : Nat, nth (row P j) k = e ∧ e < R.length) := HC.out.low j hlt
      have HU : Hid (Up (row P j)) := HC.out.up j hlt
      obtain ⟨b3, off3, rfl, hbs3, hcc⟩ := hP.at_ (by omega)
      obtain ⟨o4, c4, hc4, hC⟩ := hcc j hlt
      clear hcc
      generalize sumTo R m r P j = S at *
      generalize row P j = C at *
      have hs1 : -40 ≤ S := by omega
      have hs2 : S ≤ 1640 := by omega
      clear hsb
      go_wp2
      go_loopw [10, 11] (fun s i wr => ∃ k : Nat, i = .int .i64 k ∧ k ≤ C.length ∧ s = .int .i64 (mostTo R m r C k) ∧ wr.cell? ⟨w.heap.size, 0, none⟩ = some (.int .i64 n) ∧ wr.cell? ⟨w.heap.size, 1, none⟩ = some (.slice oa R.length cap) ∧ wr.cell? ⟨w.heap.size + 1, 1, none⟩ = some (.int .i64 r) ∧ wr.cell? ⟨b3, off3 + j, none⟩ = some (.slice o4 C.length c4) ∧ IntsAt wr o4 C ∧ RowsAt wr (some ⟨b3, off3, none⟩) P ∧ Below w.heap.size w wr) (fun _ i _ => C.length - (intOf i).toNat)
      case atStart => exact ⟨0, rfl, Nat.zero_le _, rfl, a0, a1, d1, hc4, hC, hP, hb⟩
      case round =>
        clear a0 a1 d1 hC hb hc4 hP
        obtain ⟨k, rfl, hk, rfl, a0, a1, d1, hc4, hC, hP, hb⟩ := hrel
        have hmb := most_bd R m r C k
        by_cases hlk : k < C.length
        · have HMS : Hid (mostTo R m r C (k + 1) = max (mostTo R m r C k) (1 + (cntN (pairB R m r C k) C.length : Int))) := most_succ ..
          obtain ⟨b5, off5, rfl, hbs5, hcc⟩ := hC.at_ (by omega)
          have hc5' := hcc k hlk
          obtain ⟨e, he, heR⟩ := HE.out k hlk
          have HPB : Hid (∀ t, pairB R m r C k t = ((nth C k != nth C t) && eqCellF m (cellF R (nth C k) r) (cellF R (nth C t) r))) := fun t => rfl
          have HEK : Hid (nth C k = (e : Int)) := he
          rw [he] at hc5'
          clear hcc he
          generalize mostTo R m r C k = M at *
          go_wp2
          go_loopw [12, 13] (fun s i wr => ∃ t : Nat, i = .int .i64 t ∧ t ≤ C.length ∧ s = .int .i64 (1 + (cntN (pairB R m r C k) t : Int)) ∧ wr.cell? ⟨w.heap.size, 0, none⟩ = some (.int .i64 n) ∧ wr.cell? ⟨w.heap.size, 1, none⟩ = some (.slice oa R.length cap) ∧ wr.cell? ⟨w.heap.size + 1, 1, none⟩ = some (.int .i64 r) ∧ wr.cell? ⟨b3, off3 + j, none⟩ = some (.slice (some ⟨b5, off5, none⟩) C.length c4) ∧ IntsAt wr (some ⟨b5, off5, none⟩) C ∧ RowsAt wr (some ⟨b3, off3, none⟩) P ∧ Below w.heap.size w wr) (fun _ i _ => C.length - (intOf i).toNat)
          case atStart => exact ⟨0, rfl, Nat.zero_le _, rfl, a0, a1, d1, hc4, hC, hP, hb⟩
          case round =>
            clear a0 a1 d1 hC hb hc5' hc4 hP
            obtain ⟨t, rfl, ht', rfl, a0, a1, d1, hc4, hC, hP, hb⟩ := hrel
            have hcl := cnt_le (pairB R m r C k) t
            by_cases hlT : t < C.length
            · obtain ⟨b9, off9, eq9, hbs9, hcc⟩ := hC.at_ (by omega)
              simp only [Option.some.injEq, Addr.mk.injEq, and_true] at eq9
              obtain ⟨rfl, rfl⟩ := eq9
              have hc9 := hcc t hlT
              have hc8 := hcc k hlk
              obtain ⟨f, hf, hfR⟩ := HE.out t hlT
              have HCS : Hid (cntN (pairB R m r C k) (t + 1) = cntN (pairB R m r C k) t + if pairB R m r C k t then 1 else 0) := cnt_succ ..
              obtain ⟨X, hX⟩ : ∃ X, X = agreeF m (row R e) (row R f) := ⟨_, rfl⟩
              have HXA : Hid (∀ (w' : World), RowsAt w' oa R → Ans Try.prog 90 #[.agg #[.int .i64 n, .slice oa R.length cap], .int .i64 m, .int .i64 e, .int .i64 f] w' (.int .i64 X)) := fun w' h => by rw [hX]; exact c_l4Agree n oa cap R m e f w' h HT.out.1 heR hfR
              have HPT : Hid (pairB R m r C k t = (decide (k ≠ t) && hasc X r)) := by
                show pairB R m r C k t = _
                have h9 := HL.out e heR
                rw [HPB.out, up_ne HU.out hlk hlT, HEK.out, hf, hX, hasc_agree HT.out.2.2 h9.1]
                unfold cellF
                rw [decide_eq_true h9.2]; simp
              rw [hf] at hc9
              rw [HEK.out] at hc8
              have hx := fun (x : After wr) => (hR.keep hb).keep x.bel
              clear hcc hf hX
              generalize cntN (pairB R m r C k) t = q at *
              cases hne : ((t : Int) != (k : Int))
              · have HPF : Hid (pairB R m r C k t = false) := by
                  have : t = k := by have h9 := hne; simp at h9; omega
                  show pairB R m r C k t = false
                  rw [HPT.out]; simp [this]
                go_wp2_with fail
                (refine wp_region_after (by kernel_rfl) (by kernel_rfl) ?_; have q_a0 := fun (x : After _) => cell_keep a0 x.bel; have q_a1 := fun (x : After _) => cell_keep a1 x.bel; have q_d1 := fun (x : After _) => cell_keep d1 x.bel; have q_hc4 := fun (x : After _) => cell_keep hc4 x.bel; (repeat (go_big_quiet_step (fail))); clear q_a0; clear q_a1; clear q_d1; clear q_hc4; refine wpQuiet_nil ?_; rintro _ ⟨⟨w1, hbn⟩, rfl⟩; (try simp only [After.w]); replace a0 := cell_keep a0 hbn; replace a1 := cell_keep a1 hbn; replace d1 := cell_keep d1 hbn; replace hc4 := cell_keep hc4 hbn; replace hC := hC.keep hbn; replace hP := hP.keep hbn; replace hb := bel_to (w := w) (by first | exact hb | exact hb.alloc hb.size _ | exact (hb.alloc hb.size _).alloc (Nat.le_trans hb.size (by simp)) _ | exact hb.setCell (by simp [hb.size]) _) hbn; clear hbn)
                go_wp2
                go_roundw
                case rel => exact ⟨t + 1, by go_num, by omega, by rw [HCS.out, HPF.out]; simp, a0, a1, d1, hc4, hC, hP, hb⟩
                case measure => simp [intOf]; omega
              · have HNE : Hid (k ≠ t) := by have : ¬ (t = k) := by have h9 := hne; simp at h9; omega
                                             show k ≠ t; omega
                cases hh : hasc X r
                · have hh2 : (bits BinOp.and IntKind.i64 (X / 2 ^ r.toNat) 1 == 1) = false := hh
                  have HPF : Hid (pairB R m r C k t = false) := by show pairB R m r C k t = false; rw [HPT.out, hh]; simp
                  go_wp2_with fail
                  (refine wp_region_after (by kernel_rfl) (by kernel_rfl) ?_; have q_a0 := fun (x : After _) => cell_keep a0 x.bel; have q_a1 := fun (x : After _) => cell_keep a1 x.bel; have q_d1 := fun (x : After _) => cell_keep d1 x.bel; have q_hc4 := fun (x : After _) => cell_keep hc4 x.bel; have q_hc8 := fun (x : After _) => cell_keep hc8 x.bel; have q_hc9 := fun (x : After _) => cell_keep hc9 x.bel; (repeat (go_big_quiet_step ((first | (go_at_call 90; exact Ans.after (HXA.out _ (hx _))))))); clear q_a0; clear q_a1; clear q_d1; clear q_hc4; clear q_hc8; clear q_hc9; refine wpQuiet_nil ?_; rintro _ ⟨⟨w1, hbn⟩, rfl⟩; (try simp only [After.w]); replace a0 := cell_keep a0 hbn; replace a1 := cell_keep a1 hbn; replace d1 := cell_keep d1 hbn; replace hc4 := cell_keep hc4 hbn; replace hc8 := cell_keep hc8 hbn; replace hc9 := cell_keep hc9 hbn; replace hC := hC.keep hbn; replace hP := hP.keep hbn; replace hb := bel_to (w := w) (by first | exact hb | exact hb.alloc hb.size _ | exact (hb.alloc hb.size _).alloc (Nat.le_trans hb.size (by simp)) _ | exact hb.setCell (by simp [hb.size]) _) hbn; clear hbn)
                  go_wp2
                  go_roundw
                  case rel => exact ⟨t + 1, by go_num, by omega, by rw [HCS.out, HPF.out]; simp, a0, a1, d1, hc4, hC, hP, hb⟩
                  case measure => simp [intOf]; omega
                · have hh2 : (bits BinOp.and IntKind.i64 (X / 2 ^ r.toNat) 1 == 1) = true := hh
                  have HPF : Hid (pairB R m r C k t = true) := by show pairB R m r C k t = true; rw [HPT.out, hh, decide_eq_true HNE.out]; rfl
                  go_wp2_with fail
                  (refine wp_region_after (by kernel_rfl) (by kernel_rfl) ?_; have q_a0 := fun (x : After _) => cell_keep a0 x.bel; have q_a1 := fun (x : After _) => cell_keep a1 x.bel; have q_d1 := fun (x : After _) => cell_keep d1 x.bel; have q_hc4 := fun (x : After _) => cell_keep hc4 x.bel; have q_hc8 := fun (x : After _) => cell_keep hc8 x.bel; have q_hc9 := fun (x : After _) => cell_keep hc9 x.bel; (repeat (go_big_quiet_step ((first | (go_at_call 90; exact Ans.after (HXA.out _ (hx _))))))); clear q_a0; clear q_a1; clear q_d1; clear q_hc4; clear q_hc8; clear q_hc9; refine wpQuiet_nil ?_; rintro _ ⟨⟨w1, hbn⟩, rfl⟩; (try simp only [After.w]); replace a0 := cell_keep a0 hbn; replace a1 := cell_keep a1 hbn; replace d1 := cell_keep d1 hbn; replace hc4 := cell_keep hc4 hbn; replace hc8 := cell_keep hc8 hbn; replace hc9 := cell_keep hc9 hbn; replace hC := hC.keep hbn; replace hP := hP.keep hbn; replace hb := bel_to (w := w) (by first | exact hb | exact hb.alloc hb.size _ | exact (hb.alloc hb.size _).alloc (Nat.le_trans hb.size (by simp)) _ | exact hb.setCell (by simp [hb.size]) _) hbn; clear hbn)
                  go_wp2
                  go_roundw
                  case rel => exact ⟨t + 1, by go_num, by omega, by rw [HCS.out, HPF.out]; simp; omega, a0, a1, d1, hc4, hC, hP, hb⟩
                  case measure => simp [intOf]; omega
            · have htt : t = C.length := by omega
              have HMS2 : Hid (mostTo R m r C (k + 1) = max M (1 + (cntN (pairB R m r C k) t : Int))) := by show mostTo R m r C (k + 1) = _; rw [HMS.out, htt]
              clear htt
              generalize cntN (pairB R m r C k) t = q at *
              have hm1 := hmb.1
              have hm2 := hmb.2
              go_wp2
              go_roundw
              case rel => exact ⟨k + 1, by go_num, by omega, by rw [HMS2.out], a0, a1, d1, hc4, hC, hP, hb⟩
              case measure => simp [intOf]; omega
        · have hkk : k = C.length := by omega
          have HS2 : Hid (sumTo R m r P (j + 1) = S + C.length - mostTo R m r C k) := by show sumTo R m r P (j + 1) = _; rw [HS.out, hkk]; omega
          clear hkk
          generalize mostTo R m r C k = M at *
          have hm1 := hmb.1
          have hm2 := hmb.2
          go_wp2
          go_roundw
          case rel => exact ⟨j + 1, by go_num, by omega, by rw [HS2.out], a0, a1, d1, hP, hb⟩
          case measure => simp [intOf]; omega
    · have hjj : j = P.length := by omega
      have HJ : Hid (j = P.length) := hjj
      clear hjj
      go_wp2
      go_ret
      exact ⟨ret_int (by rw [HM.out, HJ.out]), hb⟩
end Go.Proofs.Ytkanbnbofoabeaa
