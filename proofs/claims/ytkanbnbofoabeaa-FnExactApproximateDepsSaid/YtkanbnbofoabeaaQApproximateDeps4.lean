/- Contracts and lemmas for FnExactApproximateDeps, part 4 of 5. -/
import Derived.Test.YtkanbnbofoabeaaQApproximateDeps1
import Derived.Test.YtkanbnbofoabeaaQApproximateDeps2
import Derived.Test.YtkanbnbofoabeaaQApproximateDeps3
import Derived.Deep.RegionHeld3
import Derived.ProofKit
import Derived.OpenShut
import Derived.Lib.SmallJoins
import Derived.Deep.SlicePairs
import Derived.Deep.Matrix
namespace Go.Proofs.Ytkanbnbofoabeaa
open Go.RowKit
set_option linter.unusedVariables false
set_option maxRecDepth 100000

theorem ask_attr {n : Int} {R : List (List Int)} {m l r : Int} (h : askF n R m l r = true) : ptnOk n R m l = true ∧ isTabF n R = true ∧ St l ∧ ∃ c : Nat, r = c ∧ (c : Int) < n ∧ c < 5 := by
  unfold askF at h
  simp only [Bool.and_eq_true] at h
  obtain ⟨⟨h1, h2⟩, h3⟩ := h
  have hd := h3
  unfold isDepF at hd
  simp only [Bool.and_eq_true, decide_eq_true_eq] at hd
  obtain ⟨⟨⟨q1, q2⟩, q3⟩, q4⟩ := hd
  obtain ⟨_, h5, _, _⟩ := isTab_of h1
  exact ⟨by unfold ptnOk; rw [h1, h2, q2]; rfl, h1, (dep_of h3 h5).1, r.toNat, by omega, by omega, by omega⟩
structure Cls (P : List (List Int)) (N : Nat) : Prop where
  len : P.length ≤ 40
  rows : ∀ j, j < P.length → (row P j).length ≤ 41
  low : ∀ j, j < P.length → ∀ k, k < (row P j).length → ∃ e : Nat, nth (row P j) k = e ∧ e < N
  up : ∀ j, j < P.length → Up (row P j)
theorem ptn_cls {q : Nat → Nat → Bool} {N : Nat} (hN : N ≤ 40) : Cls (ptnQ q N N) N := by
  have hm : ∀ j, j < (ptnQ q N N).length → ∃ i, i < N ∧ row (ptnQ q N N) j = clsTo q i N := fun j hj => by
    obtain ⟨i, h1, _, h2⟩ := ptn_mem.1 (row_mem hj)
    exact ⟨i, h1, h2⟩
  refine ⟨Nat.le_trans (ptn_len q N N) hN, fun j hj => ?_, fun j hj k hk => ?_, fun j hj => ?_⟩
  · have := ptn_row hj; omega
  · obtain ⟨i, hi, e⟩ := hm j hj
    rw [e] at hk ⊢
    exact cls_low hi _ (List.mem_iff_getElem?.2 ⟨k, nth_eq hk⟩)
  · obtain ⟨i, hi, e⟩ := hm j hj
    rw [e]; exact cls_up
set_option maxHeartbeats 3200000 in
theorem c_RowsToRemove (n : Int) (oa) (cap : Nat) (R : List (List Int)) (m l r : Int) (w : World) (hR : RowsAt w oa R) :
    Ans Try.prog 38 #[.agg #[.int .i64 n, .slice oa R.length cap], .int .i64 m, .agg #[.int .i64 l, .int .i64 r]] w (.int .i64 (rrF n R m l r)) := by
  unfold Ans
  have hb := bel2 w (.cells #[.int .i64 n, .slice oa R.length cap] 28) (.cells #[.int .i64 l, .int .i64 r] 33)
  have a0 := two_a w #[.int .i64 n, .slice oa R.length cap] 28 #[.int .i64 l, .int .i64 r] 33 0 _ rfl
  have a1 := two_a w #[.int .i64 n, .slice oa R.length cap] 28 #[.int .i64 l, .int .i64 r] 33 1 _ rfl
  have d0 := two_b w #[.int .i64 n, .slice oa R.length cap] 28 #[.int .i64 l, .int .i64 r] 33 0 _ rfl
  have d1 := two_b w #[.int .i64 n, .slice oa R.length cap] 28 #[.int .i64 l, .int .i64 r] 33 1 _ rfl
  cases hask : askF n R m l r
  · have HM : Hid (rrF n R m l r = -1) := by show rrF n R m l r = -1; unfold rrF; rw [hask]; rfl
    go_enter Try.func38, Try.ntmps38
    go_wp2_with (first | (go_at_call 91; refine Calls.mono (Ans.eqb (c_asked _ _ _ _ _ _ _ _ (hR.keep hb)) hask) ?_; rintro e w1 ⟨rfl, hbn⟩; replace a0 := cell_keep a0 hbn; replace a1 := cell_keep a1 hbn; replace d0 := cell_keep d0 hbn; replace d1 := cell_keep d1 hbn; replace hb := bel_to (w := w) (by first | exact hb | exact hb.alloc hb.size _ | exact (hb.alloc hb.size _).alloc (Nat.le_trans hb.size (by simp)) _ | exact hb.setCell (by simp [hb.size]) _) hbn; clear hbn))
    go_ret
    exact ⟨ret_int HM.out.symm, hb⟩
  obtain ⟨hok, ht, hst, c, rfl, hcn, hc5⟩ := ask_attr hask
  obtain ⟨hn1, hn5, hr40, hlen⟩ := isTab_of ht
  have HM : Hid (rrF n R m l c = sumTo R m c (ptnF n R m l) (ptnF n R m l).length) := by show rrF n R m l c = _; rw [ptnF_ok hok]; unfold rrF; rw [if_pos hask]
  have HC : Hid (Cls (ptnF n R m l) R.length) := by show Cls (ptnF n R m l) R.length; rw [ptnF_ok hok]; exact ptn_cls hr40
  have HL : Hid (∀ k, k < R.length → c < (row R k).length) := fun k hk => by have := hlen k hk; omega
  clear hlen ht hok hst hn1 hn5 hcn
  go_enter Try.func38, Try.ntmps38
  go_wp2_with (first | (go_at_call 91; refine Calls.mono (Ans.eqb (c_asked _ _ _ _ _ _ _ _ (hR.keep hb)) hask) ?_; rintro e w1 ⟨rfl, hbn⟩; replace a0 := cell_keep a0 hbn; replace a1 := cell_keep a1 hbn; replace d0 := cell_keep d0 hbn; replace d1 := cell_keep d1 hbn; replace hb := bel_to (w := w) (by first | exact hb | exact hb.alloc hb.size _ | exact (hb.alloc hb.size _).alloc (Nat.le_trans hb.size (by simp)) _ | exact hb.setCell (by simp [hb.size]) _) hbn; clear hbn))
  refine (c_PartitionOf n _ _ R m l _ (hR.keep hb)).mono ?_
  rintro e w2 ⟨v2, xs, rfl, hO, hbn⟩
  obtain ⟨o2, c2, rfl⟩ := hO.shape
  have hP := hO.read (Nat.le_trans HC.out.len (by unfold Room; omega)) (fun j hj => Nat.le_trans (HC.out.rows j hj) (by unfold Room; omega))
  replace a0 := cell_keep a0 hbn
  replace a1 := cell_keep a1 hbn
  replace d0 := cell_keep d0 hbn
  replace d1 := cell_keep d1 hbn
  replace hb := bel_to hb hbn
  clear hbn hO
  generalize ptnF n R m l = P at *
  have hPl := HC.out.len
  go_wp2
  go_loopw [7, 27] (fun s i wr => ∃ j : Nat, i = .int .i64 j ∧ j ≤ P.length ∧ s = .int .i64 (sumTo R m c P j) ∧ wr.cell? ⟨w.heap.size, 1, none⟩ = some (.slice oa R.length cap) ∧ wr.cell? ⟨w.heap.size + 1, 1, none⟩ = some (.int .i64 c) ∧ RowsAt wr o2 P ∧ Below w.heap.size w wr) (fun _ i _ => P.length - (intOf i).toNat)
  case atStart => exact ⟨0, rfl, Nat.zero_le _, rfl, a1, d1, hP, hb⟩
  case round =>
    clear a0 a1 d0 d1 hP hb
    obtain ⟨j, rfl, hj, rfl, a1, d1, hP, hb⟩ := hrel
    by_cases hlt : j < P.length
    · have HS : Hid (sumTo R m c P (j + 1) = sumTo R m c P j + ((row P j).length - mostTo R m c (row P j) (row P j).length)) := sum_succ ..
      have hsb := sum_bd (R := R) (m := m) (r := (c : Int)) HC.out.rows j hj
      have hrl := HC.out.rows j hlt
      have HE : Hid (∀ k, k < (row P j).length → ∃ e : Nat, nth (row P j) k = e ∧ e < R.length) := HC.out.low j hlt
      obtain ⟨b3, off3, rfl, hbs3, hcc⟩ := hP.at_ (by omega)
      obtain ⟨o4, c4, hc4, hC⟩ := hcc j hlt
      clear hcc
      generalize sumTo R m c P j = S at *
      generalize row P j = C at *
      have hs1 : -40 ≤ S := by omega
      have hs2 : S ≤ 1640 := by omega
      clear hsb
      go_wp2
      go_loopw [10, 33] (fun s i wr => ∃ k : Nat, i = .int .i64 k ∧ k ≤ C.length ∧ s = .int .i64 (mostTo R m c C k) ∧ wr.cell? ⟨w.heap.size, 1, none⟩ = some (.slice oa R.length cap) ∧ wr.cell? ⟨w.heap.size + 1, 1, none⟩ = some (.int .i64 c) ∧ RowsAt wr (some ⟨b3, off3, none⟩) P ∧ IntsAt wr o4 C ∧ Below w.heap.size w wr) (fun _ i _ => C.length - (intOf i).toNat)
      case atStart => exact ⟨0, rfl, Nat.zero_le _, rfl, a1, d1, hP, hC, hb⟩
      case round =>
        clear a1 d1 hP hC hb hc4
        obtain ⟨k, rfl, hk, rfl, a1, d1, hP, hC, hb⟩ := hrel
        have hmb := most_bd R m c C k
        by_cases hlk : k < C.length
        · have HMS : Hid (mostTo R m c C (k + 1) = max (mostTo R m c C k) (1 + (cntN (pairB R m c C k) C.length : Int))) := most_succ ..
          obtain ⟨b5, off5, rfl, hbs5, hcc⟩ := hC.at_ (by omega)
          have hc5' := hcc k hlk
          obtain ⟨e, he, heR⟩ := HE.out k hlk
          have HPB : Hid (∀ t, pairB R m c C k t = ((nth C k != nth C t) && eqCellF m (cellF R (nth C k) c) (cellF R (nth C t) c))) := fun t => rfl
          have HEK : Hid (nth C k = (e : Int)) := he
          rw [he] at hc5'
          obtain ⟨b6, off6, rfl, hbs6, hRR⟩ := hR.at_ (by omega)
          obtain ⟨o7, c7, h7, r7⟩ := hRR e heR
          have hl7 := HL.out e heR
          obtain ⟨b8, off8, rfl, hbs8, hr8⟩ := r7.at_ (by omega)
          have h8 := hr8 c hl7
          have HA : Hid (cellF R (nth C k) c = nth (row R e) c) := by show cellF R (nth C k) c = _; rw [he]; unfold cellF; simp
          clear hcc he hr8 r7
          generalize mostTo R m c C k = M at *
          go_wp2
          go_loopw [13, 39] (fun s i wr => ∃ t : Nat, i = .int .i64 t ∧ t ≤ C.length ∧ s = .int .i64 (1 + (cntN (pairB R m c C k) t : Int)) ∧ wr.cell? ⟨w.heap.size, 1, none⟩ = some (.slice (some ⟨b6, off6, none⟩) R.length cap) ∧ wr.cell? ⟨w.heap.size + 1, 1, none⟩ = some (.int .i64 c) ∧ RowsAt wr (some ⟨b3, off3, none⟩) P ∧ IntsAt wr (some ⟨b5, off5, none⟩) C ∧ Below w.heap.size w wr) (fun _ i _ => C.length - (intOf i).toNat)
          case atStart => exact ⟨0, rfl, Nat.zero_le _, rfl, a1, d1, hP, hC, hb⟩
          case round =>
            clear a1 d1 hP hC hb hc5'
            obtain ⟨t, rfl, ht', rfl, a1, d1, hP, hC, hb⟩ := hrel
            have hcl := cnt_le (pairB R m c C k) t
            by_cases hlT : t < C.length
            · obtain ⟨b9, off9, eq9, hbs9, hcc⟩ := hC.at_ (by omega)
              simp only [Option.some.injEq, Addr.mk.injEq, and_true] at eq9
              obtain ⟨rfl, rfl⟩ := eq9
              have hc9 := hcc t hlT
              obtain ⟨f, hf, hfR⟩ := HE.out t hlT
              have HCS : Hid (cntN (pairB R m c C k) (t + 1) = cntN (pairB R m c C k) t + if pairB R m c C k t then 1 else 0) := cnt_succ ..
              have HPT : Hid (pairB R m c C k t = (((e : Int) != (f : Int)) && eqCellF m (nth (row R e) c) (nth (row R f) c))) := by
                show pairB R m c C k t = _
                rw [HPB.out, HA.out, HEK.out, hf]; unfold cellF; simp
              rw [hf] at hc9
              obtain ⟨o10, c10, h10, r10⟩ := hRR f hfR
              have hl10 := HL.out f hfR
              obtain ⟨b11, off11, rfl, hbs11, hr11⟩ := r10.at_ (by omega)
              have h11 := hr11 c hl10
              have g7 := cell_keep h7 hb
              have g8 := cell_keep h8 hb
              have g10 := cell_keep h10 hb
              have g11 := cell_keep h11 hb
              clear hcc hf hr11 r10 h10 h11
              generalize nth (row R e) c = A at *
              generalize nth (row R f) c = B at *
              generalize cntN (pairB R m c C k) t = q at *
              cases hne : ((e : Int) != (f : Int))
              · have HPF : Hid (pairB R m c C k t = false) := by show pairB R m c C k t = false; rw [HPT.out, hne]; rfl
                go_wp2_with fail
                (refine wp_region_after (by kernel_rfl) (by kernel_rfl) ?_; have q_a1 := fun (x : After _) => cell_keep a1 x.bel; have q_d1 := fun (x : After _) => cell_keep d1 x.bel; (repeat (go_big_quiet_step (fail))); clear q_a1; clear q_d1; refine wpQuiet_nil ?_; rintro _ ⟨⟨w1, hbn⟩, rfl⟩; (try simp only [After.w]); replace a1 := cell_keep a1 hbn; replace d1 := cell_keep d1 hbn; replace hP := hP.keep hbn; replace hC := hC.keep hbn; replace hb := bel_to (w := w) (by first | exact hb | exact hb.alloc hb.size _ | exact (hb.alloc hb.size _).alloc (Nat.le_trans hb.size (by simp)) _ | exact hb.setCell (by simp [hb.size]) _) hbn; clear hbn)
                go_wp2
                go_roundw
                case rel => exact ⟨t + 1, by go_num, by omega, by rw [HCS.out, HPF.out]; simp, a1, d1, hP, hC, hb⟩
                case measure => simp [intOf]; omega
              · cases heq : eqCellF m A B
                · have HPF : Hid (pairB R m c C k t = false) := by show pairB R m c C k t = false; rw [HPT.out, hne, heq]; rfl
                  go_wp2_with fail
                  (refine wp_region_after (by kernel_rfl) (by kernel_rfl) ?_; have q_a1 := fun (x : After _) => cell_keep a1 x.bel; have q_d1 := fun (x : After _) => cell_keep d1 x.bel; have q_g7 := fun (x : After _) => cell_keep g7 x.bel; have q_g8 := fun (x : After _) => cell_keep g8 x.bel; have q_g10 := fun (x : After _) => cell_keep g10 x.bel; have q_g11 := fun (x : After _) => cell_keep g11 x.bel; (repeat (go_big_quiet_step ((first | (go_at_call 92; exact Ans.after (Ans.eqb (c_EqualCells _ _ _ _) heq)))))); clear q_a1; clear q_d1; clear q_g7; clear q_g8; clear q_g10; clear q_g11; refine wpQuiet_nil ?_; rintro _ ⟨⟨w1, hbn⟩, rfl⟩; (try simp only [After.w]); replace a1 := cell_keep a1 hbn; replace d1 := cell_keep d1 hbn; replace g7 := cell_keep g7 hbn; replace g8 := cell_keep g8 hbn; replace g10 := cell_keep g10 hbn; replace g11 := cell_keep g11 hbn; replace hP := hP.keep hbn; replace hC := hC.keep hbn; replace hb := bel_to (w := w) (by first | exact hb | exact hb.alloc hb.size _ | exact (hb.alloc hb.size _).alloc (Nat.le_trans hb.size (by simp)) _ | exact hb.setCell (by simp [hb.size]) _) hbn; clear hbn)
                  go_wp2
                  go_roundw
                  case rel => exact ⟨t + 1, by go_num, by omega, by rw [HCS.out, HPF.out]; simp, a1, d1, hP, hC, hb⟩
                  case measure => simp [intOf]; omega
                · have HPF : Hid (pairB R m c C k t = true) := by show pairB R m c C k t = true; rw [HPT.out, hne, heq]; rfl
                  go_wp2_with fail
                  (refine wp_region_after (by kernel_rfl) (by kernel_rfl) ?_; have q_a1 := fun (x : After _) => cell_keep a1 x.bel; have q_d1 := fun (x : After _) => cell_keep d1 x.bel; have q_g7 := fun (x : After _) => cell_keep g7 x.bel; have q_g8 := fun (x : After _) => cell_keep g8 x.bel; have q_g10 := fun (x : After _) => cell_keep g10 x.bel; have q_g11 := fun (x : After _) => cell_keep g11 x.bel; (repeat (go_big_quiet_step ((first | (go_at_call 92; exact Ans.after (Ans.eqb (c_EqualCells _ _ _ _) heq)))))); clear q_a1; clear q_d1; clear q_g7; clear q_g8; clear q_g10; clear q_g11; refine wpQuiet_nil ?_; rintro _ ⟨⟨w1, hbn⟩, rfl⟩; (try simp only [After.w]); replace a1 := cell_keep a1 hbn; replace d1 := cell_keep d1 hbn; replace g7 := cell_keep g7 hbn; replace g8 := cell_keep g8 hbn; replace g10 := cell_keep g10 hbn; replace g11 := cell_keep g11 hbn; replace hP := hP.keep hbn; replace hC := hC.keep hbn; replace hb := bel_to (w := w) (by first | exact hb | exact hb.alloc hb.size _ | exact (hb.alloc hb.size _).alloc (Nat.le_trans hb.size (by simp)) _ | exact hb.setCell (by simp [hb.size]) _) hbn; clear hbn)
                  go_wp2
                  go_roundw
                  case rel => exact ⟨t + 1, by go_num, by omega, by rw [HCS.out, HPF.out]; simp; omega, a1, d1, hP, hC, hb⟩
                  case measure => simp [intOf]; omega
            · have htt : t = C.length := by omega
              have HTT : Hid (t = C.length) := htt
              have HMS2 : Hid (mostTo R m c C (k + 1) = max M (1 + (cntN (pairB R m c C k) t : Int))) := by show mostTo R m c C (k + 1) = _; rw [HMS.out, htt]
              clear htt
              generalize cntN (pairB R m c C k) t = q at *
              have hm1 := hmb.1
              have hm2 := hmb.2
              go_wp2
              go_roundw
              case rel => exact ⟨k + 1, by go_num, by omega, by rw [HMS2.out], a1, d1, hP, hC, hb⟩
              case measure => simp [intOf]; omega
        · have hkk : k = C.length := by omega
          have HS2 : Hid (sumTo R m c P (j + 1) = S + (C.length - mostTo R m c C k)) := by show sumTo R m c P (j + 1) = _; rw [HS.out, hkk]
          clear hkk
          generalize mostTo R m c C k = M at *
          have hm1 := hmb.1
          have hm2 := hmb.2
          go_wp2
          go_roundw
          case rel => exact ⟨j + 1, by go_num, by omega, by rw [HS2.out], a1, d1, hP, hb⟩
          case measure => simp [intOf]; omega
    · have hjj : j = P.length := by omega
      have HJ : Hid (j = P.length) := hjj
      clear hjj
      go_wp2
      go_ret
      exact ⟨ret_int (by rw [HM.out, HJ.out]), hb⟩
set_option maxHeartbeats 3200000 in
theorem c_specRowsToRemove (n : Int) (oa) (cap : Nat) (R : List (List Int)) (m l r : Int) (w : World) (hR : RowsAt w oa R) :
    Ans Try.prog 37 #[.agg #[.int .i64 n, .slice oa R.length cap], .int .i64 m, .agg #[.int .i64 l, .int .i64 r]] w (.int .i64 (rrF n R m l r)) := by
  unfold Ans
  have hb := bel2 w (.cells #[.int .i64 n, .slice oa R.length cap] 28) (.cells #[.int .i64 l, .int .i64 r] 33)
  have a0 := two_a w #[.int .i64 n, .slice oa R.length cap] 28 #[.int .i64 l, .int .i64 r] 33 0 _ rfl
  have a1 := two_a w #[.int .i64 n, .slice oa R.length cap] 28 #[.int .i64 l, .int .i64 r] 33 1 _ rfl
  have d0 := two_b w #[.int .i64 n, .slice oa R.length cap] 28 #[.int .i64 l, .int .i64 r] 33 0 _ rfl
  have d1 := two_b w #[.int .i64 n, .slice oa R.length cap] 28 #[.int .i64 l, .int .i64 r] 33 1 _ rfl
  cases hf : (isTabF n R && modeF m)
  · have HM : Hid (rrF n R m l r = -1) := by show rrF n R m l r = -1; unfold rrF askF; rw [hf]; rfl
    go_enter Try.func37, Try.ntmps37
    go_wp2_with (first | (go_at_call 75; refine Calls.mono (Ans.eqb (c_l4Fine _ _ _ _ _ _ (hR.keep hb)) hf) ?_; rintro e w1 ⟨rfl, hbn⟩; replace a0 := cell_keep a0 hbn; replace a1 := cell_keep a1 hbn; replace d0 := cell_keep d0 hbn; replace d1 := cell_keep d1 hbn; replace hb := bel_to (w := w) (by first | exact hb | exact hb.alloc hb.size _ | exact (hb.alloc hb.size _).alloc (Nat.le_trans hb.size (by simp)) _ | exact hb.setCell (by simp [hb.size]) _) hbn; clear hbn))
    go_ret
    exact ⟨ret_int HM.out.symm, hb⟩
  cases hd : isDepF n l r
  · have HM : Hid (rrF n R m l r = -1) := by show rrF n R m l r = -1; unfold rrF askF; rw [hf, hd]; rfl
    go_enter Try.func37, Try.ntmps37
    go_wp2_with (first | (go_at_call 75; refine Calls.mono (Ans.eqb (c_l4Fine _ _ _ _ _ _ (hR.keep hb)) hf) ?_; rintro e w1 ⟨rfl, hbn⟩; replace a0 := cell_keep a0 hbn; replace a1 := cell_keep a1 hbn; replace d0 := cell_keep d0 hbn; replace d1 := cell_keep d1 hbn; replace hb := bel_to (w := w) (by first | exact hb | exact hb.alloc hb.size _ | exact (hb.alloc hb.size _).alloc (Nat.le_trans hb.size (by simp)) _ | exact hb.setCell (by simp [hb.size]) _) hbn; clear hbn) | (go_at_call 63; refine Calls.mono (Ans.eqb (c_specIsDep _ _ _ _) hd) ?_; rintro e w1 ⟨rfl, hbn⟩; replace a0 := cell_keep a0 hbn; replace a1 := cell_keep a1 hbn; replace d0 := cell_keep d0 hbn; replace d1 := cell_keep d1 hbn; replace hb := bel_to (w := w) (by first | exact hb | exact hb.alloc hb.size _ | exact (hb.alloc hb.size _).alloc (Nat.le_trans hb.size (by simp)) _ | exact hb.setCell (by simp [hb.size]) _) hbn; clear hbn))
    go_ret
    exact ⟨ret_int HM.out.symm, hb⟩
  have hask : askF n R m l r = true := by unfold askF; rw [hf, hd]; rfl
  obtain ⟨hok, ht, hst, c, hrc, hcn, hc5⟩ := ask_attr hask
  have hr0 : 0 ≤ r := by omega
  have hr5 : r < 5 := by omega
  obtain ⟨hn1, hn5, hr40, hlen⟩ := isTab_of ht
  have HM : Hid (rrF n R m l r = sumTo R m r (ptnQ (sameB R m l) R.length R.length) (ptnQ (sameB R m l) R.length R.length).length) := by show rrF n R m l r = _; unfold rrF; rw [if_pos hask]
  have HC : Hid (Cls (ptnQ (sameB R m l) R.length R.length) R.length) := ptn_cls hr40
  have HL : Hid (∀ k, k < R.length → (row R k).length ≤ 5 ∧ r.toNat < (row R k).length) := fun k hk => by have := hlen k hk; omega
  have HT : Hid (isTabF n R = true ∧ St l ∧ Co r) := ⟨ht, hst, ⟨hr0, hr5⟩⟩
  clear hlen ht hok hst hn1 hn5 hcn hask hrc hc5 c
  go_enter Try.func37, Try.ntmps37
  go_wp2_with (first | (go_at_call 75; refine Calls.mono (Ans.eqb (c_l4Fine _ _ _ _ _ _ (hR.keep hb)) hf) ?_; rintro e w1 ⟨rfl, hbn⟩; replace a0 := cell_keep a0 hbn; replace a1 := cell_keep a1 hbn; replace d0 := cell_keep d0 hbn; replace d1 := cell_keep d1 hbn; replace hb := bel_to (w := w) (by first | exact hb | exact hb.alloc hb.size _ | exact (hb.alloc hb.size _).alloc (Nat.le_trans hb.size (by simp)) _ | exact hb.setCell (by simp [hb.size]) _) hbn; clear hbn) | (go_at_call 63; refine Calls.mono (Ans.eqb (c_specIsDep _ _ _ _) hd) ?_; rintro e w1 ⟨rfl, hbn⟩; replace a0 := cell_keep a0 hbn; replace a1 := cell_keep a1 hbn; replace d0 := cell_keep d0 hbn; replace d1 := cell_keep d1 hbn; replace hb := bel_to (w := w) (by first | exact hb | exact hb.alloc hb.size _ | exact (hb.alloc hb.size _).alloc (Nat.le_trans hb.size (by simp)) _ | exact hb.setCell (by simp [hb.size]) _) hbn; clear hbn))
  refine (c_l5Classes n _ _ R m l _ (hR.keep hb) HT.out.1 HT.out.2.1).mono ?_
  rintro e w2 ⟨v2, xs, rfl, hO, hbn⟩
  obtain ⟨o2, c2, rfl⟩ := hO.shape
  have hP := hO.read (Nat.le_trans HC.out.len (by unfold Room; omega)) (fun j hj => Nat.le_trans (HC.out.rows j hj) (by unfold Room; omega))
  replace a0 := cell_keep a0 hbn
  replace a1 := cell_keep a1 hbn
  replace d0 := cell_keep d0 hbn
  replace d1 := cell_keep d1 hbn
  replace hb := bel_to hb hbn
  clear hbn hO
  generalize ptnQ (sameB R m l) R.length R.length = P at *
  have hPl := HC.out.len
  go_wp2
  go_loopw [7, 9] (fun s i wr => ∃ j : Nat, i = .int .i64 j ∧ j ≤ P.length ∧ s = .int .i64 (sumTo R m r P j) ∧ wr.cell? ⟨w.heap.size, 0, none⟩ = some (.int .i64 n) ∧ wr.cell? ⟨w.heap.size, 1, none⟩ = some (.slice oa R.length cap) ∧ wr.cell? ⟨w.heap.size + 1, 1, none⟩ = some (.int .i64 r) ∧ RowsAt wr o2 P ∧ Below w.heap.size w wr) (fun _ i _ => P.length - (intOf i).toNat)
  case atStart => exact ⟨0, rfl, Nat.zero_le _, rfl, a0, a1, d1, hP, hb⟩
  case round =>
    clear a0 a1 d0 d1 hP hb
    obtain ⟨j, rfl, hj, rfl, a0, a1, d1, hP, hb⟩ := hrel
    by_cases hlt : j < P.length
    · have HS : Hid (sumTo R m r P (j + 1) = sumTo R m r P j + ((row P j).length - mostTo R m r (row P j) (row P j).length)) := sum_succ ..
      have hsb := sum_bd (R := R) (m := m) (r := r) HC.out.rows j hj
      have hrl := HC.out.rows j hlt
      have HE : Hid (∀ k, k < (row P j).length → ∃ e : Nat, nth (row P j) k = e ∧ e < R.length) := HC.out.low j hlt
      have HU : Hid (Up (row P j)) := HC.out.up j hlt
      obtain ⟨b3, off3, rfl, hbs3, hcc⟩ := hP.at_ (by omega)
      obtain ⟨o4, c4, hc4, hC⟩ := hcc j hlt
      clear hcc
      generalize sumTo R m r P j = S at *
      generalize row P j = C at *
      have hs1 : -40 ≤ S := by omega
      have hs2 : S ≤ 1640 := by omega
      clear hsb
      go_wp2
      go_loopw [10, 11] (fun s i wr => ∃ k : Nat, i = .int .i64 k ∧ k ≤ C.length ∧ s = .int .i64 (mostTo R m r C k) ∧ wr.cell? ⟨w.heap.size, 0, none⟩ = some (.int .i64 n) ∧ wr.cell? ⟨w.heap.size, 1, none⟩ = some (.slice oa R.length cap) ∧ wr.cell? ⟨w.heap.size + 1, 1, none⟩ = some (.int .i64 r) ∧ wr.cell? ⟨b3, off3 + j, none⟩ = some (.slice o4 C.length c4) ∧ IntsAt wr o4 C ∧ RowsAt wr (some ⟨b3, off3, none⟩) P ∧ Below w.heap.size w wr) (fun _ i _ => C.length - (intOf i).toNat)
      case atStart => exact ⟨0, rfl, Nat.zero_le _, rfl, a0, a1, d1, hc4, hC, hP, hb⟩
      case round =>
        clear a0 a1 d1 hC hb hc4 hP
        obtain ⟨k, rfl, hk, rfl, a0, a1, d1, hc4, hC, hP, hb⟩ := hrel
        have hmb := most_bd R m r C k
        by_cases hlk : k < C.length
        · have HMS : Hid (mostTo R m r C (k + 1) = max (mostTo R m r C k) (1 + (cntN (pairB R m r C k) C.length : Int))) := most_succ ..
          obtain ⟨b5, off5, rfl, hbs5, hcc⟩ := hC.at_ (by omega)
          have hc5' := hcc k hlk
          obtain ⟨e, he, heR⟩ := HE.out k hlk
          have HPB : Hid (∀ t, pairB R m r C k t = ((nth C k != nth C t) && eqCellF m (cellF R (nth C k) r) (cellF R (nth C t) r))) := fun t => rfl
          have HEK : Hid (nth C k = (e : Int)) := he
          rw [he] at hc5'
          clear hcc he
          generalize mostTo R m r C k = M at *
          go_wp2
          go_loopw [12, 13] (fun s i wr => ∃ t : Nat, i = .int .i64 t ∧ t ≤ C.length ∧ s = .int .i64 (1 + (cntN (pairB R m r C k) t : Int)) ∧ wr.cell? ⟨w.heap.size, 0, none⟩ = some (.int .i64 n) ∧ wr.cell? ⟨w.heap.size, 1, none⟩ = some (.slice oa R.length cap) ∧ wr.cell? ⟨w.heap.size + 1, 1, none⟩ = some (.int .i64 r) ∧ wr.cell? ⟨b3, off3 + j, none⟩ = some (.slice (some ⟨b5, off5, none⟩) C.length c4) ∧ IntsAt wr (some ⟨b5, off5, none⟩) C ∧ RowsAt wr (some ⟨b3, off3, none⟩) P ∧ Below w.heap.size w wr) (fun _ i _ => C.length - (intOf i).toNat)
          case atStart => exact ⟨0, rfl, Nat.zero_le _, rfl, a0, a1, d1, hc4, hC, hP, hb⟩
          case round =>
            clear a0 a1 d1 hC hb hc5' hc4 hP
            obtain ⟨t, rfl, ht', rfl, a0, a1, d1, hc4, hC, hP, hb⟩ := hrel
            have hcl := cnt_le (pairB R m r C k) t
            by_cases hlT : t < C.length
            · obtain ⟨b9, off9, eq9, hbs9, hcc⟩ := hC.at_ (by omega)
              simp only [Option.some.injEq, Addr.mk.injEq, and_true] at eq9
              obtain ⟨rfl, rfl⟩ := eq9
              have hc9 := hcc t hlT
              have hc8 := hcc k hlk
              obtain ⟨f, hf, hfR⟩ := HE.out t hlT
              have HCS : Hid (cntN (pairB R m r C k) (t + 1) = cntN (pairB R m r C k) t + if pairB R m r C k t then 1 else 0) := cnt_succ ..
              obtain ⟨X, hX⟩ : ∃ X, X = agreeF m (row R e) (row R f) := ⟨_, rfl⟩
              have HXA : Hid (∀ (w' : World), RowsAt w' oa R → Ans Try.prog 90 #[.agg #[.int .i64 n, .slice oa R.length cap], .int .i64 m, .int .i64 e, .int .i64 f] w' (.int .i64 X)) := fun w' h => by rw [hX]; exact c_l4Agree n oa cap R m e f w' h HT.out.1 heR hfR
              have HPT : Hid (pairB R m r C k t = (decide (k ≠ t) && hasc X r)) := by
                show pairB R m r C k t = _
                have h9 := HL.out e heR
                rw [HPB.out, up_ne HU.out hlk hlT, HEK.out, hf, hX, hasc_agree HT.out.2.2 h9.1]
                unfold cellF
                rw [decide_eq_true h9.2]; simp
              rw [hf] at hc9
              rw [HEK.out] at hc8
              have hx := fun (x : After wr) => (hR.keep hb).keep x.bel
              clear hcc hf hX
              generalize cntN (pairB R m r C k) t = q at *
              cases hne : ((t : Int) != (k : Int))
              · have HPF : Hid (pairB R m r C k t = false) := by
                  have : t = k := by have h9 := hne; simp at h9; omega
                  show pairB R m r C k t = false
                  rw [HPT.out]; simp [this]
                go_wp2_with fail
                (refine wp_region_after (by kernel_rfl) (by kernel_rfl) ?_; have q_a0 := fun (x : After _) => cell_keep a0 x.bel; have q_a1 := fun (x : After _) => cell_keep a1 x.bel; have q_d1 := fun (x : After _) => cell_keep d1 x.bel; have q_hc4 := fun (x : After _) => cell_keep hc4 x.bel; (repeat (go_big_quiet_step (fail))); clear q_a0; clear q_a1; clear q_d1; clear q_hc4; refine wpQuiet_nil ?_; rintro _ ⟨⟨w1, hbn⟩, rfl⟩; (try simp only [After.w]); replace a0 := cell_keep a0 hbn; replace a1 := cell_keep a1 hbn; replace d1 := cell_keep d1 hbn; replace hc4 := cell_keep hc4 hbn; replace hC := hC.keep hbn; replace hP := hP.keep hbn; replace hb := bel_to (w := w) (by first | exact hb | exact hb.alloc hb.size _ | exact (hb.alloc hb.size _).alloc (Nat.le_trans hb.size (by simp)) _ | exact hb.setCell (by simp [hb.size]) _) hbn; clear hbn)
                go_wp2
                go_roundw
                case rel => exact ⟨t + 1, by go_num, by omega, by rw [HCS.out, HPF.out]; simp, a0, a1, d1, hc4, hC, hP, hb⟩
                case measure => simp [intOf]; omega
              · have HNE : Hid (k ≠ t) := by have : ¬ (t = k) := by have h9 := hne; simp at h9; omega
                                             show k ≠ t; omega
                cases hh : hasc X r
                · have hh2 : (bits BinOp.and IntKind.i64 (X / 2 ^ r.toNat) 1 == 1) = false := hh
                  have HPF : Hid (pairB R m r C k t = false) := by show pairB R m r C k t = false; rw [HPT.out, hh]; simp
                  go_wp2_with fail
                  (refine wp_region_after (by kernel_rfl) (by kernel_rfl) ?_; have q_a0 := fun (x : After _) => cell_keep a0 x.bel; have q_a1 := fun (x : After _) => cell_keep a1 x.bel; have q_d1 := fun (x : After _) => cell_keep d1 x.bel; have q_hc4 := fun (x : After _) => cell_keep hc4 x.bel; have q_hc8 := fun (x : After _) => cell_keep hc8 x.bel; have q_hc9 := fun (x : After _) => cell_keep hc9 x.bel; (repeat (go_big_quiet_step ((first | (go_at_call 90; exact Ans.after (HXA.out _ (hx _))))))); clear q_a0; clear q_a1; clear q_d1; clear q_hc4; clear q_hc8; clear q_hc9; refine wpQuiet_nil ?_; rintro _ ⟨⟨w1, hbn⟩, rfl⟩; (try simp only [After.w]); replace a0 := cell_keep a0 hbn; replace a1 := cell_keep a1 hbn; replace d1 := cell_keep d1 hbn; replace hc4 := cell_keep hc4 hbn; replace hc8 := cell_keep hc8 hbn; replace hc9 := cell_keep hc9 hbn; replace hC := hC.keep hbn; replace hP := hP.keep hbn; replace hb := bel_to (w := w) (by first | exact hb | exact hb.alloc hb.size _ | exact (hb.alloc hb.size _).alloc (Nat.le_trans hb.size (by simp)) _ | exact hb.setCell (by simp [hb.size]) _) hbn; clear hbn)
                  go_wp2
                  go_roundw
                  case rel => exact ⟨t + 1, by go_num, by omega, by rw [HCS.out, HPF.out]; simp, a0, a1, d1, hc4, hC, hP, hb⟩
                  case measure => simp [intOf]; omega
                · have hh2 : (bits BinOp.and IntKind.i64 (X / 2 ^ r.toNat) 1 == 1) = true := hh
                  have HPF : Hid (pairB R m r C k t = true) := by show pairB R m r C k t = true; rw [HPT.out, hh, decide_eq_true HNE.out]; rfl
                  go_wp2_with fail
                  (refine wp_region_after (by kernel_rfl) (by kernel_rfl) ?_; have q_a0 := fun (x : After _) => cell_keep a0 x.bel; have q_a1 := fun (x : After _) => cell_keep a1 x.bel; have q_d1 := fun (x : After _) => cell_keep d1 x.bel; have q_hc4 := fun (x : After _) => cell_keep hc4 x.bel; have q_hc8 := fun (x : After _) => cell_keep hc8 x.bel; have q_hc9 := fun (x : After _) => cell_keep hc9 x.bel; (repeat (go_big_quiet_step ((first | (go_at_call 90; exact Ans.after (HXA.out _ (hx _))))))); clear q_a0; clear q_a1; clear q_d1; clear q_hc4; clear q_hc8; clear q_hc9; refine wpQuiet_nil ?_; rintro _ ⟨⟨w1, hbn⟩, rfl⟩; (try simp only [After.w]); replace a0 := cell_keep a0 hbn; replace a1 := cell_keep a1 hbn; replace d1 := cell_keep d1 hbn; replace hc4 := cell_keep hc4 hbn; replace hc8 := cell_keep hc8 hbn; replace hc9 := cell_keep hc9 hbn; replace hC := hC.keep hbn; replace hP := hP.keep hbn; replace hb := bel_to (w := w) (by first | exact hb | exact hb.alloc hb.size _ | exact (hb.alloc hb.size _).alloc (Nat.le_trans hb.size (by simp)) _ | exact hb.setCell (by simp [hb.size]) _) hbn; clear hbn)
                  go_wp2
                  go_roundw
                  case rel => exact ⟨t + 1, by go_num, by omega, by rw [HCS.out, HPF.out]; simp; omega, a0, a1, d1, hc4, hC, hP, hb⟩
                  case measure => simp [intOf]; omega
            · have htt : t = C.length := by omega
              have HMS2 : Hid (mostTo R m r C (k + 1) = max M (1 + (cntN (pairB R m r C k) t : Int))) := by show mostTo R m r C (k + 1) = _; rw [HMS.out, htt]
              clear htt
              generalize cntN (pairB R m r C k) t = q at *
              have hm1 := hmb.1
              have hm2 := hmb.2
              go_wp2
              go_roundw
              case rel => exact ⟨k + 1, by go_num, by omega, by rw [HMS2.out], a0, a1, d1, hc4, hC, hP, hb⟩
              case measure => simp [intOf]; omega
        · have hkk : k = C.length := by omega
          have HS2 : Hid (sumTo R m r P (j + 1) = S + C.length - mostTo R m r C k) := by show sumTo R m r P (j + 1) = _; rw [HS.out, hkk]; omega
          clear hkk
          generalize mostTo R m r C k = M at *
          have hm1 := hmb.1
          have hm2 := hmb.2
          go_wp2
          go_roundw
          case rel => exact ⟨j + 1, by go_num, by omega, by rw [HS2.out], a0, a1, d1, hP, hb⟩
          case measure => simp [intOf]; omega
    · have hjj : j = P.length := by omega
      have HJ : Hid (j = P.length) := hjj
      clear hjj
      go_wp2
      go_ret
      exact ⟨ret_int (by rw [HM.out, HJ.out]), hb⟩
end Go.Proofs.Ytkanbnbofoabeaa
namespace Go.Proofs.Ytkanbnbofoabeaa
open Go.RowKit
set_option linter.unusedVariables false
set_option maxRecDepth 100000


set_option maxHeartbeats 3200000 in
theorem c_minimalDeps_Q (N : Nat) (hN : N ≤ 5) (e0 e1 e2 : Value) (p : Int → Int → Bool) (w : World)
    (hcl : ∀ (W : World) (x r : Int), St x → (0 ≤ r ∧ r < N) → x < 2 ^ N → Below w.heap.size w W → Ans Try.prog 106 #[.agg #[.int .i64 x, .int .i64 r], e0, e1, e2] W (.bool (p x r))) :
    Calls Try.prog 105 #[.int .i64 N, .func (.func 106) #[] #[e0, e1, e2]] w fun e w' => ∃ v, e = .returned v ∧ OwnD w' w.heap.size v (colsF p (partsF N) N) ∧ Below w.heap.size w w' := by
  obtain ⟨i0, hi, hz0, hz1, hz2⟩ := info_parts info_int
  obtain ⟨j0, hj, hy0, hy1, hy2⟩ := info_parts info_dep
  have hb := (Below.refl w.heap.size w).alloc (Nat.le_refl _) (.cells #[] 33)
  have hO := OwnD.empty w w.heap.size (Nat.le_refl _)
  have hpl := partsF_len N
  have HPS : Hid (∀ x ∈ partsF N, St x ∧ x < 2 ^ N) := fun x hx => by
    have h := (partsF_mem (n := N) (by omega) (by omega)).1 hx
    have h2 := (pow_wrap (n := (N : Int)) (by omega) (by omega)).2.1
    rw [Int.toNat_natCast] at h h2
    exact ⟨⟨h.1, by omega⟩, h.2⟩
  have HCL : Hid (∀ (W : World) (x r : Int), St x → (0 ≤ r ∧ r < N) → x < 2 ^ N → Below w.heap.size w W → Ans Try.prog 106 #[.agg #[.int .i64 x, .int .i64 r], e0, e1, e2] W (.bool (p x r))) := hcl
  clear hcl
  go_enter Try.func105, Try.ntmps105
  go_wp2
  go_loopw [5, 6] (fun v i wr => ∃ r : Nat, i = .int .i64 r ∧ r ≤ N ∧ OwnD wr w.heap.size v (colsF p (partsF N) r) ∧ Below w.heap.size w wr) (fun _ i _ => N - (intOf i).toNat)
  case atStart => exact ⟨0, rfl, Nat.zero_le _, by simpa [colsF] using hO, hb⟩
  case round =>
    clear hO hb
    obtain ⟨r, rfl, hr, hO, hb⟩ := hrel
    have hcl := colsF_len p (partsF N) r
    have hcl2 : (colsF p (partsF N) r).length ≤ 32 * 5 := Nat.le_trans hcl (Nat.mul_le_mul hpl (by omega))
    clear hcl
    by_cases hlt : r < N
    · have HC : Hid (colsF p (partsF N) (r + 1) = colsF p (partsF N) r ++ colF p (partsF N) r) := colsF_succ _ _ _
      have hr64 : 0 ≤ (r : Int) ∧ (r : Int) < 64 := by omega
      have hT := OwnI.empty _ wr.heap.size (Nat.le_refl _)
      have ap_OT := apart_old hO hT
      replace hT := hT.based hb.size
      have hO := World.ownsRow.alloc hO (.cells #[] 3)
      have hb := hb.alloc hb.size (.cells #[] 3)
      go_wp2_with fail
      have oldO := hO
      have oldT := hT
      refine (c_PartsBySize (N : Int) _).mono ?_
      rintro e w2 ⟨v2, rfl, hP, hbn⟩
      have ap_PO := (apart_old oldO hP).symm
      have ap_PT := (apart_old oldT hP).symm
      replace hT := hT.keep hbn
      replace hO := OwnD.keep hO hbn
      replace hP := hP.based hb.size
      replace hb := bel_to hb hbn
      clear oldO oldT hbn
      generalize hPP : partsF N = P at *
      have HPP : Hid (partsF N = P) := hPP
      clear hPP
      generalize colsF p P r = A at *
      obtain ⟨o1, c1, rfl⟩ := hP.shape
      have hPr : P.length ≤ Room := by unfold Room; omega
      have hrN : 0 ≤ (r : Int) ∧ (r : Int) < N := by omega
      go_wp2
      go_loopw [5, 7, 20] (fun vO vT i wr => ∃ k : Nat, i = .int .i64 k ∧ k ≤ P.length ∧ OwnI wr w.heap.size vT (takenF p r (P.take k)) ∧ OwnD wr w.heap.size vO (A ++ colF p (P.take k) r) ∧ OwnI wr w.heap.size (.slice o1 P.length c1) P ∧ Apart vO vT ∧ Apart (.slice o1 P.length c1) vO ∧ Apart (.slice o1 P.length c1) vT ∧ Below w.heap.size w wr) (fun _ _ i _ => P.length - (intOf i).toNat)
      case atStart => exact ⟨0, rfl, Nat.zero_le _, by simpa [takenF] using hT, by simpa [colF, takenF] using hO, hP, ap_OT, ap_PO, ap_PT, hb⟩
      case round =>
        clear hT hO hP ap_OT ap_PO ap_PT hb
        obtain ⟨k, rfl, hk, hT, hO, hP, ap_OT, ap_PO, ap_PT, hb⟩ := hrel
        by_cases hlk : k < P.length
        · obtain ⟨b2, off2, rfl, hbs2, hca⟩ := (hP.ints rfl hPr).at_ (by omega)
          have hc2 := hca k hlk
          have hxs := HPS.out _ (List.mem_iff_getElem?.2 ⟨k, nth_eq hlk⟩)
          have hTl := taken_len p r P k hk
          have hOl : (A ++ colF p (P.take k) r).length ≤ 300 := by
            have h := colF_len p (P.take k) r
            rw [List.length_take] at h
            rw [List.length_append]
            omega
          have HTs : Hid (takenF p r (P.take (k + 1)) = stepM p r (takenF p r (P.take k)) (nth P k)) := taken_succ p r hlk
          have HOs : Hid (A ++ colF p (P.take (k + 1)) r = A ++ (stepM p r (takenF p r (P.take k)) (nth P k)).map fun x => (x, (r : Int))) := by
            show A ++ colF p (P.take (k + 1)) r = A ++ (stepM p r (takenF p r (P.take k)) (nth P k)).map fun x => (x, (r : Int))
            unfold colF; rw [taken_succ p r hlk]
          have HOk : Hid (A ++ colF p (P.take k) r = A ++ (takenF p r (P.take k)).map fun x => (x, (r : Int))) := rfl
          have hst : Hid (St (nth P k)) := hxs.1
          have hx2 := hxs.2
          clear hca hxs
          generalize nth P k = x at *
          generalize takenF p r (P.take k) = T at *
          generalize A ++ colF p (P.take k) r = C at *
          have hTr : T.length ≤ Room := by unfold Room; omega
          obtain ⟨oT, cT, rfl⟩ := hT.shape
          cases h1 : hasc x (r : Int)
          · cases h2 : anyIns T x
            · cases h3 : p x (r : Int)
              · have HM : Hid (stepM p r T x = T) := by show stepM p r T x = T; unfold stepM; rw [h1, h2, h3]; rfl
                go_wp2_with (first | (go_at_call 118; refine Calls.mono (Ans.eqb (c_has _ _ hr64 _) h1) ?_; rintro e w1 ⟨rfl, hbn⟩; replace hT := hT.keep hbn; replace hP := hP.keep hbn; replace hO := hO.keep hbn; replace hb := bel_to (w := w) (by first | exact hb | exact hb.alloc hb.size _ | exact (hb.alloc hb.size _).alloc (Nat.le_trans hb.size (by simp)) _ | exact hb.setCell (by simp [hb.size]) _) hbn; clear hbn) | (go_at_call 140; refine Calls.mono (Ans.eqb (c_hasPart _ _ _ _ _ (hT.ints rfl hTr)) h2) ?_; rintro e w1 ⟨rfl, hbn⟩; replace hT := hT.keep hbn; replace hP := hP.keep hbn; replace hO := hO.keep hbn; replace hb := bel_to (w := w) (by first | exact hb | exact hb.alloc hb.size _ | exact (hb.alloc hb.size _).alloc (Nat.le_trans hb.size (by simp)) _ | exact hb.setCell (by simp [hb.size]) _) hbn; clear hbn) | (go_at_call 106; refine Calls.mono (Ans.eqb (HCL.out _ x (r : Int) hst.out hrN hx2 hb) h3) ?_; rintro e w1 ⟨rfl, hbn⟩; replace hT := hT.keep hbn; replace hP := hP.keep hbn; replace hO := hO.keep hbn; replace hb := bel_to (w := w) (by first | exact hb | exact hb.alloc hb.size _ | exact (hb.alloc hb.size _).alloc (Nat.le_trans hb.size (by simp)) _ | exact hb.setCell (by simp [hb.size]) _) hbn; clear hbn) | fail)
                go_roundw
                case rel => exact ⟨k + 1, by go_num, by omega, by rw [HTs.out, HM.out]; exact hT, by rw [HOs.out, HM.out, ← HOk.out]; exact hO, hP, ap_OT, ap_PO, ap_PT, hb⟩
                case measure => simp [intOf]; omega
              · have HM : Hid (stepM p r T x = T ++ [x]) := by show stepM p r T x = T ++ [x]; unfold stepM; rw [h1, h2, h3]; rfl
                have HOn : Hid (A ++ (T ++ [x]).map (fun x => (x, (r : Int))) = C ++ [(x, (r : Int))]) := by
                  show A ++ (T ++ [x]).map (fun x => (x, (r : Int))) = C ++ [(x, (r : Int))]
                  rw [HOk.out]; simp
                have hq : True := trivial
                go_wp2_with (first | (go_at_call 118; refine Calls.mono (Ans.eqb (c_has _ _ hr64 _) h1) ?_; rintro e w1 ⟨rfl, hbn⟩; replace hT := hT.keep hbn; replace hP := hP.keep hbn; replace hO := hO.keep hbn; replace hb := bel_to (w := w) (by first | exact hb | exact hb.alloc hb.size _ | exact (hb.alloc hb.size _).alloc (Nat.le_trans hb.size (by simp)) _ | exact hb.setCell (by simp [hb.size]) _) hbn; clear hbn) | (go_at_call 140; refine Calls.mono (Ans.eqb (c_hasPart _ _ _ _ _ (hT.ints rfl hTr)) h2) ?_; rintro e w1 ⟨rfl, hbn⟩; replace hT := hT.keep hbn; replace hP := hP.keep hbn; replace hO := hO.keep hbn; replace hb := bel_to (w := w) (by first | exact hb | exact hb.alloc hb.size _ | exact (hb.alloc hb.size _).alloc (Nat.le_trans hb.size (by simp)) _ | exact hb.setCell (by simp [hb.size]) _) hbn; clear hbn) | (go_at_call 106; refine Calls.mono (Ans.eqb (HCL.out _ x (r : Int) hst.out hrN hx2 hb) h3) ?_; rintro e w1 ⟨rfl, hbn⟩; replace hT := hT.keep hbn; replace hP := hP.keep hbn; replace hO := hO.keep hbn; replace hb := bel_to (w := w) (by first | exact hb | exact hb.alloc hb.size _ | exact (hb.alloc hb.size _).alloc (Nat.le_trans hb.size (by simp)) _ | exact hb.setCell (by simp [hb.size]) _) hbn; clear hbn) | (clear hq; at_builtin; refine wpList_append_fresh rfl _ _ 69 rfl w.heap.size 3 i0 (.int .i64 0) 1 8 Try.underlying69 hi hz0 hz1 hz2 rfl (by decide) _ _ _ rfl (World.ownsRow.alloc hT _) _ 1 1 [.int .i64 x] rfl rfl (by intro j u hj; match j, hj with | 0, hj => simp at hj; subst hj; simp [Addr.add]) (by intro u hu; simp at hu; subst hu; rfl) (by unfold maxLen; omega) (by omega) (by have := hb.size; simp; omega) ?_; intro v' w1 hown hgrow hfr; replace hb := (hb.alloc hb.size _).grown hgrow (by have := hb.size; simp; omega) (fun g hg => (World.ownsRow.lt hT g hg).1); obtain ⟨hP, ap_PT⟩ := OwnI.past hP hgrow ap_PT hfr; obtain ⟨hO, ap_OT⟩ := OwnD.past hO hgrow ap_OT hfr; replace hT := OwnI.snoc hown; clear hown hgrow hfr) | (at_builtin; refine wpList_append_fresh rfl _ _ 31 rfl w.heap.size 33 j0 (.agg #[.int .i64 0, .int .i64 0]) 2 16 Try.underlying31 hj hy0 hy1 hy2 rfl (by decide) _ _ _ rfl (World.ownsRow.alloc hO _) _ 1 1 [.int .i64 x, .int .i64 (r : Int)] rfl rfl (World.news_of_block (cs := #[.int .i64 x, .int .i64 (r : Int)]) (t := 33) (fr := (0, 0)) (heap_alloc_new _ _)) (by intro u hu; simp at hu; rcases hu with rfl | rfl <;> rfl) (by unfold maxLen; omega) (by omega) (by have := hb.size; simp; omega) ?_; intro v' w1 hown hgrow hfr; replace hb := (hb.alloc hb.size _).grown hgrow (by have := hb.size; simp; omega) (fun g hg => (World.ownsRow.lt hO g hg).1); obtain ⟨hP, ap_PO⟩ := OwnI.past hP hgrow ap_PO hfr; obtain ⟨hT, ap_TO⟩ := OwnI.past hT hgrow ap_OT.symm hfr; have ap_OT := ap_TO.symm; clear ap_TO; replace hO := own_snocD hown; clear hown hgrow hfr) | fail)
                go_roundw
                case rel => exact ⟨k + 1, by go_num, by omega, by rw [HTs.out, HM.out]; exact hT, by rw [HOs.out, HM.out, HOn.out]; exact hO, hP, ap_OT, ap_PO, ap_PT, hb⟩
                case measure => simp [intOf]; omega
            · have HM : Hid (stepM p r T x = T) := by show stepM p r T x = T; unfold stepM; rw [h1, h2]; rfl
              go_wp2_with (first | (go_at_call 118; refine Calls.mono (Ans.eqb (c_has _ _ hr64 _) h1) ?_; rintro e w1 ⟨rfl, hbn⟩; replace hT := hT.keep hbn; replace hP := hP.keep hbn; replace hO := hO.keep hbn; replace hb := bel_to (w := w) (by first | exact hb | exact hb.alloc hb.size _ | exact (hb.alloc hb.size _).alloc (Nat.le_trans hb.size (by simp)) _ | exact hb.setCell (by simp [hb.size]) _) hbn; clear hbn) | (go_at_call 140; refine Calls.mono (Ans.eqb (c_hasPart _ _ _ _ _ (hT.ints rfl hTr)) h2) ?_; rintro e w1 ⟨rfl, hbn⟩; replace hT := hT.keep hbn; replace hP := hP.keep hbn; replace hO := hO.keep hbn; replace hb := bel_to (w := w) (by first | exact hb | exact hb.alloc hb.size _ | exact (hb.alloc hb.size _).alloc (Nat.le_trans hb.size (by simp)) _ | exact hb.setCell (by simp [hb.size]) _) hbn; clear hbn) | (go_at_call 106; refine Calls.mono (Ans.eqb (HCL.out _ x (r : Int) hst.out hrN hx2 hb) h3) ?_; rintro e w1 ⟨rfl, hbn⟩; replace hT := hT.keep hbn; replace hP := hP.keep hbn; replace hO := hO.keep hbn; replace hb := bel_to (w := w) (by first | exact hb | exact hb.alloc hb.size _ | exact (hb.alloc hb.size _).alloc (Nat.le_trans hb.size (by simp)) _ | exact hb.setCell (by simp [hb.size]) _) hbn; clear hbn) | fail)
              go_roundw
              case rel => exact ⟨k + 1, by go_num, by omega, by rw [HTs.out, HM.out]; exact hT, by rw [HOs.out, HM.out, ← HOk.out]; exact hO, hP, ap_OT, ap_PO, ap_PT, hb⟩
              case measure => simp [intOf]; omega
          · have HM : Hid (stepM p r T x = T) := by show stepM p r T x = T; unfold stepM; rw [h1]; rfl
            go_wp2_with (first | (go_at_call 118; refine Calls.mono (Ans.eqb (c_has _ _ hr64 _) h1) ?_; rintro e w1 ⟨rfl, hbn⟩; replace hT := hT.keep hbn; replace hP := hP.keep hbn; replace hO := hO.keep hbn; replace hb := bel_to (w := w) (by first | exact hb | exact hb.alloc hb.size _ | exact (hb.alloc hb.size _).alloc (Nat.le_trans hb.size (by simp)) _ | exact hb.setCell (by simp [hb.size]) _) hbn; clear hbn) | (go_at_call 140; refine Calls.mono (Ans.eqb (c_hasPart _ _ _ _ _ (hT.ints rfl hTr)) h2) ?_; rintro e w1 ⟨rfl, hbn⟩; replace hT := hT.keep hbn; replace hP := hP.keep hbn; replace hO := hO.keep hbn; replace hb := bel_to (w := w) (by first | exact hb | exact hb.alloc hb.size _ | exact (hb.alloc hb.size _).alloc (Nat.le_trans hb.size (by simp)) _ | exact hb.setCell (by simp [hb.size]) _) hbn; clear hbn) | (go_at_call 106; refine Calls.mono (Ans.eqb (HCL.out _ x (r : Int) hst.out hrN hx2 hb) h3) ?_; rintro e w1 ⟨rfl, hbn⟩; replace hT := hT.keep hbn; replace hP := hP.keep hbn; replace hO := hO.keep hbn; replace hb := bel_to (w := w) (by first | exact hb | exact hb.alloc hb.size _ | exact (hb.alloc hb.size _).alloc (Nat.le_trans hb.size (by simp)) _ | exact hb.setCell (by simp [hb.size]) _) hbn; clear hbn) | fail)
            go_roundw
            case rel => exact ⟨k + 1, by go_num, by omega, by rw [HTs.out, HM.out]; exact hT, by rw [HOs.out, HM.out, ← HOk.out]; exact hO, hP, ap_OT, ap_PO, ap_PT, hb⟩
            case measure => simp [intOf]; omega
        · have hkk : k = P.length := by omega
          have HE : Hid (colsF p (partsF N) (r + 1) = A ++ colF p (P.take k) r) := by
            show colsF p (partsF N) (r + 1) = A ++ colF p (P.take k) r
            rw [HPP.out, HC.out, hkk, List.take_length]
          clear hkk
          go_wp2
          go_roundw
          case rel => exact ⟨r + 1, by go_num, by omega, by rw [HE.out]; exact hO, hb⟩
          case measure => simp [intOf]; omega
    · have hrr : r = N := by omega
      have HE : Hid (colsF p (partsF N) r = colsF p (partsF N) N) := by show colsF p (partsF N) r = colsF p (partsF N) N; rw [hrr]
      clear hrr
      go_wp2
      go_ret
      exact ⟨_, rfl, by rw [← HE.out]; exact hO, hb⟩
theorem c_clQ (n : Int) (oa) (cap : Nat) (R : List (List Int)) (m q x r : Int) (X Y Z : Nat) (w : World) (hR : RowsAt w oa R)
    (a0 : w.cell? ⟨X, 0, none⟩ = some (.int .i64 n)) (a1 : w.cell? ⟨X, 1, none⟩ = some (.slice oa R.length cap)) (m0 : w.cell? ⟨Y, 0, none⟩ = some (.int .i64 m)) (q0 : w.cell? ⟨Z, 0, none⟩ = some (.int .i64 q)) :
    Ans Try.prog 106 #[.agg #[.int .i64 x, .int .i64 r], .pointer (some ⟨X, 0, none⟩), .pointer (some ⟨Y, 0, none⟩), .pointer (some ⟨Z, 0, none⟩)] w (.bool (appOk n R m q x r)) := by
  unfold Ans
  have hb := (Below.refl w.heap.size w).alloc (Nat.le_refl _) (.cells #[.int .i64 x, .int .i64 r] 33)
  have b0 := cell_al a0 (.cells #[.int .i64 x, .int .i64 r] 33)
  have b1 := cell_al a1 (.cells #[.int .i64 x, .int .i64 r] 33)
  have bm := cell_al m0 (.cells #[.int .i64 x, .int .i64 r] 33)
  have bq := cell_al q0 (.cells #[.int .i64 x, .int .i64 r] 33)
  have d0 := box_at w #[.int .i64 x, .int .i64 r] 33 0 _ rfl
  have d1 := box_at w #[.int .i64 x, .int .i64 r] 33 1 _ rfl
  have hx := fun (y : After (w.alloc (.cells #[.int .i64 x, .int .i64 r] 33))) => (hR.keep hb).keep y.bel
  have HV : Hid (appOk n R m q x r = decide (rrF n R m x r ≤ q)) := rfl
  obtain ⟨K, hK⟩ : ∃ K, K = rrF n R m x r := ⟨_, rfl⟩
  have HK : Hid (∀ w', RowsAt w' oa R → Ans Try.prog 38 #[.agg #[.int .i64 n, .slice oa R.length cap], .int .i64 m, .agg #[.int .i64 x, .int .i64 r]] w' (.int .i64 K)) := fun w' h => by rw [hK]; exact c_RowsToRemove n oa cap R m x r w' h
  rw [← hK] at HV
  clear a0 a1 m0 q0 hK
  go_enter Try.func106, Try.ntmps106
  go_wp2_with fail
  (refine wp_region_after (by kernel_rfl) (by kernel_rfl) ?_; have q_b0 := fun (x : After _) => cell_keep b0 x.bel; have q_b1 := fun (x : After _) => cell_keep b1 x.bel; have q_bm := fun (x : After _) => cell_keep bm x.bel; have q_bq := fun (x : After _) => cell_keep bq x.bel; have q_d0 := fun (x : After _) => cell_keep d0 x.bel; have q_d1 := fun (x : After _) => cell_keep d1 x.bel; (repeat (go_big_quiet_step ((first | (go_at_call 38; exact Ans.after (HK.out _ (hx _))))))); clear q_b0; clear q_b1; clear q_bm; clear q_bq; clear q_d0; clear q_d1; refine wpQuiet_nil ?_; rintro _ ⟨⟨w1, hbn⟩, rfl⟩; (try simp only [After.w]); replace b0 := cell_keep b0 hbn; replace b1 := cell_keep b1 hbn; replace bm := cell_keep bm hbn; replace bq := cell_keep bq hbn; replace d0 := cell_keep d0 hbn; replace d1 := cell_keep d1 hbn; replace hb := bel_to (w := w) (by first | exact hb | exact hb.alloc hb.size _ | exact (hb.alloc hb.size _).alloc (Nat.le_trans hb.size (by simp)) _ | exact hb.setCell (by simp [hb.size]) _) hbn; clear hbn)
  go_wp2
  go_ret
  exact ⟨ret_bool HV.out.symm, hb⟩
set_option maxHeartbeats 800000 in
theorem c_ApproximateDeps (n : Int) (oa) (cap : Nat) (R : List (List Int)) (m q : Int) (w : World) (hR : RowsAt w oa R) :
    Calls Try.prog 51 #[.agg #[.int .i64 n, .slice oa R.length cap], .int .i64 m, .int .i64 q] w fun e w' => ∃ v, e = .returned v ∧ OwnD w' w.heap.size v (apprF n R m q) ∧ Below w.heap.size w w' := by
  have hb := (bel2 w (.cells #[.int .i64 n, .slice oa R.length cap] 28) (.cells #[.int .i64 m] 3)).alloc (by simp; omega) (.cells #[.int .i64 q] 3)
  have k1 := (Below.refl ((w.alloc (.cells #[.int .i64 n, .slice oa R.length cap] 28)).alloc (.cells #[.int .i64 m] 3)).heap.size _).alloc (Nat.le_refl _) (.cells #[.int .i64 q] 3)
  have a0 := cell_keep (two_a w #[.int .i64 n, .slice oa R.length cap] 28 #[.int .i64 m] 3 0 _ rfl) k1
  have a1 := cell_keep (two_a w #[.int .i64 n, .slice oa R.length cap] 28 #[.int .i64 m] 3 1 _ rfl) k1
  have m0 := cell_keep (two_b w #[.int .i64 n, .slice oa R.length cap] 28 #[.int .i64 m] 3 0 _ rfl) k1
  have s0 := box_at ((w.alloc (.cells #[.int .i64 n, .slice oa R.length cap] 28)).alloc (.cells #[.int .i64 m] 3)) #[.int .i64 q] 3 0 _ rfl
  simp only [World.size_alloc] at s0
  clear k1
  cases h1 : isTabF n R
  · have HM : Hid (apprF n R m q = []) := by show apprF n R m q = []; unfold apprF; rw [h1]; rfl
    go_enter Try.func51, Try.ntmps51
    go_wp2_with (first | (go_at_call 79; refine Calls.mono (Ans.eqb (c_IsTable _ _ _ _ _ (hR.keep hb)) h1) ?_; rintro e w1 ⟨rfl, hbn⟩; replace a0 := cell_keep a0 hbn; replace a1 := cell_keep a1 hbn; replace m0 := cell_keep m0 hbn; replace s0 := cell_keep s0 hbn; replace hb := bel_to (w := w) (by first | exact hb | exact hb.alloc hb.size _ | exact (hb.alloc hb.size _).alloc (Nat.le_trans hb.size (by simp)) _ | exact hb.setCell (by simp [hb.size]) _) hbn; clear hbn))
    go_ret
    exact ⟨_, rfl, by rw [HM.out]; exact World.ownsRow_nil _ _ _ _, hb⟩
  cases h2 : modeF m
  · have HM : Hid (apprF n R m q = []) := by show apprF n R m q = []; unfold apprF; rw [h1, h2]; rfl
    go_enter Try.func51, Try.ntmps51
    go_wp2_with (first | (go_at_call 79; refine Calls.mono (Ans.eqb (c_IsTable _ _ _ _ _ (hR.keep hb)) h1) ?_; rintro e w1 ⟨rfl, hbn⟩; replace a0 := cell_keep a0 hbn; replace a1 := cell_keep a1 hbn; replace m0 := cell_keep m0 hbn; replace s0 := cell_keep s0 hbn; replace hb := bel_to (w := w) (by first | exact hb | exact hb.alloc hb.size _ | exact (hb.alloc hb.size _).alloc (Nat.le_trans hb.size (by simp)) _ | exact hb.setCell (by simp [hb.size]) _) hbn; clear hbn) | (go_at_call 80; refine Calls.mono (Ans.eqb (c_isMode _ _) h2) ?_; rintro e w1 ⟨rfl, hbn⟩; replace a0 := cell_keep a0 hbn; replace a1 := cell_keep a1 hbn; replace m0 := cell_keep m0 hbn; replace s0 := cell_keep s0 hbn; replace hb := bel_to (w := w) (by first | exact hb | exact hb.alloc hb.size _ | exact (hb.alloc hb.size _).alloc (Nat.le_trans hb.size (by simp)) _ | exact hb.setCell (by simp [hb.size]) _) hbn; clear hbn))
    go_ret
    exact ⟨_, rfl, by rw [HM.out]; exact World.ownsRow_nil _ _ _ _, hb⟩
  by_cases h3 : q < 0
  · have HM : Hid (apprF n R m q = []) := by show apprF n R m q = []; unfold apprF; rw [decide_eq_false (show ¬ (0 ≤ q) by omega)]; simp
    go_enter Try.func51, Try.ntmps51
    go_wp2_with (first | (go_at_call 79; refine Calls.mono (Ans.eqb (c_IsTable _ _ _ _ _ (hR.keep hb)) h1) ?_; rintro e w1 ⟨rfl, hbn⟩; replace a0 := cell_keep a0 hbn; replace a1 := cell_keep a1 hbn; replace m0 := cell_keep m0 hbn; replace s0 := cell_keep s0 hbn; replace hb := bel_to (w := w) (by first | exact hb | exact hb.alloc hb.size _ | exact (hb.alloc hb.size _).alloc (Nat.le_trans hb.size (by simp)) _ | exact hb.setCell (by simp [hb.size]) _) hbn; clear hbn) | (go_at_call 80; refine Calls.mono (Ans.eqb (c_isMode _ _) h2) ?_; rintro e w1 ⟨rfl, hbn⟩; replace a0 := cell_keep a0 hbn; replace a1 := cell_keep a1 hbn; replace m0 := cell_keep m0 hbn; replace s0 := cell_keep s0 hbn; replace hb := bel_to (w := w) (by first | exact hb | exact hb.alloc hb.size _ | exact (hb.alloc hb.size _).alloc (Nat.le_trans hb.size (by simp)) _ | exact hb.setCell (by simp [hb.size]) _) hbn; clear hbn))
    go_ret
    exact ⟨_, rfl, by rw [HM.out]; exact World.ownsRow_nil _ _ _ _, hb⟩
  obtain ⟨hn1, hn5, _, _⟩ := isTab_of h1
  obtain ⟨N, rfl⟩ := Int.eq_ofNat_of_zero_le (show 0 ≤ n by omega)
  have HM : Hid (apprF N R m q = colsF (appOk N R m q) (partsF N) N) := by show apprF N R m q = _; unfold apprF; rw [h1, h2, decide_eq_true (show 0 ≤ q by omega), Int.toNat_natCast]; rfl
  have hN5 : N ≤ 5 := by omega
  go_enter Try.func51, Try.ntmps51
  go_wp2_with (first | (go_at_call 79; refine Calls.mono (Ans.eqb (c_IsTable _ _ _ _ _ (hR.keep hb)) h1) ?_; rintro e w1 ⟨rfl, hbn⟩; replace a0 := cell_keep a0 hbn; replace a1 := cell_keep a1 hbn; replace m0 := cell_keep m0 hbn; replace s0 := cell_keep s0 hbn; replace hb := bel_to (w := w) (by first | exact hb | exact hb.alloc hb.size _ | exact (hb.alloc hb.size _).alloc (Nat.le_trans hb.size (by simp)) _ | exact hb.setCell (by simp [hb.size]) _) hbn; clear hbn) | (go_at_call 80; refine Calls.mono (Ans.eqb (c_isMode _ _) h2) ?_; rintro e w1 ⟨rfl, hbn⟩; replace a0 := cell_keep a0 hbn; replace a1 := cell_keep a1 hbn; replace m0 := cell_keep m0 hbn; replace s0 := cell_keep s0 hbn; replace hb := bel_to (w := w) (by first | exact hb | exact hb.alloc hb.size _ | exact (hb.alloc hb.size _).alloc (Nat.le_trans hb.size (by simp)) _ | exact hb.setCell (by simp [hb.size]) _) hbn; clear hbn))
  refine (c_minimalDeps_Q N hN5 _ _ _ (appOk N R m q) _ ?_).mono ?_
  · intro W x r hst hr hx2 hB
    exact c_clQ N oa cap R m q x r _ _ _ W ((hR.keep hb).keep hB) (cell_keep a0 hB) (cell_keep a1 hB) (cell_keep m0 hB) (cell_keep s0 hB)
  rintro e w2 ⟨v2, rfl, hO, hbn⟩
  replace hO := hO.based hb.size
  replace hb := bel_to hb hbn
  clear hbn
  go_wp2
  go_ret
  exact ⟨_, rfl, by rw [HM.out]; exact hO, hb⟩
end Go.Proofs.Ytkanbnbofoabeaa
namespace Go.Proofs.Ytkanbnbofoabeaa
open Go.RowKit
set_option linter.unusedVariables false
set_option maxRecDepth 100000

/-- x is maximal in L -/
def maxB (L : List Int) (x : Int) : Bool := L.all fun y => (x == y) || !ins x y
def maxF (L : List Int) : List Int := if setsF L && decide (L.length ≤ 100) then flt (fun x => inB' L x && maxB L x) 32 else []
theorem maxF_sets {L : List Int} (h : setsF L = true) (hl : L.length ≤ 100) : maxF L = flt (fun x => inB' L x && maxB L x) 32 := by
  unfold maxF; rw [h]; simp [hl]
theorem maxF_filter {L : List Int} (h : setsF L = true) (hl : L.length ≤ 100) : maxF L = (distinctF L).filter (maxB L) := by
  rw [maxF_sets h hl, distinctF_flt (setsF_mem h), flt_filter]
theorem maxF_len (L : List Int) : (maxF L).length ≤ 32 := by
  unfold maxF
  split
  · exact flt_le _ _
  · simp
theorem maxF_st {L : List Int} : ∀ x ∈ maxF L, St x := by
  unfold maxF
  split
  · intro x hx; have := (flt_mem.1 hx).1; exact ⟨by omega, by omega⟩
  · intro x hx; cases hx
theorem maxB_same (L : List Int) (h : ∀ x ∈ L, St x) (x : Int) (hx : St x) : (L.all fun y => (y == x) || !(bits BinOp.and .i64 x y == x)) = maxB L x := by
  unfold maxB
  rw [Bool.eq_iff_iff, List.all_eq_true, List.all_eq_true]
  have e : ∀ y ∈ L, ((y == x) || !(bits BinOp.and .i64 x y == x)) = ((x == y) || !ins x y) := fun y hy => by
    obtain ⟨n, hn, rfl⟩ := st_nat hx; obtain ⟨m, hm, rfl⟩ := st_nat (h y hy)
    have h' : ∀ n < 32, ∀ m < 32, ((((m : Nat) : Int) == ((n : Nat) : Int)) || !(bits BinOp.and .i64 ((n : Nat) : Int) ((m : Nat) : Int) == ((n : Nat) : Int))) = ((((n : Nat) : Int) == ((m : Nat) : Int)) || !ins (n : Nat) (m : Nat)) := by decide +kernel
    exact h' n hn m hm
  exact ⟨fun H y hy => by rw [← e y hy]; exact H y hy, fun H y hy => by rw [e y hy]; exact H y hy⟩
theorem max_step {L : List Int} {k : Nat} (hk : k < L.length) (hs : St (nth L k)) :
    flt (fun y => inB' (L.take (k + 1)) y && maxB L y) 32 = (if maxB L (nth L k) then putF (flt (fun y => inB' (L.take k) y && maxB L y) 32) (nth L k) else flt (fun y => inB' (L.take k) y && maxB L y) 32) := by
  have e : ∀ y, inB' (L.take (k + 1)) y = (inB' (L.take k) y || y == nth L k) := fun y => by
    unfold inB'
    rw [List.take_add_one, nth_eq hk]
    simp [Bool.decide_or]
    rfl
  split
  · next h =>
    rw [putF_flt _ hs]
    congr 1
    funext y
    rw [e]
    cases hy : (y == nth L k)
    · simp
    · have : y = nth L k := by simpa using hy
      rw [this, h]; simp
  · next h =>
    congr 1
    funext y
    rw [e]
    cases hy : (y == nth L k)
    · simp
    · have : y = nth L k := by simpa using hy
      rw [this]
      simp only [Bool.not_eq_true] at h
      rw [h]; simp
end Go.Proofs.Ytkanbnbofoabeaa
namespace Go.Proofs.Ytkanbnbofoabeaa
open Go.RowKit
set_option linter.unusedVariables false
set_option maxRecDepth 100000

/-- x is the set in which two rows agree, the second of them before place i; or the second is i and the first before place j. -/
def agP (R : List (List Int)) (m : Int) (i j : Nat) (x : Int) : Prop := (∃ b, b < i ∧ ∃ a, a < b ∧ agreeF m (row R a) (row R b) = x) ∨ ∃ a, a < j ∧ agreeF m (row R a) (row R i) = x
/-- the same, first rows before place i; or the first is i and the second behind it and before place j -/
def agQ (R : List (List Int)) (m : Int) (i j : Nat) (x : Int) : Prop := (∃ a, a < i ∧ ∃ b, b < R.length ∧ a < b ∧ agreeF m (row R a) (row R b) = x) ∨ ∃ b, b < j ∧ i < b ∧ agreeF m (row R i) (row R b) = x
def agPB (R : List (List Int)) (m : Int) (i j : Nat) (x : Int) : Bool := ((List.range i).any fun b => (List.range b).any fun a => agreeF m (row R a) (row R b) == x) || (List.range j).any fun a => agreeF m (row R a) (row R i) == x
def agQB (R : List (List Int)) (m : Int) (i j : Nat) (x : Int) : Bool := ((List.range i).any fun a => (List.range R.length).any fun b => decide (a < b) && (agreeF m (row R a) (row R b) == x)) || (List.range j).any fun b => decide (i < b) && (agreeF m (row R i) (row R b) == x)
theorem agPB_iff {R : List (List Int)} {m : Int} {i j : Nat} {x : Int} : agPB R m i j x = true ↔ agP R m i j x := by
  unfold agPB agP
  simp [List.any_eq_true]
theorem agQB_iff {R : List (List Int)} {m : Int} {i j : Nat} {x : Int} : agQB R m i j x = true ↔ agQ R m i j x := by
  unfold agQB agQ
  simp [List.any_eq_true]
def agreeSetsF (n : Int) (R : List (List Int)) (m : Int) : List Int := if isTabF n R && modeF m then flt (agPB R m R.length 0) 32 else []
theorem eqCell_comm (m a b : Int) : eqCellF m a b = eqCellF m b a := by
  unfold eqCellF
  by_cases h : a = b
  · subst h; rfl
  · have h1 : (a == b) = false := by simpa using h
    have h2 : (b == a) = false := by simpa using (fun e : b = a => h e.symm)
    rw [h1, h2]; simp
theorem agree_comm {m : Int} {A B : List Int} (h : A.length = B.length) : agreeF m A B = agreeF m B A := by
  unfold agreeF
  rw [h]
  congr 1
  funext x c
  unfold agreeStep
  rw [eqCell_comm]
theorem agPB_step (R : List (List Int)) (m : Int) (i j : Nat) (hij : j < i) : (fun x => agPB R m i j x || x == agreeF m (row R j) (row R i)) = agPB R m i (j + 1) := by
  funext x
  rw [Bool.eq_iff_iff, Bool.or_eq_true, agPB_iff, agPB_iff]
  unfold agP
  constructor
  · rintro ((h | ⟨a, ha, e⟩) | e)
    · exact .inl h
    · exact .inr ⟨a, by omega, e⟩
    · exact .inr ⟨j, by omega, by simpa using (beq_iff_eq.1 e).symm⟩
  · rintro (h | ⟨a, ha, e⟩)
    · exact .inl (.inl h)
    · by_cases hj : a = j
      · subst hj; exact .inr (by simp [e])
      · exact .inl (.inr ⟨a, by omega, e⟩)
theorem agPB_next (R : List (List Int)) (m : Int) (i : Nat) : agPB R m i i = agPB R m (i + 1) 0 := by
  funext x
  rw [Bool.eq_iff_iff, agPB_iff, agPB_iff]
  unfold agP
  constructor
  · rintro (⟨b, hb, h⟩ | ⟨a, ha, e⟩)
    · exact .inl ⟨b, by omega, h⟩
    · exact .inl ⟨i, by omega, a, ha, e⟩
  · rintro (⟨b, hb, a, ha, e⟩ | ⟨a, ha, _⟩)
    · by_cases h : b = i
      · subst h; exact .inr ⟨a, ha, e⟩
      · exact .inl ⟨b, by omega, a, ha, e⟩
    · omega
theorem agQB_step (R : List (List Int)) (m : Int) (i j : Nat) (hij : i < j) : (fun x => agQB R m i j x || x == agreeF m (row R i) (row R j)) = agQB R m i (j + 1) := by
  funext x
  rw [Bool.eq_iff_iff, Bool.or_eq_true, agQB_iff, agQB_iff]
  unfold agQ
  constructor
  · rintro ((h | ⟨b, hb, hib, e⟩) | e)
    · exact .inl h
    · exact .inr ⟨b, by omega, hib, e⟩
    · exact .inr ⟨j, by omega, hij, by simpa using (beq_iff_eq.1 e).symm⟩
  · rintro (h | ⟨b, hb, hib, e⟩)
    · exact .inl (.inl h)
    · by_cases hj : b = j
      · subst hj; exact .inr (by simp [e])
      · exact .inl (.inr ⟨b, by omega, hib, e⟩)
theorem agQB_next (R : List (List Int)) (m : Int) (i : Nat) (hi : i < R.length) : agQB R m i R.length = agQB R m (i + 1) (i + 2) := by
  funext x
  rw [Bool.eq_iff_iff, agQB_iff, agQB_iff]
  unfold agQ
  constructor
  · rintro (⟨a, ha, h⟩ | ⟨b, hb, hib, e⟩)
    · exact .inl ⟨a, by omega, h⟩
    · exact .inl ⟨i, by omega, b, hb, hib, e⟩
  · rintro (⟨a, ha, b, hb, hab, e⟩ | ⟨b, hb, hib, _⟩)
    · by_cases h : a = i
      · subst h; exact .inr ⟨b, hb, hab, e⟩
      · exact .inl ⟨a, by omega, b, hb, hab, e⟩
    · omega
theorem agQB_first (R : List (List Int)) (m : Int) (i : Nat) : agQB R m i (i + 1) = agQB R m i 0 := by
  funext x
  rw [Bool.eq_iff_iff, agQB_iff, agQB_iff]
  unfold agQ
  constructor
  · rintro (h | ⟨b, hb, hib, _⟩)
    · exact .inl h
    · omega
  · rintro (h | ⟨b, hb, _⟩)
    · exact .inl h
    · omega
theorem agQB_all (R : List (List Int)) (m : Int) : agQB R m R.length 0 = agPB R m R.length 0 := by
  funext x
  rw [Bool.eq_iff_iff, agQB_iff, agPB_iff]
  unfold agQ agP
  constructor
  · rintro (⟨a, ha, b, hb, hab, e⟩ | ⟨b, hb, _⟩)
    · exact .inl ⟨b, hb, a, hab, e⟩
    · omega
  · rintro (⟨b, hb, a, ha, e⟩ | ⟨b, hb, _⟩)
    · exact .inl ⟨a, by omega, b, hb, ha, e⟩
    · omega
theorem agQB_none (R : List (List Int)) (m : Int) : flt (agQB R m 0 0) 32 = [] := by
  have : agQB R m 0 0 = fun _ => false := by
    funext x
    rw [Bool.eq_iff_iff, agQB_iff]
    unfold agQ
    constructor
    · rintro (⟨a, ha, _⟩ | ⟨b, hb, _⟩) <;> omega
    · intro h; cases h
  rw [this]; unfold flt; simp
/-- What the list holds, as it grows. -/
def AgL (R : List (List Int)) (m : Int) (i j : Nat) (L : List Int) : Prop := (∀ x, x ∈ L ↔ agP R m i j x) ∧ (∀ x ∈ L, St x) ∧ L.length ≤ 40 * i + j
theorem AgL.none (R : List (List Int)) (m : Int) : AgL R m 0 0 [] := by
  refine ⟨fun x => ⟨fun h => (by cases h), fun h => ?_⟩, fun x hx => (by cases hx), Nat.zero_le _⟩
  unfold agP at h
  rcases h with ⟨b, hb, _⟩ | ⟨a, ha, _⟩
  · omega
  · omega
theorem AgL.distinct {R : List (List Int)} {m : Int} {L : List Int} (h : AgL R m R.length 0 L) : distinctF L = flt (agPB R m R.length 0) 32 := by
  rw [distinctF_flt h.2.1]
  congr 1
  funext x
  rw [Bool.eq_iff_iff, agPB_iff, ← h.1]
  unfold inB'
  simp
theorem AgL.snoc {R : List (List Int)} {m : Int} {i j : Nat} {L : List Int} (h : AgL R m i j L) (hij : j < i) {x : Int} (hx : x = agreeF m (row R j) (row R i)) (hs : St x) : AgL R m i (j + 1) (L ++ [x]) := by
  refine ⟨fun y => ?_, fun y hy => ?_, by simp; have := h.2.2; omega⟩
  · have e := congrFun (agPB_step R m i j hij) y
    rw [List.mem_append, List.mem_singleton, h.1, ← agPB_iff (j := j + 1), ← e, Bool.or_eq_true, agPB_iff, hx]
    simp
  · rcases List.mem_append.1 hy with hy | hy
    · exact h.2.1 y hy
    · simp at hy; subst hy; exact hs
theorem AgL.next {R : List (List Int)} {m : Int} {i : Nat} {L : List Int} (h : AgL R m i i L) (hi : i ≤ 40) : AgL R m (i + 1) 0 L := by
  refine ⟨fun y => ?_, h.2.1, by have := h.2.2; omega⟩
  have e := congrFun (agPB_next R m i) y
  rw [h.1, ← agPB_iff, e, agPB_iff]
theorem agreeSets_st {n : Int} {R : List (List Int)} {m : Int} : ∀ x ∈ agreeSetsF n R m, St x := by
  unfold agreeSetsF
  split
  · intro x hx; have := (flt_mem.1 hx).1; exact ⟨by omega, by omega⟩
  · intro x hx; cases hx
theorem agreeSets_len (n : Int) (R : List (List Int)) (m : Int) : (agreeSetsF n R m).length ≤ 32 := by
  unfold agreeSetsF
  split
  · exact flt_le _ _
  · simp
end Go.Proofs.Ytkanbnbofoabeaa
namespace Go.Proofs.Ytkanbnbofoabeaa
open Go.RowKit
set_option linter.unusedVariables false
set_option maxRecDepth 100000

set_option maxHeartbeats 1600000 in
theorem c_AgreeSets (n : Int) (oa) (cap : Nat) (R : List (List Int)) (m : Int) (w : World) (hR : RowsAt w oa R) (hcap : R.length ≤ cap) :
    Calls Try.prog 147 #[.agg #[.int .i64 n, .slice oa R.length cap], .int .i64 m] w fun e w' => ∃ v, e = .returned v ∧ OwnI w' w.heap.size v (agreeSetsF n R m) ∧ Below w.heap.size w w' := by
  obtain ⟨i0, hi, hz0, hz1, hz2⟩ := info_parts info_int
  have hb := bel2 w (.cells #[.int .i64 n, .slice oa R.length cap] 28) (.cells #[] 3)
  have a0 := two_a w #[.int .i64 n, .slice oa R.length cap] 28 #[] 3 0 _ rfl
  have a1 := two_a w #[.int .i64 n, .slice oa R.length cap] 28 #[] 3 1 _ rfl
  have hI : OwnI ((w.alloc (.cells #[.int .i64 n, .slice oa R.length cap] 28)).alloc (.cells #[] 3)) (w.heap.size + 1) (.slice (some ⟨w.heap.size + 1, 0, none⟩) 0 0) [] := by
    have h := (OwnI.empty (w.alloc (.cells #[.int .i64 n, .slice oa R.length cap] 28)) _ (Nat.le_refl _))
    simpa using h
  cases ht : isTabF n R
  · have HM : Hid (agreeSetsF n R m = []) := by show agreeSetsF n R m = []; unfold agreeSetsF; rw [ht]; rfl
    go_enter Try.func147, Try.ntmps147
    go_wp2_with (first | (go_at_call 79; refine Calls.mono (Ans.eqb (c_IsTable _ _ _ _ _ (hR.keep hb)) ht) ?_; rintro e w1 ⟨rfl, hbn⟩; replace a0 := cell_keep a0 hbn; replace a1 := cell_keep a1 hbn; replace hI := hI.keep hbn; replace hb := bel_to (w := w) (by first | exact hb | exact hb.alloc hb.size _ | exact (hb.alloc hb.size _).alloc (Nat.le_trans hb.size (by simp)) _ | exact hb.setCell (by simp [hb.size]) _) hbn; clear hbn))
    go_ret
    exact ⟨_, rfl, by rw [HM.out]; exact hI.based (Nat.le_succ _), hb⟩
  cases hm : modeF m
  · have HM : Hid (agreeSetsF n R m = []) := by show agreeSetsF n R m = []; unfold agreeSetsF; rw [ht, hm]; rfl
    go_enter Try.func147, Try.ntmps147
    go_wp2_with (first | (go_at_call 79; refine Calls.mono (Ans.eqb (c_IsTable _ _ _ _ _ (hR.keep hb)) ht) ?_; rintro e w1 ⟨rfl, hbn⟩; replace a0 := cell_keep a0 hbn; replace a1 := cell_keep a1 hbn; replace hI := hI.keep hbn; replace hb := bel_to (w := w) (by first | exact hb | exact hb.alloc hb.size _ | exact (hb.alloc hb.size _).alloc (Nat.le_trans hb.size (by simp)) _ | exact hb.setCell (by simp [hb.size]) _) hbn; clear hbn) | (go_at_call 80; refine Calls.mono (Ans.eqb (c_isMode _ _) hm) ?_; rintro e w1 ⟨rfl, hbn⟩; replace a0 := cell_keep a0 hbn; replace a1 := cell_keep a1 hbn; replace hI := hI.keep hbn; replace hb := bel_to (w := w) (by first | exact hb | exact hb.alloc hb.size _ | exact (hb.alloc hb.size _).alloc (Nat.le_trans hb.size (by simp)) _ | exact hb.setCell (by simp [hb.size]) _) hbn; clear hbn))
    go_ret
    exact ⟨_, rfl, by rw [HM.out]; exact hI.based (Nat.le_succ _), hb⟩
  have HM : Hid (agreeSetsF n R m = flt (agPB R m R.length 0) 32) := by show agreeSetsF n R m = _; unfold agreeSetsF; rw [ht, hm]; rfl
  obtain ⟨hn1, hn5, hr40, hlen⟩ := isTab_of ht
  have HL : Hid (∀ k, k < R.length → ((row R k).length : Int) = n) := hlen
  clear hlen
  go_enter Try.func147, Try.ntmps147
  go_wp2_with (first | (go_at_call 79; refine Calls.mono (Ans.eqb (c_IsTable _ _ _ _ _ (hR.keep hb)) ht) ?_; rintro e w1 ⟨rfl, hbn⟩; replace a0 := cell_keep a0 hbn; replace a1 := cell_keep a1 hbn; replace hI := hI.keep hbn; replace hb := bel_to (w := w) (by first | exact hb | exact hb.alloc hb.size _ | exact (hb.alloc hb.size _).alloc (Nat.le_trans hb.size (by simp)) _ | exact hb.setCell (by simp [hb.size]) _) hbn; clear hbn) | (go_at_call 80; refine Calls.mono (Ans.eqb (c_isMode _ _) hm) ?_; rintro e w1 ⟨rfl, hbn⟩; replace a0 := cell_keep a0 hbn; replace a1 := cell_keep a1 hbn; replace hI := hI.keep hbn; replace hb := bel_to (w := w) (by first | exact hb | exact hb.alloc hb.size _ | exact (hb.alloc hb.size _).alloc (Nat.le_trans hb.size (by simp)) _ | exact hb.setCell (by simp [hb.size]) _) hbn; clear hbn))
  clear ht hm
  go_loopw [5, 23] (fun v k wr => ∃ (i : Nat) (L : List Int), k = .int .i64 i ∧ i ≤ R.length ∧ Hid (AgL R m i 0 L) ∧ OwnI wr (w.heap.size + 1) v L ∧ wr.cell? ⟨w.heap.size, 1, none⟩ = some (.slice oa R.length cap) ∧ Below w.heap.size w wr) (fun _ k _ => R.length - (intOf k).toNat)
  case atStart => exact ⟨0, [], rfl, Nat.zero_le _, AgL.none R m, hI, a1, hb⟩
  case round =>
    clear a0 a1 hb hI
    obtain ⟨i, L, rfl, hi', HAg, hI, a1, hb⟩ := hrel
    by_cases hlt : i < R.length
    · obtain ⟨b, off, rfl, hbs, hca⟩ := hR.at_ (by omega)
      obtain ⟨o1, c1, e1, r1⟩ := hca i hlt
      have hc1 := cell_keep e1 hb
      have HC : Hid (∀ k, k < R.length → ∃ o c, w.cell? ⟨b, off + k, none⟩ = some (.slice o (row R k).length c) ∧ IntsAt w o (row R k)) := hca
      have hic : i ≤ cap := by omega
      clear hca e1
      go_wp2
      go_loopw [5, 33] (fun v k wr => ∃ (j : Nat) (L : List Int), k = .int .i64 j ∧ j ≤ i ∧ Hid (AgL R m i j L) ∧ OwnI wr (w.heap.size + 1) v L ∧ wr.cell? ⟨w.heap.size, 1, none⟩ = some (.slice (some ⟨b, off, none⟩) R.length cap) ∧ Below w.heap.size w wr) (fun _ k _ => i - (intOf k).toNat)
      case atStart => exact ⟨0, L, rfl, Nat.zero_le _, HAg, hI, a1, hb⟩
      case round =>
        clear a1 hb hI hc1 HAg
        obtain ⟨j, L, rfl, hj, HAg, hI, a1, hb⟩ := hrel
        by_cases hlj : j < i
        · obtain ⟨o2, c2, e2, r2⟩ := HC.out j (by omega)
          have hc2 := cell_keep e2 hb
          have hA5 : (row R i).length ≤ 5 := by have := HL.out i hlt; omega
          have hAB : Hid ((row R j).length = (row R i).length) := by have h1 := HL.out i hlt; have h2 := HL.out j (by omega); show (row R j).length = (row R i).length; omega
          have HX : Hid (agreeF m (row R i) (row R j) = agreeF m (row R j) (row R i)) := agree_comm hAB.out.symm
          have HS : Hid (St (agreeF m (row R i) (row R j))) := agreeF_st hA5
          have hll : L.length ≤ 2000 := by have := HAg.out.2.2; omega
          clear e2
          go_wp2_with fail
          refine Calls.mono (c_agree m _ _ _ _ _ _ _ (r1.keep hb) (r2.keep hb) hA5 hAB.out) ?_
          rintro e w1 ⟨rfl, hbn⟩
          replace a1 := cell_keep a1 hbn
          replace hI := hI.keep hbn
          replace hb := bel_to hb hbn
          clear hbn hc2 hA5
          have HY : Hid (∀ x, x = agreeF m (row R i) (row R j) → AgL R m i (j + 1) (L ++ [x])) := fun x hx => HAg.out.snoc hlj (hx.trans HX.out) (hx ▸ HS.out)
          generalize agreeF m (row R i) (row R j) = x at *
          go_wp2_with (first | (at_builtin; refine wpList_append_fresh rfl _ _ 69 rfl (w.heap.size + 1) 3 i0 (.int .i64 0) 1 8 Try.underlying69 hi hz0 hz1 hz2 rfl (by decide) _ _ _ rfl (World.ownsRow.alloc hI _) _ 1 1 [.int .i64 (x)] rfl rfl (by intro j u hj; match j, hj with | 0, hj => simp at hj; subst hj; simp [Addr.add]) (by intro u hu; simp at hu; subst hu; rfl) (by unfold maxLen; omega) (by omega) (by have := World.block_lt_of_cell? _ _ a1; simp at this; simp; omega) ?_; intro v' w1 hown hgrow hfr; replace hb := (hb.alloc hb.size _).grown hgrow (by have := hb.size; simp; omega) (fun g hg => Nat.le_trans (Nat.le_succ _) (World.ownsRow.lt hI g hg).1); replace a1 := cell_gr (cell_al a1 _) (World.ownsRow.alloc hI _) (by omega) hgrow; replace hI := OwnI.snoc hown; clear hown hgrow hfr) | fail)
          go_roundw
          case rel => exact ⟨j + 1, _, by go_num, by omega, HY.out x rfl, hI, a1, hb⟩
          case measure => simp [intOf]; omega
        · have hjj : j = i := by omega
          have HN : Hid (AgL R m (i + 1) 0 L) := by have h := HAg.out; rw [hjj] at h; exact h.next (by omega)
          clear hjj
          go_wp2
          go_roundw
          case rel => exact ⟨i + 1, L, by go_num, by omega, HN.out, hI, a1, hb⟩
          case measure => simp [intOf]; omega
    · have hii : i = R.length := by omega
      have HD : Hid (distinctF L = flt (agPB R m R.length 0) 32) := by have h := HAg.out; rw [hii] at h; exact h.distinct
      have hfr : L.length ≤ Room := by have := HAg.out.2.2; unfold Room; omega
      clear hii HAg
      obtain ⟨oF, cF, rfl, hcF, hnF⟩ := hI.cap
      go_wp2_with fail
      refine (c_distinct _ _ _ _ (hI.ints rfl hfr) hnF).mono ?_
      rintro e w1 ⟨v1, rfl, hD, hbn⟩
      replace hD := hD.based hb.size
      replace hb := bel_to hb hbn
      clear hbn
      go_wp2
      go_ret
      exact ⟨_, rfl, by rw [HM.out, ← HD.out]; exact hD, hb⟩
set_option maxHeartbeats 1600000 in
theorem c_specAgreeSets (n : Int) (oa) (cap : Nat) (R : List (List Int)) (m : Int) (w : World) (hR : RowsAt w oa R) :
    Calls Try.prog 144 #[.agg #[.int .i64 n, .slice oa R.length cap], .int .i64 m] w fun e w' => ∃ v, e = .returned v ∧ OwnI w' w.heap.size v (agreeSetsF n R m) ∧ Below w.heap.size w w' := by
  obtain ⟨i0, hi, hz0, hz1, hz2⟩ := info_parts info_int
  have hb := bel2 w (.cells #[.int .i64 n, .slice oa R.length cap] 28) (.cells #[] 3)
  have a0 := two_a w #[.int .i64 n, .slice oa R.length cap] 28 #[] 3 0 _ rfl
  have a1 := two_a w #[.int .i64 n, .slice oa R.length cap] 28 #[] 3 1 _ rfl
  have hI : OwnI ((w.alloc (.cells #[.int .i64 n, .slice oa R.length cap] 28)).alloc (.cells #[] 3)) (w.heap.size + 1) (.slice (some ⟨w.heap.size + 1, 0, none⟩) 0 0) [] := by
    have h := (OwnI.empty (w.alloc (.cells #[.int .i64 n, .slice oa R.length cap] 28)) _ (Nat.le_refl _))
    simpa using h
  cases hf : (isTabF n R && modeF m)
  · have HM : Hid (agreeSetsF n R m = []) := by show agreeSetsF n R m = []; unfold agreeSetsF; rw [hf]; rfl
    go_enter Try.func144, Try.ntmps144
    go_wp2
    go_loopw [5, 6] (fun v k wr => k = .int .i64 0 ∧ OwnI wr (w.heap.size + 1) v [] ∧ wr.cell? ⟨w.heap.size, 0, none⟩ = some (.int .i64 n) ∧ wr.cell? ⟨w.heap.size, 1, none⟩ = some (.slice oa R.length cap) ∧ Below w.heap.size w wr) (fun _ _ _ => 0)
    case atStart => exact ⟨rfl, hI, a0, a1, hb⟩
    case round =>
      clear a0 a1 hb hI
      obtain ⟨rfl, hI, a0, a1, hb⟩ := hrel
      by_cases h0 : 0 < R.length
      · go_wp2_with (first | (go_at_call 75; refine Calls.mono (Ans.eqb (c_l4Fine _ _ _ _ _ _ (hR.keep hb)) hf) ?_; rintro e w1 ⟨rfl, hbn⟩; replace a0 := cell_keep a0 hbn; replace a1 := cell_keep a1 hbn; replace hI := hI.keep hbn; replace hb := bel_to (w := w) (by first | exact hb | exact hb.alloc hb.size _ | exact (hb.alloc hb.size _).alloc (Nat.le_trans hb.size (by simp)) _ | exact hb.setCell (by simp [hb.size]) _) hbn; clear hbn))
        go_ret
        exact ⟨_, rfl, by rw [HM.out]; exact hI.based (Nat.le_succ _), hb⟩
      · go_wp2
        go_ret
        exact ⟨_, rfl, by rw [HM.out]; exact hI.based (Nat.le_succ _), hb⟩
  have HM : Hid (agreeSetsF n R m = flt (agQB R m R.length 0) 32) := by show agreeSetsF n R m = _; unfold agreeSetsF; rw [hf, agQB_all]; rfl
  have ht : isTabF n R = true := by have := hf; simp only [Bool.and_eq_true] at this; exact this.1
  obtain ⟨hn1, hn5, hr40, hlen⟩ := isTab_of ht
  have HT : Hid (isTabF n R = true) := ht
  have HL : Hid (∀ k, k < R.length → ((row R k).length : Int) = n) := hlen
  clear hlen ht
  go_enter Try.func144, Try.ntmps144
  go_wp2
  go_loopw [5, 6] (fun v k wr => ∃ i : Nat, k = .int .i64 i ∧ i ≤ R.length ∧ OwnI wr (w.heap.size + 1) v (flt (agQB R m i 0) 32) ∧ wr.cell? ⟨w.heap.size, 0, none⟩ = some (.int .i64 n) ∧ wr.cell? ⟨w.heap.size, 1, none⟩ = some (.slice oa R.length cap) ∧ Below w.heap.size w wr) (fun _ k _ => R.length - (intOf k).toNat)
  case atStart => exact ⟨0, rfl, Nat.zero_le _, by rw [agQB_none]; exact hI, a0, a1, hb⟩
  case round =>
    clear a0 a1 hb hI
    obtain ⟨i, rfl, hi', hI, a0, a1, hb⟩ := hrel
    by_cases hlt : i < R.length
    · go_wp2_with (first | (go_at_call 75; refine Calls.mono (Ans.eqb (c_l4Fine _ _ _ _ _ _ (hR.keep hb)) hf) ?_; rintro e w1 ⟨rfl, hbn⟩; replace a0 := cell_keep a0 hbn; replace a1 := cell_keep a1 hbn; replace hI := hI.keep hbn; replace hb := bel_to (w := w) (by first | exact hb | exact hb.alloc hb.size _ | exact (hb.alloc hb.size _).alloc (Nat.le_trans hb.size (by simp)) _ | exact hb.setCell (by simp [hb.size]) _) hbn; clear hbn))
      go_loopw [5, 7] (fun v k wr => ∃ j : Nat, k = .int .i64 j ∧ i < j ∧ j ≤ R.length ∧ OwnI wr (w.heap.size + 1) v (flt (agQB R m i j) 32) ∧ wr.cell? ⟨w.heap.size, 0, none⟩ = some (.int .i64 n) ∧ wr.cell? ⟨w.heap.size, 1, none⟩ = some (.slice oa R.length cap) ∧ Below w.heap.size w wr) (fun _ k _ => R.length - (intOf k).toNat)
      case atStart => exact ⟨i + 1, by go_num, by omega, by omega, by rw [agQB_first]; exact hI, a0, a1, hb⟩
      case round =>
        clear a0 a1 hb hI
        obtain ⟨j, rfl, hij, hj, hI, a0, a1, hb⟩ := hrel
        by_cases hlj : j < R.length
        · have HS : Hid (St (agreeF m (row R i) (row R j))) := agreeF_st (by have := HL.out i hlt; omega)
          have HX : Hid (putF (flt (agQB R m i j) 32) (agreeF m (row R i) (row R j)) = flt (agQB R m i (j + 1)) 32) := (putF_flt _ HS.out).trans (by rw [agQB_step R m i j hij])
          have hfl := flt_le (agQB R m i j) 32
          go_wp2_with fail
          refine Calls.mono (c_l4Agree n _ _ _ m i j _ (hR.keep hb) HT.out hlt hlj) ?_
          rintro e w1 ⟨rfl, hbn⟩
          replace a0 := cell_keep a0 hbn
          replace a1 := cell_keep a1 hbn
          replace hI := hI.keep hbn
          replace hb := bel_to hb hbn
          clear hbn
          generalize agreeF m (row R i) (row R j) = x at *
          generalize flt (agQB R m i j) 32 = F at *
          obtain ⟨oF, cF, rfl⟩ := hI.shape
          go_wp2_with fail
          refine (c_l4Put _ _ _ _ _ _ (by omega) hI (by have := World.block_lt_of_cell? _ _ a1; simp at this; omega)).mono ?_
          rintro e w2 ⟨v2, rfl, hI2, hbn⟩
          replace a0 := cell_keep a0 hbn
          replace a1 := cell_keep a1 hbn
          replace hb := bel_to hb hbn
          clear hbn hI
          go_wp2
          go_roundw
          case rel => exact ⟨j + 1, by go_num, by omega, by omega, by rw [← HX.out]; exact hI2, a0, a1, hb⟩
          case measure => simp [intOf]; omega
        · have hjj : j = R.length := by omega
          have HX : Hid (flt (agQB R m i j) 32 = flt (agQB R m (i + 1) 0) 32) := by
            show flt (agQB R m i j) 32 = flt (agQB R m (i + 1) 0) 32
            rw [hjj, agQB_next R m i hlt, agQB_first]
          clear hjj
          go_wp2
          go_roundw
          case rel => exact ⟨i + 1, by go_num, by omega, by rw [← HX.out]; exact hI, a0, a1, hb⟩
          case measure => simp [intOf]; omega
    · have hii : i = R.length := by omega
      have HI2 : Hid (flt (agQB R m i 0) 32 = flt (agQB R m R.length 0) 32) := by show flt (agQB R m i 0) 32 = flt (agQB R m R.length 0) 32; rw [hii]
      clear hii
      go_wp2
      go_ret
      exact ⟨_, rfl, by rw [HM.out, ← HI2.out]; exact hI.based (Nat.le_succ _), hb⟩
end Go.Proofs.Ytkanbnbofoabeaa
namespace Go.Proofs.Ytkanbnbofoabeaa
open Go.RowKit
set_option linter.unusedVariables false
set_option maxRecDepth 100000

theorem one_wrap : ∀ j < 5, one ((j : Nat) : Int) = IntKind.i64.wrap (2 ^ j) := by decide +kernel
theorem putF_take {L : List Int} (h : ∀ x ∈ L, St x) {k : Nat} (hk : k < L.length) : flt (inB' (L.take (k + 1))) 32 = putF (flt (inB' (L.take k)) 32) (nth L k) := by
  rw [putF_flt _ (h _ (List.mem_iff_getElem?.2 ⟨k, nth_eq hk⟩))]
  congr 1
  funext y
  unfold inB'
  rw [List.take_add_one, nth_eq hk]
  simp [Bool.decide_or]
  rfl
set_option maxHeartbeats 1600000 in
theorem c_specGrowTransversals (oa) (cap : Nat) (L : List Int) (e : Int) (w : World) (hL : IntsAt w oa L) :
    Calls Try.prog 143 #[.slice oa L.length cap, .int .i64 e] w fun en w' => ∃ v, en = .returned v ∧ OwnI w' w.heap.size v (growF L e) ∧ Below w.heap.size w w' := by
  obtain ⟨i0, hi, hz0, hz1, hz2⟩ := info_parts info_int
  have hn : L.length ≤ 1073741824 := hL.len
  have hb := (Below.refl w.heap.size w).alloc (Nat.le_refl _) (.cells #[] 3)
  have hI := OwnI.empty w w.heap.size (Nat.le_refl _)
  cases hs : (setsF L && decide (L.length ≤ 100))
  · have HM : Hid (growF L e = []) := by show growF L e = []; unfold growF growOk; rw [hs]; rfl
    go_enter Try.func143, Try.ntmps143
    go_wp2_with (first | (go_at_call 138; refine Calls.mono (Ans.eqb (c_l4Sets _ _ _ _ (hL.keep hb)) hs) ?_; rintro e w1 ⟨rfl, hbn⟩; replace hI := hI.keep hbn; replace hb := bel_to (w := w) (by first | exact hb | exact hb.alloc hb.size _ | exact (hb.alloc hb.size _).alloc (Nat.le_trans hb.size (by simp)) _ | exact hb.setCell (by simp [hb.size]) _) hbn; clear hbn))
    go_ret
    exact ⟨_, rfl, by rw [HM.out]; exact hI, hb⟩
  · cases he : stB e
    · have HM : Hid (growF L e = []) := by show growF L e = []; unfold growF growOk; rw [hs, he]; rfl
      go_enter Try.func143, Try.ntmps143
      go_wp2_with (first | (go_at_call 138; refine Calls.mono (Ans.eqb (c_l4Sets _ _ _ _ (hL.keep hb)) hs) ?_; rintro e w1 ⟨rfl, hbn⟩; replace hI := hI.keep hbn; replace hb := bel_to (w := w) (by first | exact hb | exact hb.alloc hb.size _ | exact (hb.alloc hb.size _).alloc (Nat.le_trans hb.size (by simp)) _ | exact hb.setCell (by simp [hb.size]) _) hbn; clear hbn) | (go_at_call 157; refine Calls.mono (Ans.eqb (c_l2Valid _ _) he) ?_; rintro e w1 ⟨rfl, hbn⟩; replace hI := hI.keep hbn; replace hb := bel_to (w := w) (by first | exact hb | exact hb.alloc hb.size _ | exact (hb.alloc hb.size _).alloc (Nat.le_trans hb.size (by simp)) _ | exact hb.setCell (by simp [hb.size]) _) hbn; clear hbn))
      go_ret
      exact ⟨_, rfl, by rw [HM.out]; exact hI, hb⟩
    · have hs' : setsF L = true ∧ L.length ≤ 100 := by simpa using hs
      have hsm := setsF_mem hs'.1
      have HM : Hid (growF L e = minF (distinctF (grownF L e))) := by show growF L e = _; unfold growF growOk; rw [hs, he]; rfl
      go_enter Try.func143, Try.ntmps143
      go_wp2_with (first | (go_at_call 138; refine Calls.mono (Ans.eqb (c_l4Sets _ _ _ _ (hL.keep hb)) hs) ?_; rintro e w1 ⟨rfl, hbn⟩; replace hI := hI.keep hbn; replace hb := bel_to (w := w) (by first | exact hb | exact hb.alloc hb.size _ | exact (hb.alloc hb.size _).alloc (Nat.le_trans hb.size (by simp)) _ | exact hb.setCell (by simp [hb.size]) _) hbn; clear hbn) | (go_at_call 157; refine Calls.mono (Ans.eqb (c_l2Valid _ _) he) ?_; rintro e w1 ⟨rfl, hbn⟩; replace hI := hI.keep hbn; replace hb := bel_to (w := w) (by first | exact hb | exact hb.alloc hb.size _ | exact (hb.alloc hb.size _).alloc (Nat.le_trans hb.size (by simp)) _ | exact hb.setCell (by simp [hb.size]) _) hbn; clear hbn))
      go_loopw [5, 6] (fun v i wr => ∃ k : Nat, i = .int .i64 k ∧ k ≤ L.length ∧ OwnI wr w.heap.size v (grownF (L.take k) e) ∧ Below w.heap.size w wr) (fun _ i _ => L.length - (intOf i).toNat)
      case atStart => exact ⟨0, rfl, Nat.zero_le _, by simpa [grownF] using hI, hb⟩
      case round =>
        clear hI hb
        obtain ⟨k, rfl, hk, hI, hb⟩ := hrel
        by_cases hlt : k < L.length
        · have HS : Hid (grownF (L.take (k + 1)) e = grownF (L.take k) e ++ growOne e (nth L k)) := grown_succ e hlt
          have hfl : (grownF (L.take k) e).length ≤ 500 := by
            have := grown_len e (L.take k)
            rw [List.length_take] at this
            omega
          obtain ⟨b, off, rfl, hbs, hc⟩ := hL.at_ (by omega)
          have hc0 := hc k hlt
          have hc1 := cell_keep hc0 hb
          clear hc
          generalize nth L k = x at *
          generalize grownF (L.take k) e = F at *
          cases hap : (bits BinOp.and .i64 x e == 0)
          · have hap2 : (bits BinOp.and .i64 x e != 0) = true := by rw [bneI, hap]; rfl
            have HG : Hid (growOne e x = [x]) := by show growOne e x = [x]; unfold growOne apart; rw [hap]; rfl
            go_wp2_with (first | (at_builtin; refine wpList_append_own _ rfl _ _ 69 rfl w.heap.size 3 i0 (.int .i64 0) 1 8 Try.underlying69 hi hz0 hz1 hz2 rfl (by decide) _ _ _ rfl (World.ownsRow.alloc hI _) _ 1 1 [.int .i64 (x)] rfl rfl (by intro j u hj; match j, hj with | 0, hj => simp at hj; subst hj; simp [Addr.add]) (by intro u hu; simp at hu; subst hu; rfl) (by unfold maxLen; omega) (by omega) (by have := hb.size; simp; omega) ?_; intro v' w1 hown hgrow _; replace hb := (hb.alloc hb.size _).grown hgrow (by have := hb.size; simp; omega) (fun g hg => (World.ownsRow.lt hI g hg).1); replace hI := OwnI.snoc hown; clear hown hgrow) | fail)
            go_roundw
            case rel => exact ⟨k + 1, by go_num, by omega, by rw [HS.out, HG.out]; exact hI, hb⟩
            case measure => simp [intOf]; omega
          · have hap2 : (bits BinOp.and .i64 x e != 0) = false := by rw [bneI, hap]; rfl
            have HG : Hid (growOne e x = (membersF e).map (fun c => uni x (one c))) := by show growOne e x = _; unfold growOne apart; rw [hap]; rfl
            have hme : membersF e = membersUpTo e 5 := by unfold membersF; rw [he]; rfl
            rw [hme] at HG
            clear hme
            go_wp2
            go_loopw [5, 7] (fun v i wr => ∃ j : Nat, i = .int .i64 j ∧ j ≤ 5 ∧ OwnI wr w.heap.size v (F ++ (membersUpTo e j).map (fun c => uni x (one c))) ∧ Below w.heap.size w wr) (fun _ i _ => 5 - (intOf i).toNat)
            case atStart => exact ⟨0, rfl, Nat.zero_le _, by simpa [membersUpTo] using hI, hb⟩
            case round =>
              clear hI hc1 hb
              obtain ⟨j, rfl, hj, hI, hb⟩ := hrel
              have hc1 := cell_keep hc0 hb
              by_cases hlj : j < 5
              · have HT : Hid (membersUpTo e (j + 1) = membersUpTo e j ++ (if hasc e j then [(j : Int)] else [])) := membersUpTo_succ e j
                have hml := membersUpTo_le e j
                have hfl2 : (F ++ (membersUpTo e j).map (fun c => uni x (one c))).length ≤ 505 := by rw [List.length_append, List.length_map]; omega
                cases hh : hasc e j
                · have hh2 : (bits BinOp.and IntKind.i64 (e / 2 ^ j) 1 == 1) = false := hh
                  go_wp2
                  go_roundw
                  case rel => exact ⟨j + 1, by go_num, by omega, by rw [HT.out, hh]; simpa using hI, hb⟩
                  case measure => simp [intOf]; omega
                · have hh2 : (bits BinOp.and IntKind.i64 (e / 2 ^ j) 1 == 1) = true := hh
                  have HA : Hid (F ++ (membersUpTo e j).map (fun c => uni x (one c)) ++ [uni x (one j)] = F ++ (membersUpTo e (j + 1)).map (fun c => uni x (one c))) := by
                    show F ++ (membersUpTo e j).map (fun c => uni x (one c)) ++ [uni x (one j)] = F ++ (membersUpTo e (j + 1)).map (fun c => uni x (one c))
                    rw [HT.out, hh, List.append_assoc]; simp
                  have HW : Hid (uni x (one (j : Int)) = bits BinOp.or IntKind.i64 x (IntKind.i64.wrap (2 ^ j))) := (by show uni x (one (j : Int)) = bits BinOp.or IntKind.i64 x (IntKind.i64.wrap (2 ^ j)); unfold uni; rw [one_wrap j hlj])
                  clear HT
                  generalize F ++ (membersUpTo e j).map (fun c => uni x (one c)) = F2 at *
                  go_wp2_with fail
                  go_region_held3 (fun w' => Below w.heap.size w w' ∧ OwnI w' w.heap.size u5 F2 ∧ w'.cell? ⟨b, off + k, none⟩ = some (.int .i64 x))
                    (first | exact hS2 | (rename_i hS _ _; exact ⟨hS.1.alloc hS.1.size _, World.ownsRow.alloc hS.2.1 _, cell_keep hS.2.2 ((Below.refl _ _).alloc (Nat.le_refl _) _)⟩) | exact ⟨hb.drew, hI.keep (Below.refl _ _).drew, cell_keep hc1 (Below.refl _ _).drew⟩ | exact ⟨(hb.alloc hb.size _).drew, (OwnI.keep (World.ownsRow.alloc hI _) (Below.refl _ _).drew), cell_keep (cell_keep hc1 ((Below.refl _ _).alloc (Nat.le_refl _) _)) (Below.refl _ _).drew⟩)
                    (first
                      | (rename_i hS _ _; go_loud (refine step_append_held _ (by rfl) _ _ 69 (by rfl) w.heap.size 3 i0 (.int .i64 0) 1 8 Try.underlying69 hi hz0 hz1 hz2 rfl (by decide) u5 _ _ (by rfl) hS.2.1 _ 1 1 [.int .i64 (bits BinOp.or .i64 x (IntKind.i64.wrap (2 ^ j)))] (by rfl) rfl (by intro j u hj; match j, hj with | 0, hj => simp at hj; subst hj; simp [Addr.add]) (by intro u hu; simp at hu; subst hu; rfl) (by unfold maxLen; omega) (by omega) hS.1.size ?_); intro v2 w2 hown hold hgrow hfr; have hS2 := (show _ ∧ _ ∧ _ from ⟨hS.1.grown hgrow hS.1.size (fun g hg => (World.ownsRow.lt hS.2.1 g hg).1), hold, hgrow.cell hS.2.2 (fun e => absurd (World.ownsRow.lt hS.2.1 _ e.symm).1 (by simp; omega))⟩); have hO := OwnI.snoc hown; clear hown hold hgrow hfr)
                      | fail)
                  rename_i hS
                  replace hb := hS.1
                  have HI := (show Hid _ from hO)
                  clear hO hS
                  go_wp2
                  go_roundw
                  case rel => exact ⟨j + 1, by go_num, by omega, by rw [← HA.out, HW.out]; exact HI.out, hb⟩
                  case measure => simp [intOf]; omega
              · have hjj : j = 5 := by omega
                have HA : Hid (F ++ (membersUpTo e j).map (fun c => uni x (one c)) = F ++ (membersUpTo e 5).map (fun c => uni x (one c))) := by
                  show F ++ (membersUpTo e j).map (fun c => uni x (one c)) = F ++ (membersUpTo e 5).map (fun c => uni x (one c))
                  rw [hjj]
                have HJ : Hid (j = 5) := hjj
                clear hjj
                go_wp2
                go_roundw
                case rel => exact ⟨k + 1, by go_num, by omega, by rw [HS.out, HG.out, ← HA.out]; exact hI, hb⟩
                case measure => simp [intOf]; omega
        · have hkk : k = L.length := by omega
          have HF : Hid (grownF (L.take k) e = grownF L e) := by show grownF (L.take k) e = grownF L e; rw [hkk, List.take_length]
          have hfl : (grownF (L.take k) e).length ≤ 500 := by
            have := grown_len e (L.take k)
            rw [List.length_take] at this
            omega
          have hgs : ∀ y ∈ grownF (L.take k) e, St y := by rw [HF.out]; exact grown_st hsm
          have HD : Hid (distinctF (grownF (L.take k) e) = flt (inB' (grownF (L.take k) e)) 32) := distinctF_flt hgs
          rw [← HF.out] at HM
          clear hkk HF
          generalize grownF (L.take k) e = G at *
          obtain ⟨oG, cG, rfl⟩ := hI.shape
          have hGr : G.length ≤ Room := by unfold Room; omega
          go_wp2
          go_loopw [8, 9] (fun v i wr => ∃ j : Nat, i = .int .i64 j ∧ j ≤ G.length ∧ OwnI wr w.heap.size v (flt (inB' (G.take j)) 32) ∧ OwnI wr w.heap.size (.slice oG G.length cG) G ∧ Below w.heap.size w wr) (fun _ i _ => G.length - (intOf i).toNat)
          case atStart =>
            have e0 : flt (inB' (G.take 0)) 32 = [] := by unfold flt inB'; simp
            exact ⟨0, rfl, Nat.zero_le _, by rw [e0]; exact (OwnI.empty _ _ (Nat.le_refl _)).based hb.size, World.ownsRow.alloc hI _, hb.alloc hb.size _⟩
          case round =>
            clear hI hb
            obtain ⟨j, rfl, hj, hP, hI, hb⟩ := hrel
            have hfl3 := flt_le (inB' (G.take j)) 32
            by_cases hlj : j < G.length
            · have HT : Hid (flt (inB' (G.take (j + 1))) 32 = putF (flt (inB' (G.take j)) 32) (nth G j)) := putF_take hgs hlj
              obtain ⟨b2, off2, rfl, hbs2, hca⟩ := (hI.ints rfl hGr).at_ (by omega)
              have hc2 := hca j hlj
              clear hca
              generalize nth G j = y at *
              generalize flt (inB' (G.take j)) 32 = P at *
              obtain ⟨oP, cP, rfl⟩ := hP.shape
              go_wp2_with fail
              refine (c_l4Put _ _ _ _ _ _ (by omega) hP hb.size).mono ?_
              rintro en w1 ⟨v1, rfl, hP1, hbn⟩
              replace hb := bel_to hb hbn
              replace hI := hI.keep hbn
              clear hbn hP
              go_wp2
              go_roundw
              case rel => exact ⟨j + 1, by go_num, by omega, by rw [HT.out]; exact hP1, hI, hb⟩
              case measure => simp [intOf]; omega
            · have hjj : j = G.length := by omega
              have HE : Hid (flt (inB' (G.take j)) 32 = distinctF G) := by show flt (inB' (G.take j)) 32 = distinctF G; rw [HD.out, hjj, List.take_length]
              clear hjj
              obtain ⟨oP, cP, rfl⟩ := hP.shape
              have hPr : (flt (inB' (G.take j)) 32).length ≤ Room := by unfold Room; omega
              go_wp2_with fail
              refine (c_specMinimalSets _ _ _ _ (hP.ints rfl hPr)).mono ?_
              rintro en w1 ⟨v1, rfl, hR, hbn⟩
              replace hR := hR.based hb.size
              replace hb := bel_to hb hbn
              go_wp2
              go_ret
              exact ⟨_, rfl, by rw [HM.out, ← HE.out]; exact hR, hb⟩
end Go.Proofs.Ytkanbnbofoabeaa
namespace Go.Proofs.Ytkanbnbofoabeaa
open Go.RowKit
set_option linter.unusedVariables false
set_option maxRecDepth 100000

theorem transF_no {L : List Int} {n : Int} (h : transOk L n = false) : transF L n = [] := by unfold transF; rw [h]; rfl
set_option maxHeartbeats 800000 in
theorem c_Transversals (oa) (cap : Nat) (L : List Int) (n : Int) (w : World) (hL : IntsAt w oa L) :
    Calls Try.prog 114 #[.slice oa L.length cap, .int .i64 n] w fun en w' => ∃ v, en = .returned v ∧ OwnI w' w.heap.size v (transF L n) ∧ Below w.heap.size w w' := by
  obtain ⟨i0, hi, hz0, hz1, hz2⟩ := info_parts info_int
  have hn : L.length ≤ 1073741824 := hL.len
  have hb := (Below.refl w.heap.size w).alloc (Nat.le_refl _) (.cells #[] 3)
  have hI := OwnI.empty w w.heap.size (Nat.le_refl _)
  by_cases h0 : 0 ≤ n
  case neg =>
    have HM : Hid (transF L n = []) := transF_no (by unfold transOk; simp [h0])
    go_enter Try.func114, Try.ntmps114
    go_wp2
    go_ret
    exact ⟨_, rfl, by rw [HM.out]; exact hI, hb⟩
  by_cases h5 : n ≤ 5
  case neg =>
    have HM : Hid (transF L n = []) := transF_no (by unfold transOk; simp [h5])
    go_enter Try.func114, Try.ntmps114
    go_wp2
    go_ret
    exact ⟨_, rfl, by rw [HM.out]; exact hI, hb⟩
  by_cases h100 : L.length ≤ 100
  case neg =>
    have HM : Hid (transF L n = []) := transF_no (by unfold transOk; simp [h100])
    go_enter Try.func114, Try.ntmps114
    go_wp2
    go_ret
    exact ⟨_, rfl, by rw [HM.out]; exact hI, hb⟩
  have hp := (pow_wrap h0 h5).1
  obtain ⟨hp1, hp2, hp3⟩ := pow_nat h0 h5
  have HT : Hid (L.all (isAttr n) = true → transF L n = minF (flt (hitsF L) (2 ^ n.toNat))) := fun h => by unfold transF transOk; rw [h]; simp [h0, h5, h100]
  have HN : Hid (L.all (isAttr n) = false → transF L n = []) := fun h => transF_no (by unfold transOk; rw [h]; simp)
  generalize hQ : (2 : Nat) ^ n.toNat = N at *
  have hp4 : wrap64 (2 ^ n.toNat) = N := by rw [hp, ← hp1]
  clear hp hp1 hQ
  go_enter Try.func114, Try.ntmps114
  go_wp2
  go_loopw [24] (fun i wr => ∃ k : Nat, i = .int .i64 k ∧ k ≤ L.length ∧ (L.take k).all (isAttr n) = true ∧ OwnI wr w.heap.size (.slice (some ⟨w.heap.size, 0, none⟩) 0 0) [] ∧ Below w.heap.size w wr) (fun i _ => L.length - (intOf i).toNat)
  case atStart => exact ⟨0, rfl, Nat.zero_le _, by simp, hI, hb⟩
  case round =>
    clear hI hb
    obtain ⟨k, rfl, hk, hall, hI, hb⟩ := hrel
    have HA : Hid ((L.take k).all (isAttr n) = true) := hall
    clear hall
    by_cases hlt : k < L.length
    · obtain ⟨b, off, rfl, hbs, hc⟩ := hL.at_ (by omega)
      have hc1 := cell_keep (hc k hlt) hb
      have HS : Hid ((L.take (k + 1)).all (isAttr n) = ((L.take k).all (isAttr n) && isAttr n (nth L k))) := all_take_succ _ L k hlt
      have HF : Hid (isAttr n (nth L k) = false → L.all (isAttr n) = false) := all_false _ L k hlt
      clear hc
      generalize nth L k = x at *
      cases hst : isAttr n x
      · go_wp2_with (first | (go_at_call 81; refine Calls.mono (Ans.eqb (c_isAttributes _ _ _) hst) ?_; rintro e w1 ⟨rfl, hbn⟩; replace hI := hI.keep hbn; replace hb := bel_to (w := w) (by first | exact hb | exact hb.alloc hb.size _ | exact (hb.alloc hb.size _).alloc (Nat.le_trans hb.size (by simp)) _ | exact hb.setCell (by simp [hb.size]) _) hbn; clear hbn))
        go_ret
        exact ⟨_, rfl, by rw [HN.out (HF.out hst)]; exact hI, hb⟩
      · go_wp2_with (first | (go_at_call 81; refine Calls.mono (Ans.eqb (c_isAttributes _ _ _) hst) ?_; rintro e w1 ⟨rfl, hbn⟩; replace hI := hI.keep hbn; replace hb := bel_to (w := w) (by first | exact hb | exact hb.alloc hb.size _ | exact (hb.alloc hb.size _).alloc (Nat.le_trans hb.size (by simp)) _ | exact hb.setCell (by simp [hb.size]) _) hbn; clear hbn))
        go_roundw
        case rel => exact ⟨k + 1, by go_num, by omega, by rw [HS.out, HA.out, hst]; rfl, hI, hb⟩
        case measure => simp [intOf]; omega
    · have hkk : k = L.length := by omega
      have HM : Hid (transF L n = minF (flt (hitsF L) N)) := HT.out (by have := HA.out; rw [hkk, List.take_length] at this; exact this)
      clear hkk
      go_wp2
      go_loopw [5, 8] (fun v i wr => ∃ k : Nat, i = .int .i64 k ∧ k ≤ N ∧ OwnI wr w.heap.size v (flt (hitsF L) k) ∧ Below w.heap.size w wr) (fun _ i _ => N - (intOf i).toNat)
      case atStart => exact ⟨0, rfl, Nat.zero_le _, hI, hb⟩
      case round =>
        clear hI hb
        obtain ⟨k, rfl, hk, hI, hb⟩ := hrel
        have HS : Hid (flt (hitsF L) (k + 1) = flt (hitsF L) k ++ (if hitsF L k then [(k : Int)] else [])) := flt_succ _ k
        have hle := flt_le (hitsF L) k
        by_cases hlt : k < N
        · cases hh : hitsF L (k : Int)
          · go_wp2_with (first | (go_at_call 145; refine Calls.mono (Ans.eqb (c_hits _ _ _ _ _ (hL.keep hb)) hh) ?_; rintro e w1 ⟨rfl, hbn⟩; replace hI := hI.keep hbn; replace hb := bel_to (w := w) (by first | exact hb | exact hb.alloc hb.size _ | exact (hb.alloc hb.size _).alloc (Nat.le_trans hb.size (by simp)) _ | exact hb.setCell (by simp [hb.size]) _) hbn; clear hbn))
            go_roundw
            case rel => exact ⟨k + 1, by go_num, by omega, by rw [HS.out, hh]; simpa using hI, hb⟩
            case measure => simp [intOf]; omega
          · go_wp2_with (first | (go_at_call 145; refine Calls.mono (Ans.eqb (c_hits _ _ _ _ _ (hL.keep hb)) hh) ?_; rintro e w1 ⟨rfl, hbn⟩; replace hI := hI.keep hbn; replace hb := bel_to (w := w) (by first | exact hb | exact hb.alloc hb.size _ | exact (hb.alloc hb.size _).alloc (Nat.le_trans hb.size (by simp)) _ | exact hb.setCell (by simp [hb.size]) _) hbn; clear hbn) | (at_builtin; refine wpList_append_own _ rfl _ _ 69 rfl w.heap.size 3 i0 (.int .i64 0) 1 8 Try.underlying69 hi hz0 hz1 hz2 rfl (by decide) _ _ _ rfl (World.ownsRow.alloc hI _) _ 1 1 [.int .i64 ((k : Int))] rfl rfl (by intro j u hj; match j, hj with | 0, hj => simp at hj; subst hj; simp [Addr.add]) (by intro u hu; simp at hu; subst hu; rfl) (by unfold maxLen; omega) (by omega) (by have := hb.size; simp; omega) ?_; intro v' w1 hown hgrow _; replace hb := (hb.alloc hb.size _).grown hgrow (by have := hb.size; simp; omega) (fun g hg => (World.ownsRow.lt hI g hg).1); replace hI := OwnI.snoc hown; clear hown hgrow))
            go_roundw
            case rel => exact ⟨k + 1, by go_num, by omega, by rw [HS.out, hh]; exact hI, hb⟩
            case measure => simp [intOf]; omega
        · have hkk : k = N := by omega
          have HK : Hid (k = N) := hkk
          clear hkk
          have hfr : (flt (hitsF L) k).length ≤ Room := by have := flt_le (hitsF L) k; unfold Room; omega
          obtain ⟨oF, cF, rfl, hcF, hnF⟩ := hI.cap
          have hF := hI.ints rfl hfr
          go_wp2_with fail
          refine (c_MinimalSets _ _ _ _ hF hnF).mono ?_
          rintro e w1 ⟨v1, rfl, hR, hbn⟩
          replace hR := hR.based hb.size
          replace hb := bel_to hb hbn
          clear hbn
          go_wp2
          go_ret
          exact ⟨_, rfl, by rw [HM.out, ← HK.out]; exact hR, hb⟩
set_option maxHeartbeats 800000 in
theorem c_specTransversals (oa) (cap : Nat) (L : List Int) (n : Int) (w : World) (hL : IntsAt w oa L) :
    Calls Try.prog 112 #[.slice oa L.length cap, .int .i64 n] w fun en w' => ∃ v, en = .returned v ∧ OwnI w' w.heap.size v (transF L n) ∧ Below w.heap.size w w' := by
  have hn : L.length ≤ 1073741824 := hL.len
  have hb := (Below.refl w.heap.size w).alloc (Nat.le_refl _) (.cells #[.int .i64 0] 3)
  have hI : OwnI (w.alloc (.cells #[.int .i64 0] 3)) w.heap.size (.slice (some ⟨w.heap.size, 0, none⟩) 1 1) [0] := World.ownsRow_lit w #[.int .i64 0] 1 (Nat.le_refl _) (by decide) rfl
  cases hin : inB n 0 5
  · have HM : Hid (transF L n = []) := transF_no (by unfold transOk; unfold inB at hin; rw [hin]; simp)
    go_enter Try.func112, Try.ntmps112
    go_wp2_with (first | (go_at_call 95; refine Calls.mono (Ans.eqb (c_l1In _ _ _ _) hin) ?_; rintro e w1 ⟨rfl, hbn⟩; replace hb := bel_to (w := w) (by first | exact hb | exact hb.alloc hb.size _ | exact (hb.alloc hb.size _).alloc (Nat.le_trans hb.size (by simp)) _ | exact hb.setCell (by simp [hb.size]) _) hbn; clear hbn))
    go_ret
    exact ⟨_, rfl, by rw [HM.out]; exact (OwnI.empty _ _ (Nat.le_refl _)).based hb.size, hb.alloc hb.size _⟩
  have h05 : 0 ≤ n ∧ n ≤ 5 := by unfold inB at hin; simpa using hin
  by_cases h100 : L.length ≤ 100
  case neg =>
    have HM : Hid (transF L n = []) := transF_no (by unfold transOk; simp [h100])
    go_enter Try.func112, Try.ntmps112
    go_wp2_with (first | (go_at_call 95; refine Calls.mono (Ans.eqb (c_l1In _ _ _ _) hin) ?_; rintro e w1 ⟨rfl, hbn⟩; replace hb := bel_to (w := w) (by first | exact hb | exact hb.alloc hb.size _ | exact (hb.alloc hb.size _).alloc (Nat.le_trans hb.size (by simp)) _ | exact hb.setCell (by simp [hb.size]) _) hbn; clear hbn))
    go_ret
    exact ⟨_, rfl, by rw [HM.out]; exact (OwnI.empty _ _ (Nat.le_refl _)).based hb.size, hb.alloc hb.size _⟩
  have HT : Hid (L.all (isAttr n) = true → transF L n = L.foldl growF [0]) := fun h => transF_fold (by unfold transOk; rw [h]; simp [h05.1, h05.2, h100])
  have HN : Hid (L.all (isAttr n) = false → transF L n = []) := fun h => transF_no (by unfold transOk; rw [h]; simp)
  go_enter Try.func112, Try.ntmps112
  go_wp2_with (first | (go_at_call 95; refine Calls.mono (Ans.eqb (c_l1In _ _ _ _) hin) ?_; rintro e w1 ⟨rfl, hbn⟩; replace hI := hI.keep hbn; replace hb := bel_to (w := w) (by first | exact hb | exact hb.alloc hb.size _ | exact (hb.alloc hb.size _).alloc (Nat.le_trans hb.size (by simp)) _ | exact hb.setCell (by simp [hb.size]) _) hbn; clear hbn))
  go_loopw [5, 6] (fun v i wr => ∃ k : Nat, i = .int .i64 k ∧ k ≤ L.length ∧ (L.take k).all (isAttr n) = true ∧ OwnI wr w.heap.size v ((L.take k).foldl growF [0]) ∧ ((L.take k).foldl growF [0]).length ≤ Room ∧ Below w.heap.size w wr) (fun _ i _ => L.length - (intOf i).toNat)
  case atStart => exact ⟨0, rfl, Nat.zero_le _, by simp, hI, by simp [Room], hb⟩
  case round =>
    clear hI hb
    obtain ⟨k, rfl, hk, hall, hI, hlen, hb⟩ := hrel
    have HA : Hid ((L.take k).all (isAttr n) = true) := hall
    clear hall
    by_cases hlt : k < L.length
    · obtain ⟨b, off, rfl, hbs, hc⟩ := hL.at_ (by omega)
      have hc0 := hc k hlt
      have hc1 := cell_keep hc0 hb
      have HS : Hid ((L.take (k + 1)).all (isAttr n) = ((L.take k).all (isAttr n) && isAttr n (nth L k))) := all_take_succ _ L k hlt
      have HF : Hid (isAttr n (nth L k) = false → L.all (isAttr n) = false) := all_false _ L k hlt
      have HG : Hid ((L.take (k + 1)).foldl growF [0] = growF ((L.take k).foldl growF [0]) (nth L k)) := by
        show (L.take (k + 1)).foldl growF [0] = growF ((L.take k).foldl growF [0]) (nth L k)
        rw [List.take_add_one, nth_eq hlt, List.foldl_append]; rfl
      clear hc
      generalize nth L k = x at *
      generalize (L.take k).foldl growF [0] = F at *
      cases hst : isAttr n x
      · go_wp2_with (first | (go_at_call 76; refine Calls.mono (Ans.eqb (c_specIsAttributes _ _ _) hst) ?_; rintro e w1 ⟨rfl, hbn⟩; replace hb := bel_to (w := w) (by first | exact hb | exact hb.alloc hb.size _ | exact (hb.alloc hb.size _).alloc (Nat.le_trans hb.size (by simp)) _ | exact hb.setCell (by simp [hb.size]) _) hbn; clear hbn))
        go_ret
        exact ⟨_, rfl, by rw [HN.out (HF.out hst)]; exact (OwnI.empty _ _ (Nat.le_refl _)).based hb.size, hb.alloc hb.size _⟩
      · obtain ⟨oF, cF, rfl⟩ := hI.shape
        go_wp2_with (first | (go_at_call 76; refine Calls.mono (Ans.eqb (c_specIsAttributes _ _ _) hst) ?_; rintro e w1 ⟨rfl, hbn⟩; replace hc1 := cell_keep hc1 hbn; replace hI := hI.keep hbn; replace hb := bel_to (w := w) (by first | exact hb | exact hb.alloc hb.size _ | exact (hb.alloc hb.size _).alloc (Nat.le_trans hb.size (by simp)) _ | exact hb.setCell (by simp [hb.size]) _) hbn; clear hbn))
        refine (c_specGrowTransversals _ _ _ _ _ (hI.ints rfl hlen)).mono ?_
        rintro en w1 ⟨v1, rfl, hR, hbn⟩
        replace hR := hR.based hb.size
        replace hb := bel_to hb hbn
        clear hbn hI
        go_wp2
        go_roundw
        case rel => exact ⟨k + 1, by go_num, by omega, by rw [HS.out, HA.out, hst]; rfl, by rw [HG.out]; exact hR, by rw [HG.out]; exact growF_len _ _, hb⟩
        case measure => simp [intOf]; omega
    · have hkk : k = L.length := by omega
      have HM : Hid (transF L n = (L.take k).foldl growF [0]) := by
        have h1 := HA.out
        rw [hkk, List.take_length] at h1
        show transF L n = (L.take k).foldl growF [0]
        rw [hkk, List.take_length]
        exact HT.out h1
      clear hkk
      go_wp2
      go_ret
      exact ⟨_, rfl, by rw [HM.out]; exact hI, hb⟩
end Go.Proofs.Ytkanbnbofoabeaa
namespace Go.Proofs.Ytkanbnbofoabeaa
open Go.RowKit
set_option linter.unusedVariables false
set_option maxRecDepth 100000

def edgesF (n : Int) (L : List Int) : List Int := L.map (dif (allM n))
def keysTF (n : Int) (R : List (List Int)) (m : Int) : List Int := if isTabF n R && modeF m then transF (edgesF n (agreeSetsF n R m)) n else []
theorem keysT_len (n : Int) (R : List (List Int)) (m : Int) : (keysTF n R m).length ≤ Room := by
  unfold keysTF
  split
  · exact transF_len _ _
  · simp
theorem edges_succ {n : Int} {L : List Int} {k : Nat} (h : k < L.length) : edgesF n (L.take (k + 1)) = edgesF n (L.take k) ++ [dif (allM n) (nth L k)] := map_take_succ (f := dif (allM n)) h
theorem empty_behind {w' : World} {B j : Nat} {v : Value} (h : w'.cell? ⟨B, j, none⟩ = some v) : OwnI (w'.alloc (.cells #[] 3)) (B + 1) (.slice (some ⟨w'.heap.size, 0, none⟩) 0 0) [] := OwnI.empty _ _ (World.block_lt_of_cell? _ _ h)
end Go.Proofs.Ytkanbnbofoabeaa
namespace Go.Proofs.Ytkanbnbofoabeaa
open Go.RowKit
set_option linter.unusedVariables false
set_option maxRecDepth 100000

def bordP (R : List (List Int)) (m r x : Int) : Bool := !hasc x r && !holdsF R m x r
def bordOk (n : Int) (R : List (List Int)) (m r : Int) : Bool := (isTabF n R && modeF m) && (decide (0 ≤ r) && decide (r < n))
def bordF (n : Int) (R : List (List Int)) (m r : Int) : List Int := if bordOk n R m r then maxF (flt (bordP R m r) (2 ^ n.toNat)) else []
theorem bord_len (n : Int) (R : List (List Int)) (m r : Int) : (bordF n R m r).length ≤ Room := by
  unfold bordF
  split
  · have := maxF_len (flt (bordP R m r) (2 ^ n.toNat)); unfold Room; omega
  · simp
theorem all_same {p : Int → Bool} {L M : List Int} (h : ∀ x, x ∈ L ↔ x ∈ M) : L.all p = M.all p := by
  rw [Bool.eq_iff_iff, List.all_eq_true, List.all_eq_true]
  exact ⟨fun H x hx => H x ((h x).2 hx), fun H x hx => H x ((h x).1 hx)⟩
theorem maxF_same {L M : List Int} (h : ∀ x, x ∈ L ↔ x ∈ M) (hl : L.length ≤ 100) (hm : M.length ≤ 100) : maxF L = maxF M := by
  unfold maxF
  have e1 : setsF L = setsF M := all_same h
  have e2 : (fun x => inB' L x && maxB L x) = fun x => inB' M x && maxB M x := by
    funext x
    unfold inB' maxB
    rw [all_same h]
    congr 1
    rw [decide_eq_decide]
    exact h x
  rw [e1, e2]
  simp [hl, hm]
theorem bord_dep {n : Int} {R : List (List Int)} {m r x : Int} (h : bordOk n R m r = true) (h0 : 0 ≤ x) (hx : x < 2 ^ n.toNat) : askF n R m x r = true ∧ St x := by
  unfold bordOk at h
  simp only [Bool.and_eq_true, decide_eq_true_eq] at h
  obtain ⟨⟨ht, hm⟩, hr0, hrn⟩ := h
  obtain ⟨h1, h5, _, _⟩ := isTab_of ht
  have hp := (pow_wrap (n := n) (by omega) h5).2.1
  refine ⟨?_, ⟨h0, by omega⟩⟩
  unfold askF isDepF isAttr
  rw [ht, hm]
  simp only [Bool.and_eq_true, decide_eq_true_eq, Bool.and_self, Bool.true_and]
  exact ⟨⟨⟨h1, ⟨⟨⟨by omega, h5⟩, h0⟩, hx⟩⟩, hr0⟩, hrn⟩
theorem c_hasColumn (n : Int) (v : Value) (c : Int) (w : World) : Ans Try.prog 146 #[.agg #[.int .i64 n, v], .int .i64 c] w (.bool (decide (0 ≤ c) && decide (c < n))) := by
  unfold Ans
  have hb := (Below.refl w.heap.size w).alloc (Nat.le_refl _) (.cells #[.int .i64 n, v] 28)
  by_cases h : 0 ≤ c
  · go_enter Try.func146, Try.ntmps146
    go_wp2
    go_ret
    exact ⟨ret_bool (by simp [h]), hb⟩
  · go_enter Try.func146, Try.ntmps146
    go_wp2
    go_ret
    exact ⟨ret_bool (by rw [decide_eq_false (show ¬ (0 ≤ c) by omega)]; rfl), hb⟩

end Go.Proofs.Ytkanbnbofoabeaa
namespace Go.Proofs.Ytkanbnbofoabeaa
open Go.RowKit
set_option linter.unusedVariables false
set_option maxRecDepth 100000

theorem OwnD.nil (w : World) (base : Nat) : OwnD w base (.slice none 0 0) [] := ⟨rfl, Or.inl ⟨rfl, rfl⟩⟩
theorem emptyD_behind {w' : World} {B j : Nat} {v : Value} (h : w'.cell? ⟨B, j, none⟩ = some v) : OwnD (w'.alloc (.cells #[] 33)) (B + 1) (.slice (some ⟨w'.heap.size, 0, none⟩) 0 0) [] := OwnD.empty _ _ (World.block_lt_of_cell? _ _ h)
theorem colG_len (n : Int) (R : List (List Int)) (m : Int) (L : List Int) (r : Int) : (colG n R m L r).length ≤ L.length := by
  unfold colG
  rw [List.length_map]
  exact List.length_filter_le _ _
theorem colsG_len (n : Int) (R : List (List Int)) (m : Int) : ∀ k, (colsG n R m k).length ≤ 32 * k
  | 0 => by simp [colsG]
  | k + 1 => by
    rw [colsG_succ, List.length_append]
    have h1 := colsG_len n R m k
    have h2 := colG_len n R m (partsF n) k
    have h3 := partsF_len n
    omega
end Go.Proofs.Ytkanbnbofoabeaa
namespace Go.Proofs.Ytkanbnbofoabeaa
open Go.RowKit
set_option linter.unusedVariables false
set_option maxRecDepth 100000

theorem some_succ {p : Int → Int → Bool} {r : Int} {P : List Int} {k : Nat} (h : k < P.length) : someF p (P.take (k + 1)) r = someF p (P.take k) r ++ (if !hasc (nth P k) r && p (nth P k) r then [nth P k] else []) := by
  unfold someF; exact filter_take_succ _ _ _ h
theorem some_len' (p : Int → Int → Bool) (P : List Int) (r : Int) : (someF p P r).length ≤ P.length := by unfold someF; exact List.length_filter_le _ _
def colL (P L : List Int) (r : Int) : List (Int × Int) := (P.filter (inB' L)).map fun x => (x, r)
theorem colL_len (P L : List Int) (r : Int) : (colL P L r).length ≤ P.length := by unfold colL; rw [List.length_map]; exact List.length_filter_le _ _
theorem colL_succ {P L : List Int} {r : Int} {k : Nat} (h : k < P.length) : colL (P.take (k + 1)) L r = colL (P.take k) L r ++ (if inB' L (nth P k) then [(nth P k, r)] else []) := by
  unfold colL
  rw [filter_take_succ _ _ _ h, List.map_append]
  congr 1
  split <;> simp
set_option maxHeartbeats 3200000 in
theorem c_specApproximateDeps (n : Int) (oa) (cap : Nat) (R : List (List Int)) (m q : Int) (w : World) (hR : RowsAt w oa R) :
    Calls Try.prog 50 #[.agg #[.int .i64 n, .slice oa R.length cap], .int .i64 m, .int .i64 q] w fun e w' => ∃ v, e = .returned v ∧ OwnD w' w.heap.size v (apprF n R m q) ∧ Below w.heap.size w w' := by
  obtain ⟨i0, hi, hz0, hz1, hz2⟩ := info_parts info_int
  obtain ⟨j0, hj, hy0, hy1, hy2⟩ := info_parts info_dep
  have hb := bel2 w (.cells #[.int .i64 n, .slice oa R.length cap] 28) (.cells #[] 33)
  have a0 := two_a w #[.int .i64 n, .slice oa R.length cap] 28 #[] 33 0 _ rfl
  have a1 := two_a w #[.int .i64 n, .slice oa R.length cap] 28 #[] 33 1 _ rfl
  have hO : OwnD ((w.alloc (.cells #[.int .i64 n, .slice oa R.length cap] 28)).alloc (.cells #[] 33)) (w.heap.size + 1) (.slice (some ⟨w.heap.size + 1, 0, none⟩) 0 0) [] := by
    have h := (OwnD.empty (w.alloc (.cells #[.int .i64 n, .slice oa R.length cap] 28)) _ (Nat.le_refl _))
    simpa using h
  cases hf : (isTabF n R && modeF m)
  · have HM : Hid (apprF n R m q = []) := by show apprF n R m q = []; unfold apprF; rw [hf]; rfl
    go_enter Try.func50, Try.ntmps50
    go_wp2_with (first | (go_at_call 75; refine Calls.mono (Ans.eqb (c_l4Fine _ _ _ _ _ _ (hR.keep hb)) hf) ?_; rintro e w1 ⟨rfl, hbn⟩; replace a0 := cell_keep a0 hbn; replace a1 := cell_keep a1 hbn; replace hO := hO.keep hbn; replace hb := bel_to (w := w) (by first | exact hb | exact hb.alloc hb.size _ | exact (hb.alloc hb.size _).alloc (Nat.le_trans hb.size (by simp)) _ | exact hb.setCell (by simp [hb.size]) _) hbn; clear hbn))
    go_ret
    exact ⟨_, rfl, by rw [HM.out]; exact hO.based (Nat.le_succ _), hb⟩
  by_cases h3 : q < 0
  · have HM : Hid (apprF n R m q = []) := by show apprF n R m q = []; unfold apprF; rw [decide_eq_false (show ¬ (0 ≤ q) by omega)]; simp
    go_enter Try.func50, Try.ntmps50
    go_wp2_with (first | (go_at_call 75; refine Calls.mono (Ans.eqb (c_l4Fine _ _ _ _ _ _ (hR.keep hb)) hf) ?_; rintro e w1 ⟨rfl, hbn⟩; replace a0 := cell_keep a0 hbn; replace a1 := cell_keep a1 hbn; replace hO := hO.keep hbn; replace hb := bel_to (w := w) (by first | exact hb | exact hb.alloc hb.size _ | exact (hb.alloc hb.size _).alloc (Nat.le_trans hb.size (by simp)) _ | exact hb.setCell (by simp [hb.size]) _) hbn; clear hbn))
    go_ret
    exact ⟨_, rfl, by rw [HM.out]; exact hO.based (Nat.le_succ _), hb⟩
  have ht : isTabF n R = true := by have := hf; simp only [Bool.and_eq_true] at this; exact this.1
  obtain ⟨hn1, hn5, _, _⟩ := isTab_of ht
  obtain ⟨N, rfl⟩ := Int.eq_ofNat_of_zero_le (show 0 ≤ n by omega)
  have HM : Hid (apprF N R m q = colsF (appOk N R m q) (partsF N) N) := by show apprF N R m q = _; unfold apprF; rw [hf, decide_eq_true (show 0 ≤ q by omega), Int.toNat_natCast]; rfl
  have hN5 : N ≤ 5 := by omega
  have hpl := partsF_len N
  have HPS : Hid (∀ x ∈ partsF N, St x) := fun x hx => by
    have h := (partsF_mem (n := N) (by omega) (by omega)).1 hx
    have h2 := (pow_wrap (n := (N : Int)) (by omega) (by omega)).2.1
    exact ⟨h.1, by omega⟩
  have HPQ : Hid (∀ x r, appOk N R m q x r = decide (rrF N R m x r ≤ q)) := fun x r => rfl
  have HLW : Hid (∀ r, colF (appOk N R m q) (partsF N) r = colL (partsF N) (minF (someF (appOk N R m q) (partsF N) r)) r) := fun r => colF_low hN5 _ r
  have HHR : Hid (∀ (w' : World) (x r : Int), RowsAt w' oa R → Ans Try.prog 37 #[.agg #[.int .i64 N, .slice oa R.length cap], .int .i64 m, .agg #[.int .i64 x, .int .i64 r]] w' (.int .i64 (rrF N R m x r))) := fun w' x r h => c_specRowsToRemove N oa cap R m x r w' h
  clear ht hn1 hn5
  go_enter Try.func50, Try.ntmps50
  go_wp2_with (first | (go_at_call 75; refine Calls.mono (Ans.eqb (c_l4Fine _ _ _ _ _ _ (hR.keep hb)) hf) ?_; rintro e w1 ⟨rfl, hbn⟩; replace a0 := cell_keep a0 hbn; replace a1 := cell_keep a1 hbn; replace hO := hO.keep hbn; replace hb := bel_to (w := w) (by first | exact hb | exact hb.alloc hb.size _ | exact (hb.alloc hb.size _).alloc (Nat.le_trans hb.size (by simp)) _ | exact hb.setCell (by simp [hb.size]) _) hbn; clear hbn))
  have old := hO
  refine (c_specPartsBySize (N : Int) _).mono ?_
  rintro e w2 ⟨v2, rfl, hP, hbn⟩
  have ap_PO := (apart_old old hP).symm
  replace hO := hO.keep hbn
  replace hP := hP.based (World.block_lt_of_cell? _ _ a1)
  replace a0 := cell_keep a0 hbn
  replace a1 := cell_keep a1 hbn
  replace hb := bel_to hb hbn
  clear old hbn
  have HGS : Hid (∀ k : Nat, colsF (appOk N R m q) (partsF N) (k + 1) = colsF (appOk N R m q) (partsF N) k ++ colF (appOk N R m q) (partsF N) k) := fun k => colsF_succ _ _ _
  have HCL : Hid (∀ k : Nat, (colsF (appOk N R m q) (partsF N) k).length ≤ 32 * k) := fun k => Nat.le_trans (colsF_len _ _ k) (Nat.mul_le_mul_right _ hpl)
  generalize appOk N R m q = p at *
  generalize partsF N = P at *
  obtain ⟨o1, c1, rfl⟩ := hP.shape
  have hPr : P.length ≤ Room := by unfold Room; omega
  go_wp2
  go_loopw [7, 9] (fun v i wr => ∃ r : Nat, i = .int .i64 r ∧ r ≤ N ∧ OwnD wr (w.heap.size + 1) v (colsF p P r) ∧ OwnI wr (w.heap.size + 1) (.slice o1 P.length c1) P ∧ Apart (.slice o1 P.length c1) v ∧ wr.cell? ⟨w.heap.size, 0, none⟩ = some (.int .i64 N) ∧ wr.cell? ⟨w.heap.size, 1, none⟩ = some (.slice oa R.length cap) ∧ Below w.heap.size w wr) (fun _ i _ => N - (intOf i).toNat)
  case atStart => exact ⟨0, rfl, Nat.zero_le _, by simpa [colsF] using hO, hP, ap_PO, a0, a1, hb⟩
  case round =>
    clear hO hP ap_PO a0 a1 hb
    obtain ⟨r, rfl, hr, hO, hP, ap_PO, a0, a1, hb⟩ := hrel
    have hcl := HCL.out r
    by_cases hrt : r < N
    · have HC : Hid (colsF p P (r + 1) = colsF p P r ++ colL P (minF (someF p P r)) r) := by show colsF p P (r + 1) = _; rw [HGS.out r, HLW.out r]
      have hCo : Hid (Co (r : Int)) := ⟨by omega, by omega⟩
      generalize colsF p P r = A at *
      obtain ⟨oO, cO, rfl⟩ := hO.shape
      have hS0 := OwnI.empty wr wr.heap.size (Nat.le_refl _)
      have ap_OS := apart_old hO hS0
      have ap_PS := apart_old hP hS0
      have hbe := World.block_lt_of_cell? _ _ a1
      have hba := (Below.refl wr.heap.size wr).alloc (Nat.le_refl _) (.cells #[] 3)
      have hS := hS0.based (show w.heap.size + 1 ≤ _ from hbe)
      replace hO := OwnD.keep hO hba
      replace hP := OwnI.keep hP hba
      have g0 := cell_keep a0 hba
      have g1 := cell_keep a1 hba
      replace hb := bel_to hb hba
      clear hS0 hbe hba
      go_wp2
      go_loopw [10, 11] (fun v i wr => ∃ k : Nat, i = .int .i64 k ∧ k ≤ P.length ∧ OwnI wr (w.heap.size + 1) v (someF p (P.take k) r) ∧ OwnD wr (w.heap.size + 1) (.slice oO A.length cO) A ∧ OwnI wr (w.heap.size + 1) (.slice o1 P.length c1) P ∧ Apart (.slice o1 P.length c1) (.slice oO A.length cO) ∧ Apart (.slice o1 P.length c1) v ∧ Apart (.slice oO A.length cO) v ∧ wr.cell? ⟨w.heap.size, 0, none⟩ = some (.int .i64 N) ∧ wr.cell? ⟨w.heap.size, 1, none⟩ = some (.slice oa R.length cap) ∧ Below w.heap.size w wr) (fun _ i _ => P.length - (intOf i).toNat)
      case atStart => exact ⟨0, rfl, Nat.zero_le _, by simpa [someF] using hS, hO, hP, ap_PO, ap_PS, ap_OS, g0, g1, hb⟩
      case round =>
        clear hS hO hP ap_PO ap_PS ap_OS a0 a1 g0 g1 hb
        obtain ⟨k, rfl, hk, hS, hO, hP, ap_PO, ap_PS, ap_OS, a0, a1, hb⟩ := hrel
        have hsl : (someF p (P.take k) r).length ≤ 32 := by
          have h := some_len' p (P.take k) r
          rw [List.length_take] at h
          omega
        by_cases hlk : k < P.length
        · obtain ⟨b2, off2, rfl, hbs2, hca⟩ := (hP.ints rfl hPr).at_ (by omega)
          have hc2 := hca k hlk
          have HSS : Hid (someF p (P.take (k + 1)) r = someF p (P.take k) r ++ (if !hasc (nth P k) r && p (nth P k) r then [nth P k] else [])) := some_succ hlk
          have hst : Hid (St (nth P k)) := HPS.out _ (List.mem_iff_getElem?.2 ⟨k, nth_eq hlk⟩)
          have HPK : Hid (p (nth P k) r = decide (rrF N R m (nth P k) r ≤ q)) := HPQ.out _ _
          clear hca
          generalize nth P k = x at *
          generalize someF p (P.take k) r = F at *
          obtain ⟨K, hK⟩ : ∃ K, K = rrF N R m x r := ⟨_, rfl⟩
          have HK : Hid (∀ w', RowsAt w' oa R → Ans Try.prog 37 #[.agg #[.int .i64 N, .slice oa R.length cap], .int .i64 m, .agg #[.int .i64 x, .int .i64 r]] w' (.int .i64 K)) := fun w' h => by rw [hK]; exact HHR.out w' x r h
          rw [← hK] at HPK
          have hx := fun (y : After wr) => (hR.keep hb).keep y.bel
          clear hK
          cases h1 : hasc x r
          · have h1' : (bits BinOp.and IntKind.i64 (x / 2 ^ (r : Int).toNat) 1 == 0) = true := (hasn_eq hst.out hCo.out).trans (by rw [h1]; rfl)
            rw [Int.toNat_natCast] at h1'
            by_cases h2 : K ≤ q
            · have HV : Hid ((!hasc x r && p x r) = true) := by show (!hasc x r && p x r) = true; rw [h1, HPK.out, decide_eq_true h2]; rfl
              go_wp2_with fail
              (refine wp_region_after (by kernel_rfl) (by kernel_rfl) ?_; have q_a0 := fun (x : After _) => cell_keep a0 x.bel; have q_a1 := fun (x : After _) => cell_keep a1 x.bel; have q_hc2 := fun (x : After _) => cell_keep hc2 x.bel; (repeat (go_big_quiet_step ((first | (go_at_call 37; exact Ans.after (HK.out _ (hx _))))))); clear q_a0; clear q_a1; clear q_hc2; refine wpQuiet_nil ?_; rintro _ ⟨⟨w1, hbn⟩, rfl⟩; (try simp only [After.w]); replace a0 := cell_keep a0 hbn; replace a1 := cell_keep a1 hbn; replace hc2 := cell_keep hc2 hbn; replace hS := hS.keep hbn; replace hO := hO.keep hbn; replace hP := hP.keep hbn; replace hb := bel_to (w := w) (by first | exact hb | exact hb.alloc hb.size _ | exact (hb.alloc hb.size _).alloc (Nat.le_trans hb.size (by simp)) _ | exact hb.setCell (by simp [hb.size]) _) hbn; clear hbn)
              go_wp2_with (first | (at_builtin; refine wpList_append_fresh rfl _ _ 69 rfl (w.heap.size + 1) 3 i0 (.int .i64 0) 1 8 Try.underlying69 hi hz0 hz1 hz2 rfl (by decide) _ _ _ rfl (World.ownsRow.alloc hS _) _ 1 1 [.int .i64 x] rfl rfl (by intro j u hj; match j, hj with | 0, hj => simp at hj; subst hj; simp [Addr.add]) (by intro u hu; simp at hu; subst hu; rfl) (by unfold maxLen; omega) (by omega) (by have := World.block_lt_of_cell? _ _ a1; simp at this; simp; omega) ?_; intro v' w4 hown hgrow hfr; replace hb := (hb.alloc hb.size _).grown hgrow (by have := hb.size; simp; omega) (fun g hg => Nat.le_trans (Nat.le_succ _) (World.ownsRow.lt hS g hg).1); replace a0 := cell_gr (cell_al a0 _) (World.ownsRow.alloc hS _) (by omega) hgrow; replace a1 := cell_gr (cell_al a1 _) (World.ownsRow.alloc hS _) (by omega) hgrow; obtain ⟨hP, ap_PS⟩ := OwnI.past hP hgrow ap_PS hfr; obtain ⟨hO, ap_OS⟩ := OwnD.past hO hgrow ap_OS hfr; replace hS := OwnI.snoc hown; clear hown hgrow hfr) | fail)
              go_roundw
              case rel => exact ⟨k + 1, by go_num, by omega, by rw [HSS.out, HV.out]; exact hS, hO, hP, ap_PO, ap_PS, ap_OS, a0, a1, hb⟩
              case measure => simp [intOf]; omega
            · have HV : Hid ((!hasc x r && p x r) = false) := by show (!hasc x r && p x r) = false; rw [HPK.out, decide_eq_false h2]; simp
              go_wp2_with fail
              (refine wp_region_after (by kernel_rfl) (by kernel_rfl) ?_; have q_a0 := fun (x : After _) => cell_keep a0 x.bel; have q_a1 := fun (x : After _) => cell_keep a1 x.bel; have q_hc2 := fun (x : After _) => cell_keep hc2 x.bel; (repeat (go_big_quiet_step ((first | (go_at_call 37; exact Ans.after (HK.out _ (hx _))))))); clear q_a0; clear q_a1; clear q_hc2; refine wpQuiet_nil ?_; rintro _ ⟨⟨w1, hbn⟩, rfl⟩; (try simp only [After.w]); replace a0 := cell_keep a0 hbn; replace a1 := cell_keep a1 hbn; replace hc2 := cell_keep hc2 hbn; replace hS := hS.keep hbn; replace hO := hO.keep hbn; replace hP := hP.keep hbn; replace hb := bel_to (w := w) (by first | exact hb | exact hb.alloc hb.size _ | exact (hb.alloc hb.size _).alloc (Nat.le_trans hb.size (by simp)) _ | exact hb.setCell (by simp [hb.size]) _) hbn; clear hbn)
              go_wp2
              go_roundw
              case rel => exact ⟨k + 1, by go_num, by omega, by rw [HSS.out, HV.out]; simpa using hS, hO, hP, ap_PO, ap_PS, ap_OS, a0, a1, hb⟩
              case measure => simp [intOf]; omega
          · have h1' : (bits BinOp.and IntKind.i64 (x / 2 ^ (r : Int).toNat) 1 == 0) = false := (hasn_eq hst.out hCo.out).trans (by rw [h1]; rfl)
            rw [Int.toNat_natCast] at h1'
            have HV : Hid ((!hasc x r && p x r) = false) := by show (!hasc x r && p x r) = false; rw [h1]; rfl
            go_wp2_with fail
            (refine wp_region_after (by kernel_rfl) (by kernel_rfl) ?_; have q_a0 := fun (x : After _) => cell_keep a0 x.bel; have q_a1 := fun (x : After _) => cell_keep a1 x.bel; have q_hc2 := fun (x : After _) => cell_keep hc2 x.bel; (repeat (go_big_quiet_step (fail))); clear q_a0; clear q_a1; clear q_hc2; refine wpQuiet_nil ?_; rintro _ ⟨⟨w1, hbn⟩, rfl⟩; (try simp only [After.w]); replace a0 := cell_keep a0 hbn; replace a1 := cell_keep a1 hbn; replace hc2 := cell_keep hc2 hbn; replace hS := hS.keep hbn; replace hO := hO.keep hbn; replace hP := hP.keep hbn; replace hb := bel_to (w := w) (by first | exact hb | exact hb.alloc hb.size _ | exact (hb.alloc hb.size _).alloc (Nat.le_trans hb.size (by simp)) _ | exact hb.setCell (by simp [hb.size]) _) hbn; clear hbn)
            go_wp2
            go_roundw
            case rel => exact ⟨k + 1, by go_num, by omega, by rw [HSS.out, HV.out]; simpa using hS, hO, hP, ap_PO, ap_PS, ap_OS, a0, a1, hb⟩
            case measure => simp [intOf]; omega
        · have hkk : k = P.length := by omega
          have HE : Hid (someF p (P.take k) r = someF p P r) := by show someF p (P.take k) r = someF p P r; rw [hkk, List.take_length]
          clear hkk
          rw [HE.out] at hS hsl
          generalize someF p P r = F at *
          obtain ⟨oF, cF, rfl⟩ := hS.shape
          have oldO := hO
          have oldP := hP
          go_wp2_with fail
          refine (c_specMinimalSets _ _ _ _ (hS.ints rfl (by unfold Room; omega))).mono ?_
          rintro e w3 ⟨v3, rfl, hL, hbn⟩
          have ap_OL := apart_old oldO hL
          have ap_PL := apart_old oldP hL
          replace hO := OwnD.keep hO hbn
          replace hP := OwnI.keep hP hbn
          replace hL := hL.based (World.block_lt_of_cell? _ _ a1)
          replace a0 := cell_keep a0 hbn
          replace a1 := cell_keep a1 hbn
          replace hb := bel_to hb hbn
          have hLl := minF_len F
          clear oldO oldP hbn hS
          generalize minF F = L at *
          obtain ⟨oL, cL, rfl⟩ := hL.shape
          have hLr : L.length ≤ Room := by unfold Room; omega
          go_wp2
          go_loopw [7, 13] (fun v i wr => ∃ k : Nat, i = .int .i64 k ∧ k ≤ P.length ∧ OwnD wr (w.heap.size + 1) v (A ++ colL (P.take k) L r) ∧ OwnI wr (w.heap.size + 1) (.slice oL L.length cL) L ∧ OwnI wr (w.heap.size + 1) (.slice o1 P.length c1) P ∧ Apart (.slice o1 P.length c1) v ∧ Apart (.slice oL L.length cL) v ∧ wr.cell? ⟨w.heap.size, 0, none⟩ = some (.int .i64 N) ∧ wr.cell? ⟨w.heap.size, 1, none⟩ = some (.slice oa R.length cap) ∧ Below w.heap.size w wr) (fun _ i _ => P.length - (intOf i).toNat)
          case atStart => exact ⟨0, rfl, Nat.zero_le _, by simpa [colL] using hO, hL, hP, ap_PO, ap_OL.symm, a0, a1, hb⟩
          case round =>
            clear hO hP hL ap_PO ap_PS ap_OS ap_OL ap_PL a0 a1 hb
            obtain ⟨k, rfl, hk, hO, hL, hP, ap_PO, ap_LO, a0, a1, hb⟩ := hrel
            by_cases hlk : k < P.length
            · obtain ⟨b2, off2, rfl, hbs2, hca⟩ := (hP.ints rfl hPr).at_ (by omega)
              have hc2 := hca k hlk
              have hOl : (A ++ colL (P.take k) L r).length ≤ 300 := by
                have h := colL_len (P.take k) L r
                rw [List.length_take] at h
                rw [List.length_append]
                omega
              have HOs : Hid (A ++ colL (P.take (k + 1)) L r = (A ++ colL (P.take k) L r) ++ (if inB' L (nth P k) then [(nth P k, (r : Int))] else [])) := by
                show A ++ colL (P.take (k + 1)) L r = _
                rw [colL_succ hlk, List.append_assoc]
              clear hca
              generalize nth P k = x at *
              generalize A ++ colL (P.take k) L r = C at *
              cases h1 : inB' L x
              · go_wp2_with (first | (go_at_call 104; refine Calls.mono (Ans.eqb (c_l2Has _ _ _ _ _ (hL.ints rfl hLr)) h1) ?_; rintro e w1 ⟨rfl, hbn⟩; replace a0 := cell_keep a0 hbn; replace a1 := cell_keep a1 hbn; replace hc2 := cell_keep hc2 hbn; replace hO := hO.keep hbn; replace hP := hP.keep hbn; replace hL := hL.keep hbn; replace hb := bel_to (w := w) (by first | exact hb | exact hb.alloc hb.size _ | exact (hb.alloc hb.size _).alloc (Nat.le_trans hb.size (by simp)) _ | exact hb.setCell (by simp [hb.size]) _) hbn; clear hbn) | fail)
                go_roundw
                case rel => exact ⟨k + 1, by go_num, by omega, by rw [HOs.out, h1]; simpa using hO, hL, hP, ap_PO, ap_LO, a0, a1, hb⟩
                case measure => simp [intOf]; omega
              · go_wp2_with (first | (go_at_call 104; refine Calls.mono (Ans.eqb (c_l2Has _ _ _ _ _ (hL.ints rfl hLr)) h1) ?_; rintro e w1 ⟨rfl, hbn⟩; replace a0 := cell_keep a0 hbn; replace a1 := cell_keep a1 hbn; replace hc2 := cell_keep hc2 hbn; replace hO := hO.keep hbn; replace hP := hP.keep hbn; replace hL := hL.keep hbn; replace hb := bel_to (w := w) (by first | exact hb | exact hb.alloc hb.size _ | exact (hb.alloc hb.size _).alloc (Nat.le_trans hb.size (by simp)) _ | exact hb.setCell (by simp [hb.size]) _) hbn; clear hbn) | (at_builtin; refine wpList_append_fresh rfl _ _ 31 rfl (w.heap.size + 1) 33 j0 (.agg #[.int .i64 0, .int .i64 0]) 2 16 Try.underlying31 hj hy0 hy1 hy2 rfl (by decide) _ _ _ rfl (World.ownsRow.alloc hO _) _ 1 1 [.int .i64 x, .int .i64 (r : Int)] rfl rfl (World.news_of_block (cs := #[.int .i64 x, .int .i64 (r : Int)]) (t := 33) (fr := (0, 0)) (heap_alloc_new _ _)) (by intro u hu; simp at hu; rcases hu with rfl | rfl <;> rfl) (by unfold maxLen; omega) (by omega) (by have := World.block_lt_of_cell? _ _ a1; simp at this; simp; omega) ?_; intro v' w4 hown hgrow hfr; replace hb := (hb.alloc hb.size _).grown hgrow (by have := hb.size; simp; omega) (fun g hg => Nat.le_trans (Nat.le_succ _) (World.ownsRow.lt hO g hg).1); replace a0 := cell_gr (cell_al a0 _) (World.ownsRow.alloc hO _) (by omega) hgrow; replace a1 := cell_gr (cell_al a1 _) (World.ownsRow.alloc hO _) (by omega) hgrow; obtain ⟨hP, ap_PO⟩ := OwnI.past hP hgrow ap_PO hfr; obtain ⟨hL, ap_LO⟩ := OwnI.past hL hgrow ap_LO hfr; replace hO := own_snocD hown; clear hown hgrow hfr) | fail)
                go_roundw
                case rel => exact ⟨k + 1, by go_num, by omega, by rw [HOs.out, h1]; exact hO, hL, hP, ap_PO, ap_LO, a0, a1, hb⟩
                case measure => simp [intOf]; omega
            · have hkk : k = P.length := by omega
              have HE2 : Hid (colsF p P (r + 1) = A ++ colL (P.take k) L r) := by show colsF p P (r + 1) = _; rw [HC.out, hkk, List.take_length]
              clear hkk
              go_wp2
              go_roundw
              case rel => exact ⟨r + 1, by go_num, by omega, by rw [HE2.out]; exact hO, hP, ap_PO, a0, a1, hb⟩
              case measure => simp [intOf]; omega
    · have hrr : r = N := by omega
      have HE : Hid (colsF p P r = apprF N R m q) := by show colsF p P r = _; rw [HM.out, hrr]
      clear hrr
      go_wp2
      go_ret
      exact ⟨_, rfl, by rw [← HE.out]; exact hO.based (Nat.le_succ _), hb⟩
end Go.Proofs.Ytkanbnbofoabeaa
namespace Go.Proofs.Ytkanbnbofoabeaa
open Go.ChangeShapes Go.WideShapes Go.ChangeAt Go.RowKit
set_option linter.unusedVariables false
set_option maxRecDepth 100000

theorem open_ints {H : Type} {enc : TypeId × Value → H} {W : World} {base : Nat} {held : Bool} {v : Value} {d : DataW H} {ps : List MemPlace} (hok : Value.okWide Try.prog W .any base 69 v)
    (h : DataW.Trod enc Try.prog W 0 (fun _ => true) held 69 v d ps) : InInts W v := by
  obtain ⟨a0, len0, cap0, rfl⟩ := okWide_slice Try.underlying69 hok
  obtain ⟨fuel, hf⟩ := h
  rcases Go.ChangeShapes.open_ints Try.underlying69 Try.underlying3 (by kernel_rfl) hf with ⟨hcs, _⟩ | ⟨x, l, c, zs, hcs, _, hl, hm, hz, _, hcell, hwz⟩
  · simp [Value.cells] at hcs
    obtain ⟨rfl, rfl, rfl⟩ := hcs
    exact ⟨_, _, _, [], rfl, .inl ⟨rfl, rfl, rfl, rfl⟩⟩
  · simp [Value.cells] at hcs
    obtain ⟨rfl, rfl, rfl⟩ := hcs
    exact ⟨_, _, _, zs, rfl, .inr ⟨_, rfl, hl, hm, by simpa using hz, hcell, hwz⟩⟩
end Go.Proofs.Ytkanbnbofoabeaa
namespace Go.Proofs.Ytkanbnbofoabeaa
open Go.RowKit
set_option linter.unusedVariables false
set_option maxRecDepth 100000

theorem room_of {n : Nat} (h : (n : Int) ≤ 1048576) : n ≤ Room := by unfold Room; omega
theorem c_toDep (l r : Int) (w : World) : Ans Try.prog 19 #[.agg #[.int .i64 l, .int .i64 r]] w (.agg #[.int .i64 l, .int .i64 r]) := by
  unfold Ans
  go_enter Try.func19, Try.ntmps19
  go_wp2
  exact bodyPost_ret (v := .agg #[.int .i64 l, .int .i64 r]) (by simp [results, Try.results19, go_sem]) rfl ⟨rfl, (((Below.refl _ _).alloc (Nat.le_refl _) _).alloc (by simp) _).alloc (by simp; omega) _⟩
def depEqB (a b c d : Int) : Bool := decide (a = c ∧ b = d)
theorem c_eqDep (a b c d : Int) (w : World) : Ans Try.prog 49 #[.agg #[.int .i64 a, .int .i64 b], .agg #[.int .i64 c, .int .i64 d]] w (.bool (depEqB a b c d)) := by
  unfold Ans
  have hB : Below w.heap.size w ((w.alloc (.cells #[.int .i64 a, .int .i64 b] 33)).alloc (.cells #[.int .i64 c, .int .i64 d] 33)) := ((Below.refl _ _).alloc (Nat.le_refl _) _).alloc (by simp) _
  by_cases h1 : a = c
  · have e1 : (a != c) = false := by simp [h1]
    by_cases h2 : b = d
    · have e2 : (b != d) = false := by simp [h2]
      have HV : Hid (depEqB a b c d = true) := by simp [depEqB, h1, h2, Hid]
      clear h1 h2
      go_enter Try.func49, Try.ntmps49
      go_wp2
      go_ret
      exact ⟨ret_bool HV.out.symm, hB⟩
    · have e2 : (b != d) = true := by simp [h2]
      have HV : Hid (depEqB a b c d = false) := by simp [depEqB, h2, Hid]
      clear h1 h2
      go_enter Try.func49, Try.ntmps49
      go_wp2
      go_ret
      exact ⟨ret_bool HV.out.symm, hB⟩
  · have e1 : (a != c) = true := by simp [h1]
    have HV : Hid (depEqB a b c d = false) := by simp [depEqB, h1, Hid]
    clear h1
    go_enter Try.func49, Try.ntmps49
    go_wp2
    go_ret
    exact ⟨ret_bool HV.out.symm, hB⟩

theorem dlist_ext {L M : List (Int × Int)} (hl : L.length = M.length) (h : ∀ k, k < L.length → nl L k = nl M k ∧ nr L k = nr M k) : L = M := by
  apply List.ext_getElem?
  intro k
  by_cases hk : k < L.length
  · rw [dnth_eq hk, dnth_eq (by omega), (h k hk).1, (h k hk).2]
  · rw [List.getElem?_eq_none (by omega), List.getElem?_eq_none (by omega)]

theorem c_eqDepS (oa ob) (ca cb : Nat) (L M : List (Int × Int)) (w : World) (hL : DepsAt w oa L) (hM : DepsAt w ob M) :
    Ans Try.prog 22 #[.slice oa L.length ca, .slice ob M.length cb] w (.bool (decide (L = M))) := by
  unfold Ans
  have hn : L.length ≤ 1073741824 := hL.len
  by_cases hlen : L.length = M.length
  · have hb0 : ((L.length : Int) != (M.length : Int)) = false := by simp [hlen]
    have HL : Hid (L.length = M.length) := hlen
    have hlm : L.length ≤ M.length := by omega
    clear hlen
    go_enter Try.func22, Try.ntmps22
    go_wp2
    go_loopw [5] (fun i wr => ∃ k : Nat, i = .int .i64 k ∧ k ≤ L.length ∧ (∀ j, j < k → nl L j = nl M j ∧ nr L j = nr M j) ∧ Below w.heap.size w wr) (fun i _ => L.length - (intOf i).toNat)
    case atStart => exact ⟨0, rfl, Nat.zero_le _, fun j hj => absurd hj (by omega), Below.refl _ _⟩
    case round =>
      obtain ⟨k, rfl, hk, hall, hb⟩ := hrel
      have HA : Hid (∀ j, j < k → nl L j = nl M j ∧ nr L j = nr M j) := hall
      clear hall
      by_cases hlt : k < L.length
      · obtain ⟨b, off, rfl, hbs, hc⟩ := hL.at_ (by omega)
        obtain ⟨b', off', rfl, hbs', hc'⟩ := hM.at_ (by omega)
        have hc1 := cell_keep (hc k hlt).1 hb
        have hc2 := cell_keep (hc k hlt).2 hb
        have hc3 := cell_keep (hc' k (by omega)).1 hb
        have hc4 := cell_keep (hc' k (by omega)).2 hb
        clear hc hc'
        cases he : depEqB (nl L k) (nr L k) (nl M k) (nr M k)
        · go_wp2_with fail
          (refine wp_region_after (by kernel_rfl) (by kernel_rfl) ?_; have q_hc1 := fun (x : After _) => cell_keep hc1 x.bel; have q_hc2 := fun (x : After _) => cell_keep hc2 x.bel; have q_hc3 := fun (x : After _) => cell_keep hc3 x.bel; have q_hc4 := fun (x : After _) => cell_keep hc4 x.bel; (repeat (go_big_quiet_step ((first | (go_at_call 49; exact Ans.after (Ans.eqb (c_eqDep _ _ _ _ _) he)))))); clear q_hc1; clear q_hc2; clear q_hc3; clear q_hc4; refine wpQuiet_nil ?_; rintro _ ⟨⟨w1, hbn⟩, rfl⟩; (try simp only [After.w]); replace hc1 := cell_keep hc1 hbn; replace hc2 := cell_keep hc2 hbn; replace hc3 := cell_keep hc3 hbn; replace hc4 := cell_keep hc4 hbn; replace hb := bel_to (w := w) (by first | exact hb | exact hb.alloc hb.size _ | exact (hb.alloc hb.size _).alloc (Nat.le_trans hb.size (by simp)) _ | exact hb.setCell (by simp [hb.size]) _) hbn; clear hbn)
          go_wp2
          go_ret
          exact ⟨ret_bool (by symm; rw [decide_eq_false_iff_not]; intro e; subst e; simp [depEqB] at he), hb⟩
        · have HE0 : nl L k = nl M k ∧ nr L k = nr M k := by simpa [depEqB] using he
          have HE : Hid (nl L k = nl M k ∧ nr L k = nr M k) := HE0
          clear HE0
          go_wp2_with fail
          (refine wp_region_after (by kernel_rfl) (by kernel_rfl) ?_; have q_hc1 := fun (x : After _) => cell_keep hc1 x.bel; have q_hc2 := fun (x : After _) => cell_keep hc2 x.bel; have q_hc3 := fun (x : After _) => cell_keep hc3 x.bel; have q_hc4 := fun (x : After _) => cell_keep hc4 x.bel; (repeat (go_big_quiet_step ((first | (go_at_call 49; exact Ans.after (Ans.eqb (c_eqDep _ _ _ _ _) he)))))); clear q_hc1; clear q_hc2; clear q_hc3; clear q_hc4; refine wpQuiet_nil ?_; rintro _ ⟨⟨w1, hbn⟩, rfl⟩; (try simp only [After.w]); replace hc1 := cell_keep hc1 hbn; replace hc2 := cell_keep hc2 hbn; replace hc3 := cell_keep hc3 hbn; replace hc4 := cell_keep hc4 hbn; replace hb := bel_to (w := w) (by first | exact hb | exact hb.alloc hb.size _ | exact (hb.alloc hb.size _).alloc (Nat.le_trans hb.size (by simp)) _ | exact hb.setCell (by simp [hb.size]) _) hbn; clear hbn)
          go_wp2
          go_roundw
          case rel => exact ⟨k + 1, by go_num, by omega, lt_step (p := fun j => nl L j = nl M j ∧ nr L j = nr M j) HA.out HE.out, hb⟩
          case measure => simp [intOf]; omega
      · have hkk : k = L.length := by omega
        have HE : Hid (L = M) := dlist_ext HL.out fun j hj => HA.out j (by omega)
        clear hkk
        go_wp2
        go_ret
        exact ⟨ret_bool (by symm; rw [decide_eq_true_iff]; exact HE.out), hb⟩
  · have hb0 : ((L.length : Int) != (M.length : Int)) = true := by simp; omega
    go_enter Try.func22, Try.ntmps22
    go_wp2
    go_ret
    exact ⟨ret_bool (by symm; rw [decide_eq_false_iff_not]; intro e; exact hlen (by rw [e])), Below.refl _ _⟩

theorem c_toDepS (oa) (ca : Nat) (D : List (Int × Int)) (w : World) (hD : DepsAt w oa D) :
    Calls Try.prog 18 #[.slice oa D.length ca] w fun e w' => ∃ v, e = .returned v ∧ OwnD w' w.heap.size v D ∧ Below w.heap.size w w' := by
  have hn : D.length ≤ 1073741824 := hD.len
  obtain ⟨i0, hi, hz0, hz1, hz2⟩ := info_parts info_dep
  go_enter Try.func18, Try.ntmps18
  go_wp2_with (first | (at_make; refine wpList_make_full _ rfl _ _ 31 rfl w.heap.size 33 i0 (.agg #[.int .i64 0, .int .i64 0]) 2 Try.underlying31 hi hz0 hz1 .i64 .i64 _ _ D.length rfl rfl rfl rfl (by rw [hz2]; omega) (by unfold maxLen; omega) (Nat.le_refl _) ?_; intro w1 hown hgrow))
  rw [madeD] at hown
  have hI : OwnD w1 w.heap.size (.slice (some ⟨w.heap.size, 0, none⟩) D.length D.length) (List.replicate D.length (0, 0)) := by unfold OwnD; rw [List.length_replicate]; exact hown
  have hb1 : Below w.heap.size w w1 := below_grown hgrow (Nat.le_refl _) (by simp)
  clear hown hgrow hi hz0 hz1 hz2 i0
  go_loopw [4] (fun i wr => ∃ (k : Nat) (M : List (Int × Int)), i = .int .i64 k ∧ k ≤ D.length ∧ M.length = D.length ∧ (∀ j, j < k → nl M j = nl D j ∧ nr M j = nr D j) ∧
      OwnD wr w.heap.size (.slice (some ⟨w.heap.size, 0, none⟩) D.length D.length) M ∧ Below w.heap.size w wr) (fun i _ => D.length - (intOf i).toNat)
  case atStart => exact ⟨0, _, rfl, Nat.zero_le _, by simp, fun j hj => absurd hj (by omega), hI, hb1⟩
  case round =>
    clear hI hb1
    obtain ⟨k, M, rfl, hk, hM, hall, hI, hb⟩ := hrel
    have HM : Hid (M.length = D.length) := hM
    have HA : Hid (∀ j, j < k → nl M j = nl D j ∧ nr M j = nr D j) := hall
    clear hall hM
    by_cases hlt : k < D.length
    · obtain ⟨b, off, rfl, hbs, hc⟩ := hD.at_ (by omega)
      have hc1 := cell_keep (hc k hlt).1 hb
      have hc2 := cell_keep (hc k hlt).2 hb
      clear hc
      go_wp2_with fail
      refine Calls.mono (c_toDep _ _ _) ?_
      rintro e w1 ⟨rfl, hbn⟩
      replace hI := hI.keep hbn
      replace hb := bel_to (w := w) hb hbn
      obtain ⟨hg1, hg2, hg3, hg4⟩ := hI.cell HM.out.symm k hlt
      have HI2 := (show Hid _ from hI.store HM.out.symm k (nl D k) (nr D k))
      clear hc1 hc2 hbn
      go_wp2
      go_roundw
      case rel =>
        refine ⟨k + 1, M.set k (nl D k, nr D k), by go_num, by omega, by rw [List.length_set]; exact HM.out, ?_, HI2.out, (hb.setCell (Nat.le_refl _) _).setCell (Nat.le_refl _) _⟩
        intro j hj
        rw [nl_set (by have := HM.out; omega), nr_set (by have := HM.out; omega)]
        by_cases h : j = k
        · subst h; simp
        · simp only [if_neg h]; exact HA.out j (by omega)
      case measure => simp [intOf]; omega
    · have hkk : k = D.length := by omega
      have HK : Hid (k = D.length) := hkk
      clear hkk
      go_wp2
      go_ret
      have : M = D := dlist_ext HM.out fun j hj => HA.out j (by have := HM.out; have := HK.out; omega)
      subst this
      exact ⟨_, rfl, hI, hb⟩

/-- A slice of dependencies that came in. -/
def InDeps (w : World) (v : Value) : Prop := ∃ a len cap, v = .slice a len cap ∧ len ≤ maxLen ∧ (len ≤ Room → ∃ D : List (Int × Int), D.length = len ∧ DepsAt w a D)

theorem c_szDepS_ok (oa) (n cap : Nat) (left : Int) (h0 : left ≤ 1048576) (h : (n : Int) ≤ left) (w : World) :
    Ans Try.prog 16 #[.slice oa n cap, .int .i64 left] w (.int .i64 (left - n)) := by
  unfold Ans
  go_enter Try.func16, Try.ntmps16
  go_wp2
  go_ret
  exact ⟨rfl, Below.refl _ _⟩
theorem c_szDepS_no (oa) (n cap : Nat) (left : Int) (h0 : 0 ≤ left ∧ left ≤ 1048576) (h : left < (n : Int)) (hn : n ≤ maxLen) (w : World) :
    Ans Try.prog 16 #[.slice oa n cap, .int .i64 left] w (.int .i64 (-1)) := by
  unfold Ans
  unfold maxLen at hn
  go_enter Try.func16, Try.ntmps16
  go_wp2
  go_ret
  exact ⟨rfl, Below.refl _ _⟩
end Go.Proofs.Ytkanbnbofoabeaa
namespace Go.Proofs.Ytkanbnbofoabeaa
open Go.ChangeShapes Go.WideShapes Go.ChangeAt Go.RowKit Go.Joins
set_option linter.unusedVariables false
set_option maxRecDepth 100000

theorem add_at (b off j : Nat) : (⟨b, off, none⟩ : Addr).add j = ⟨b, off + j, none⟩ := by unfold Addr.add; split <;> simp_all

theorem open_deps {H : Type} {enc : TypeId × Value → H} {W : World} {base : Nat} {held : Bool} {v : Value} {d : DataW H} {ps : List MemPlace} (hok : Value.okWide Try.prog W .any base 22 v)
    (h : DataW.Trod enc Try.prog W 0 (fun _ => true) held 22 v d ps) : InDeps W v := by
  obtain ⟨a0, len0, cap0, rfl⟩ := okWide_slice Try.underlying22 hok
  obtain ⟨fuel, hf⟩ := h
  rcases Go.Deep.open_slice_pairs Try.underlying22 Try.underlying24 (by kernel_rfl) rfl rfl (by kernel_rfl) (by kernel_rfl) hf with ⟨hcs, _⟩ | ⟨x, l, c, m, n, V0, V1, D0, D1, P0, P1, hcs, _, hl, hm, hmm, _, hcell⟩
  · simp [Value.cells] at hcs
    obtain ⟨rfl, rfl, rfl⟩ := hcs
    exact ⟨_, _, _, rfl, Nat.zero_le _, fun _ => ⟨[], rfl, by simp, fun h => absurd h (by simp)⟩⟩
  · simp [Value.cells] at hcs
    obtain ⟨rfl, rfl, rfl⟩ := hcs
    simp only [if_true] at hmm
    subst hmm
    refine ⟨_, _, _, rfl, Nat.le_trans hl hm, fun hr => ?_⟩
    have each : ∀ i, i < len0 → ∃ q : Int × Int, V0 i = .int .i64 q.1 ∧ V1 i = .int .i64 q.2 := by
      intro i hi
      obtain ⟨_, _, t0, t1⟩ := hcell i (by omega)
      obtain ⟨z0, e0, _⟩ := DataW.trod_int Try.underlying3 t0
      obtain ⟨z1, e1, _⟩ := DataW.trod_int Try.underlying3 t1
      simp at e0 e1
      exact ⟨(z0, z1), e0, e1⟩
    obtain ⟨q, hq⟩ := Go.Deep.choose_lt each
    refine ⟨(List.range len0).map q, by simp, by simpa using hr, fun h0 => ?_⟩
    simp only [List.length_map, List.length_range] at h0
    obtain ⟨b, off, spot⟩ := x
    have hc := (hcell 0 (by omega)).1
    have hspot : spot = none := by simpa [Addr.add] using World.cell?_spot hc
    subst hspot
    refine ⟨b, off, rfl, World.block_lt_of_cell? W ⟨b, off, none⟩ (by simpa [Addr.add] using hc), fun k hk => ?_⟩
    simp only [List.length_map, List.length_range] at hk
    obtain ⟨c0, c1, _⟩ := hcell k (by omega)
    rw [add_at] at c0 c1
    obtain ⟨e0, e1⟩ := hq k hk
    rw [e0] at c0
    rw [e1] at c1
    rw [Nat.add_assoc, c0, c1]
    have e : ((List.range len0).map q).getD k (0, 0) = q k := by simp [List.getD, hk]
    unfold nl nr
    rw [e]; exact ⟨rfl, rfl⟩

theorem open_dep {H : Type} {enc : TypeId × Value → H} {W : World} {base : Nat} {held : Bool} {v : Value} {d : DataW H} {ps : List MemPlace} (hok : Value.okWide Try.prog W .any base 24 v)
    (h : DataW.Trod enc Try.prog W 0 (fun _ => true) held 24 v d ps) : ∃ l r : Int, v = .agg #[.int .i64 l, .int .i64 r] ∧ (Lit.int .i64 l).wf = true ∧ (Lit.int .i64 r).wf = true := by
  obtain ⟨c0, c1, y0, y1, m, rfl, rfl, rfl, hy0, hy1⟩ := open_agg2 Try.underlying24 (by kernel_rfl) (by kernel_rfl) hok h
  obtain ⟨z0, e0, _, w0⟩ := DataW.trod_int Try.underlying3 hy0
  obtain ⟨z1, e1, _, w1⟩ := DataW.trod_int Try.underlying3 hy1
  simp at e0 e1
  subst e0 e1
  exact ⟨_, _, rfl, w0, w1⟩
end Go.Proofs.Ytkanbnbofoabeaa
