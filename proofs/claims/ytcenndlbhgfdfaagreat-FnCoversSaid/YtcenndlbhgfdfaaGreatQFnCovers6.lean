/- Contracts and lemmas for FnCovers, part 6 of 6. -/
import Derived.Test.YtcenndlbhgfdfaaGreatQFnCovers1
import Derived.Test.YtcenndlbhgfdfaaGreatQFnCovers2
import Derived.Test.YtcenndlbhgfdfaaGreatQFnCovers3
import Derived.Test.YtcenndlbhgfdfaaGreatQFnCovers4
import Derived.Test.YtcenndlbhgfdfaaGreatQFnCovers5
import Derived.Deep.CutRange
import Derived.Deep.RegionHeld3
namespace Go.Proofs.YtcenndlbhgfdfaaGreat
open Go.RowKit
set_option linter.unusedVariables false
set_option maxRecDepth 100000

theorem ask_attr {n : Int} {R : List (List Int)} {m l r : Int} (h : askF n R m l r = true) : ptnOk n R m l = true ∧ isTabF n R = true ∧ St l ∧ ∃ c : Nat, r = c ∧ (c : Int) < n ∧ c < 5 := by
  unfold askF at h
  simp only [Bool.and_eq_true] at h
  obtain ⟨⟨h1, h2⟩, h3⟩ := h
  have hd := h3
  unfold isDepF at hd
  simp only [Bool.and_eq_true, decide_eq_true_eq] at hd
  obtain ⟨⟨⟨q1, q2⟩, q3⟩, q4⟩ := hd
  obtain ⟨_, h5, _, _⟩ := isTab_of h1
  exact ⟨by unfold ptnOk; rw [h1, h2, q2]; rfl, h1, (dep_of h3 h5).1, r.toNat, by omega, by omega, by omega⟩
structure Cls (P : List (List Int)) (N : Nat) : Prop where
  len : P.length ≤ 40
  rows : ∀ j, j < P.length → (row P j).length ≤ 41
  low : ∀ j, j < P.length → ∀ k, k < (row P j).length → ∃ e : Nat, nth (row P j) k = e ∧ e < N
  up : ∀ j, j < P.length → Up (row P j)
theorem ptn_cls {q : Nat → Nat → Bool} {N : Nat} (hN : N ≤ 40) : Cls (ptnQ q N N) N := by
  have hm : ∀ j, j < (ptnQ q N N).length → ∃ i, i < N ∧ row (ptnQ q N N) j = clsTo q i N := fun j hj => by
    obtain ⟨i, h1, _, h2⟩ := ptn_mem.1 (row_mem hj)
    exact ⟨i, h1, h2⟩
  refine ⟨Nat.le_trans (ptn_len q N N) hN, fun j hj => ?_, fun j hj k hk => ?_, fun j hj => ?_⟩
  · have := ptn_row hj; omega
  · obtain ⟨i, hi, e⟩ := hm j hj
    rw [e] at hk ⊢
    exact cls_low hi _ (List.mem_iff_getElem?.2 ⟨k, nth_eq hk⟩)
  · obtain ⟨i, hi, e⟩ := hm j hj
    rw [e]; exact cls_up
set_option maxHeartbeats 3200000 in
theorem c_RowsToRemove (n : Int) (oa) (cap : Nat) (R : List (List Int)) (m l r : Int) (w : World) (hR : RowsAt w oa R) :
    Ans Tryz.prog 80 #[.agg #[.int .i64 n, .slice oa R.length cap], .int .i64 m, .agg #[.int .i64 l, .int .i64 r]] w (.int .i64 (rrF n R m l r)) := by
  unfold Ans
  have hb := bel2 w (.cells #[.int .i64 n, .slice oa R.length cap] 26) (.cells #[.int .i64 l, .int .i64 r] 38)
  have a0 := two_a w #[.int .i64 n, .slice oa R.length cap] 26 #[.int .i64 l, .int .i64 r] 38 0 _ rfl
  have a1 := two_a w #[.int .i64 n, .slice oa R.length cap] 26 #[.int .i64 l, .int .i64 r] 38 1 _ rfl
  have d0 := two_b w #[.int .i64 n, .slice oa R.length cap] 26 #[.int .i64 l, .int .i64 r] 38 0 _ rfl
  have d1 := two_b w #[.int .i64 n, .slice oa R.length cap] 26 #[.int .i64 l, .int .i64 r] 38 1 _ rfl
  cases hask : askF n R m l r
  · have HM : Hid (rrF n R m l r = -1) := by show rrF n R m l r = -1; unfold rrF; rw [hask]; rfl
    go_enter Tryz.func80, Tryz.ntmps80
    go_wp2_with (first | (go_at_call 77; refine Calls.mono (Ans.eqb (c_asked _ _ _ _ _ _ _ _ (hR.keep hb)) hask) ?_; rintro e w1 ⟨rfl, hbn⟩; replace a0 := cell_keep a0 hbn; replace a1 := cell_keep a1 hbn; replace d0 := cell_keep d0 hbn; replace d1 := cell_keep d1 hbn; replace hb := bel_to (w := w) (by first | exact hb | exact hb.alloc hb.size _ | exact (hb.alloc hb.size _).alloc (Nat.le_trans hb.size (by simp)) _ | exact hb.setCell (by simp [hb.size]) _) hbn; clear hbn))
    go_ret
    exact ⟨ret_int HM.out.symm, hb⟩
  obtain ⟨hok, ht, hst, c, rfl, hcn, hc5⟩ := ask_attr hask
  obtain ⟨hn1, hn5, hr40, hlen⟩ := isTab_of ht
  have HM : Hid (rrF n R m l c = sumTo R m c (ptnF n R m l) (ptnF n R m l).length) := by show rrF n R m l c = _; rw [ptnF_ok hok]; unfold rrF; rw [if_pos hask]
  have HC : Hid (Cls (ptnF n R m l) R.length) := by show Cls (ptnF n R m l) R.length; rw [ptnF_ok hok]; exact ptn_cls hr40
  have HL : Hid (∀ k, k < R.length → c < (row R k).length) := fun k hk => by have := hlen k hk; omega
  clear hlen ht hok hst hn1 hn5 hcn
  go_enter Tryz.func80, Tryz.ntmps80
  go_wp2_with (first | (go_at_call 77; refine Calls.mono (Ans.eqb (c_asked _ _ _ _ _ _ _ _ (hR.keep hb)) hask) ?_; rintro e w1 ⟨rfl, hbn⟩; replace a0 := cell_keep a0 hbn; replace a1 := cell_keep a1 hbn; replace d0 := cell_keep d0 hbn; replace d1 := cell_keep d1 hbn; replace hb := bel_to (w := w) (by first | exact hb | exact hb.alloc hb.size _ | exact (hb.alloc hb.size _).alloc (Nat.le_trans hb.size (by simp)) _ | exact hb.setCell (by simp [hb.size]) _) hbn; clear hbn))
  refine (c_PartitionOf n _ _ R m l _ (hR.keep hb)).mono ?_
  rintro e w2 ⟨v2, xs, rfl, hO, hbn⟩
  obtain ⟨o2, c2, rfl⟩ := hO.shape
  have hP := hO.read (Nat.le_trans HC.out.len (by unfold Room; omega)) (fun j hj => Nat.le_trans (HC.out.rows j hj) (by unfold Room; omega))
  replace a0 := cell_keep a0 hbn
  replace a1 := cell_keep a1 hbn
  replace d0 := cell_keep d0 hbn
  replace d1 := cell_keep d1 hbn
  replace hb := bel_to hb hbn
  clear hbn hO
  generalize ptnF n R m l = P at *
  have hPl := HC.out.len
  go_wp2
  go_loopw [7, 27] (fun s i wr => ∃ j : Nat, i = .int .i64 j ∧ j ≤ P.length ∧ s = .int .i64 (sumTo R m c P j) ∧ wr.cell? ⟨w.heap.size, 1, none⟩ = some (.slice oa R.length cap) ∧ wr.cell? ⟨w.heap.size + 1, 1, none⟩ = some (.int .i64 c) ∧ RowsAt wr o2 P ∧ Below w.heap.size w wr) (fun _ i _ => P.length - (intOf i).toNat)
  case atStart => exact ⟨0, rfl, Nat.zero_le _, rfl, a1, d1, hP, hb⟩
  case round =>
    clear a0 a1 d0 d1 hP hb
    obtain ⟨j, rfl, hj, rfl, a1, d1, hP, hb⟩ := hrel
    by_cases hlt : j < P.length
    · have HS : Hid (sumTo R m c P (j + 1) = sumTo R m c P j + ((row P j).length - mostTo R m c (row P j) (row P j).length)) := sum_succ ..
      have hsb := sum_bd (R := R) (m := m) (r := (c : Int)) HC.out.rows j hj
      have hrl := HC.out.rows j hlt
      have HE : Hid (∀ k, k < (row P j).length → ∃ e : Nat, nth (row P j) k = e ∧ e < R.length) := HC.out.low j hlt
      obtain ⟨b3, off3, rfl, hbs3, hcc⟩ := hP.at_ (by omega)
      obtain ⟨o4, c4, hc4, hC⟩ := hcc j hlt
      clear hcc
      generalize sumTo R m c P j = S at *
      generalize row P j = C at *
      have hs1 : -40 ≤ S := by omega
      have hs2 : S ≤ 1640 := by omega
      clear hsb
      go_wp2
      go_loopw [10, 33] (fun s i wr => ∃ k : Nat, i = .int .i64 k ∧ k ≤ C.length ∧ s = .int .i64 (mostTo R m c C k) ∧ wr.cell? ⟨w.heap.size, 1, none⟩ = some (.slice oa R.length cap) ∧ wr.cell? ⟨w.heap.size + 1, 1, none⟩ = some (.int .i64 c) ∧ RowsAt wr (some ⟨b3, off3, none⟩) P ∧ IntsAt wr o4 C ∧ Below w.heap.size w wr) (fun _ i _ => C.length - (intOf i).toNat)
      case atStart => exact ⟨0, rfl, Nat.zero_le _, rfl, a1, d1, hP, hC, hb⟩
      case round =>
        clear a1 d1 hP hC hb hc4
        obtain ⟨k, rfl, hk, rfl, a1, d1, hP, hC, hb⟩ := hrel
        have hmb := most_bd R m c C k
        by_cases hlk : k < C.length
        · have HMS : Hid (mostTo R m c C (k + 1) = max (mostTo R m c C k) (1 + (cntN (pairB R m c C k) C.length : Int))) := most_succ ..
          obtain ⟨b5, off5, rfl, hbs5, hcc⟩ := hC.at_ (by omega)
          have hc5' := hcc k hlk
          obtain ⟨e, he, heR⟩ := HE.out k hlk
          have HPB : Hid (∀ t, pairB R m c C k t = ((nth C k != nth C t) && eqCellF m (cellF R (nth C k) c) (cellF R (nth C t) c))) := fun t => rfl
          have HEK : Hid (nth C k = (e : Int)) := he
          rw [he] at hc5'
          obtain ⟨b6, off6, rfl, hbs6, hRR⟩ := hR.at_ (by omega)
          obtain ⟨o7, c7, h7, r7⟩ := hRR e heR
          have hl7 := HL.out e heR
          obtain ⟨b8, off8, rfl, hbs8, hr8⟩ := r7.at_ (by omega)
          have h8 := hr8 c hl7
          have HA : Hid (cellF R (nth C k) c = nth (row R e) c) := by show cellF R (nth C k) c = _; rw [he]; unfold cellF; simp
          clear hcc he hr8 r7
          generalize mostTo R m c C k = M at *
          go_wp2
          go_loopw [13, 39] (fun s i wr => ∃ t : Nat, i = .int .i64 t ∧ t ≤ C.length ∧ s = .int .i64 (1 + (cntN (pairB R m c C k) t : Int)) ∧ wr.cell? ⟨w.heap.size, 1, none⟩ = some (.slice (some ⟨b6, off6, none⟩) R.length cap) ∧ wr.cell? ⟨w.heap.size + 1, 1, none⟩ = some (.int .i64 c) ∧ RowsAt wr (some ⟨b3, off3, none⟩) P ∧ IntsAt wr (some ⟨b5, off5, none⟩) C ∧ Below w.heap.size w wr) (fun _ i _ => C.length - (intOf i).toNat)
          case atStart => exact ⟨0, rfl, Nat.zero_le _, rfl, a1, d1, hP, hC, hb⟩
          case round =>
            clear a1 d1 hP hC hb hc5'
            obtain ⟨t, rfl, ht', rfl, a1, d1, hP, hC, hb⟩ := hrel
            have hcl := cnt_le (pairB R m c C k) t
            by_cases hlT : t < C.length
            · obtain ⟨b9, off9, eq9, hbs9, hcc⟩ := hC.at_ (by omega)
              simp only [Option.some.injEq, Addr.mk.injEq, and_true] at eq9
              obtain ⟨rfl, rfl⟩ := eq9
              have hc9 := hcc t hlT
              obtain ⟨f, hf, hfR⟩ := HE.out t hlT
              have HCS : Hid (cntN (pairB R m c C k) (t + 1) = cntN (pairB R m c C k) t + if pairB R m c C k t then 1 else 0) := cnt_succ ..
              have HPT : Hid (pairB R m c C k t = (((e : Int) != (f : Int)) && eqCellF m (nth (row R e) c) (nth (row R f) c))) := by
                show pairB R m c C k t = _
                rw [HPB.out, HA.out, HEK.out, hf]; unfold cellF; simp
              rw [hf] at hc9
              obtain ⟨o10, c10, h10, r10⟩ := hRR f hfR
              have hl10 := HL.out f hfR
              obtain ⟨b11, off11, rfl, hbs11, hr11⟩ := r10.at_ (by omega)
              have h11 := hr11 c hl10
              have g7 := cell_keep h7 hb
              have g8 := cell_keep h8 hb
              have g10 := cell_keep h10 hb
              have g11 := cell_keep h11 hb
              clear hcc hf hr11 r10 h10 h11
              generalize nth (row R e) c = A at *
              generalize nth (row R f) c = B at *
              generalize cntN (pairB R m c C k) t = q at *
              cases hne : ((e : Int) != (f : Int))
              · have HPF : Hid (pairB R m c C k t = false) := by show pairB R m c C k t = false; rw [HPT.out, hne]; rfl
                go_wp2_with fail
                (refine wp_region_after (by kernel_rfl) (by kernel_rfl) ?_; have q_a1 := fun (x : After _) => cell_keep a1 x.bel; have q_d1 := fun (x : After _) => cell_keep d1 x.bel; (repeat (go_big_quiet_step (fail))); clear q_a1; clear q_d1; refine wpQuiet_nil ?_; rintro _ ⟨⟨w1, hbn⟩, rfl⟩; (try simp only [After.w]); replace a1 := cell_keep a1 hbn; replace d1 := cell_keep d1 hbn; replace hP := hP.keep hbn; replace hC := hC.keep hbn; replace hb := bel_to (w := w) (by first | exact hb | exact hb.alloc hb.size _ | exact (hb.alloc hb.size _).alloc (Nat.le_trans hb.size (by simp)) _ | exact hb.setCell (by simp [hb.size]) _) hbn; clear hbn)
                go_wp2
                go_roundw
                case rel => exact ⟨t + 1, by go_num, by omega, by rw [HCS.out, HPF.out]; simp, a1, d1, hP, hC, hb⟩
                case measure => simp [intOf]; omega
              · cases heq : eqCellF m A B
                · have HPF : Hid (pairB R m c C k t = false) := by show pairB R m c C k t = false; rw [HPT.out, hne, heq]; rfl
                  go_wp2_with fail
                  (refine wp_region_after (by kernel_rfl) (by kernel_rfl) ?_; have q_a1 := fun (x : After _) => cell_keep a1 x.bel; have q_d1 := fun (x : After _) => cell_keep d1 x.bel; have q_g7 := fun (x : After _) => cell_keep g7 x.bel; have q_g8 := fun (x : After _) => cell_keep g8 x.bel; have q_g10 := fun (x : After _) => cell_keep g10 x.bel; have q_g11 := fun (x : After _) => cell_keep g11 x.bel; (repeat (go_big_quiet_step ((first | (go_at_call 111; exact Ans.after (Ans.eqb (c_EqualCells _ _ _ _) heq)))))); clear q_a1; clear q_d1; clear q_g7; clear q_g8; clear q_g10; clear q_g11; refine wpQuiet_nil ?_; rintro _ ⟨⟨w1, hbn⟩, rfl⟩; (try simp only [After.w]); replace a1 := cell_keep a1 hbn; replace d1 := cell_keep d1 hbn; replace g7 := cell_keep g7 hbn; replace g8 := cell_keep g8 hbn; replace g10 := cell_keep g10 hbn; replace g11 := cell_keep g11 hbn; replace hP := hP.keep hbn; replace hC := hC.keep hbn; replace hb := bel_to (w := w) (by first | exact hb | exact hb.alloc hb.size _ | exact (hb.alloc hb.size _).alloc (Nat.le_trans hb.size (by simp)) _ | exact hb.setCell (by simp [hb.size]) _) hbn; clear hbn)
                  go_wp2
                  go_roundw
                  case rel => exact ⟨t + 1, by go_num, by omega, by rw [HCS.out, HPF.out]; simp, a1, d1, hP, hC, hb⟩
                  case measure => simp [intOf]; omega
                · have HPF : Hid (pairB R m c C k t = true) := by show pairB R m c C k t = true; rw [HPT.out, hne, heq]; rfl
                  go_wp2_with fail
                  (refine wp_region_after (by kernel_rfl) (by kernel_rfl) ?_; have q_a1 := fun (x : After _) => cell_keep a1 x.bel; have q_d1 := fun (x : After _) => cell_keep d1 x.bel; have q_g7 := fun (x : After _) => cell_keep g7 x.bel; have q_g8 := fun (x : After _) => cell_keep g8 x.bel; have q_g10 := fun (x : After _) => cell_keep g10 x.bel; have q_g11 := fun (x : After _) => cell_keep g11 x.bel; (repeat (go_big_quiet_step ((first | (go_at_call 111; exact Ans.after (Ans.eqb (c_EqualCells _ _ _ _) heq)))))); clear q_a1; clear q_d1; clear q_g7; clear q_g8; clear q_g10; clear q_g11; refine wpQuiet_nil ?_; rintro _ ⟨⟨w1, hbn⟩, rfl⟩; (try simp only [After.w]); replace a1 := cell_keep a1 hbn; replace d1 := cell_keep d1 hbn; replace g7 := cell_keep g7 hbn; replace g8 := cell_keep g8 hbn; replace g10 := cell_keep g10 hbn; replace g11 := cell_keep g11 hbn; replace hP := hP.keep hbn; replace hC := hC.keep hbn; replace hb := bel_to (w := w) (by first | exact hb | exact hb.alloc hb.size _ | exact (hb.alloc hb.size _).alloc (Nat.le_trans hb.size (by simp)) _ | exact hb.setCell (by simp [hb.size]) _) hbn; clear hbn)
                  go_wp2
                  go_roundw
                  case rel => exact ⟨t + 1, by go_num, by omega, by rw [HCS.out, HPF.out]; simp; omega, a1, d1, hP, hC, hb⟩
                  case measure => simp [intOf]; omega
            · have htt : t = C.length := by omega
              have HTT : Hid (t = C.length) := htt
              have HMS2 : Hid (mostTo R m c C (k + 1) = max M (1 + (cntN (pairB R m c C k) t : Int))) := by show mostTo R m c C (k + 1) = _; rw [HMS.out, htt]
              clear htt
              generalize cntN (pairB R m c C k) t = q at *
              have hm1 := hmb.1
              have hm2 := hmb.2
              go_wp2
              go_roundw
              case rel => exact ⟨k + 1, by go_num, by omega, by rw [HMS2.out], a1, d1, hP, hC, hb⟩
              case measure => simp [intOf]; omega
        · have hkk : k = C.length := by omega
          have HS2 : Hid (sumTo R m c P (j + 1) = S + (C.length - mostTo R m c C k)) := by show sumTo R m c P (j + 1) = _; rw [HS.out, hkk]
          clear hkk
          generalize mostTo R m c C k = M at *
          have hm1 := hmb.1
          have hm2 := hmb.2
          go_wp2
          go_roundw
          case rel => exact ⟨j + 1, by go_num, by omega, by rw [HS2.out], a1, d1, hP, hb⟩
          case measure => simp [intOf]; omega
    · have hjj : j = P.length := by omega
      have HJ : Hid (j = P.length) := hjj
      clear hjj
      go_wp2
      go_ret
      exact ⟨ret_int (by rw [HM.out, HJ.out]), hb⟩
set_option maxHeartbeats 3200000 in
theorem c_specRowsToRemove (n : Int) (oa) (cap : Nat) (R : List (List Int)) (m l r : Int) (w : World) (hR : RowsAt w oa R) :
    Ans Tryz.prog 37 #[.agg #[.int .i64 n, .slice oa R.length cap], .int .i64 m, .agg #[.int .i64 l, .int .i64 r]] w (.int .i64 (rrF n R m l r)) := by
  unfold Ans
  have hb := bel2 w (.cells #[.int .i64 n, .slice oa R.length cap] 26) (.cells #[.int .i64 l, .int .i64 r] 38)
  have a0 := two_a w #[.int .i64 n, .slice oa R.length cap] 26 #[.int .i64 l, .int .i64 r] 38 0 _ rfl
  have a1 := two_a w #[.int .i64 n, .slice oa R.length cap] 26 #[.int .i64 l, .int .i64 r] 38 1 _ rfl
  have d0 := two_b w #[.int .i64 n, .slice oa R.length cap] 26 #[.int .i64 l, .int .i64 r] 38 0 _ rfl
  have d1 := two_b w #[.int .i64 n, .slice oa R.length cap] 26 #[.int .i64 l, .int .i64 r] 38 1 _ rfl
  cases hf : (isTabF n R && modeF m)
  · have HM : Hid (rrF n R m l r = -1) := by show rrF n R m l r = -1; unfold rrF askF; rw [hf]; rfl
    go_enter Tryz.func37, Tryz.ntmps37
    go_wp2_with (first | (go_at_call 51; refine Calls.mono (Ans.eqb (c_l4Fine _ _ _ _ _ _ (hR.keep hb)) hf) ?_; rintro e w1 ⟨rfl, hbn⟩; replace a0 := cell_keep a0 hbn; replace a1 := cell_keep a1 hbn; replace d0 := cell_keep d0 hbn; replace d1 := cell_keep d1 hbn; replace hb := bel_to (w := w) (by first | exact hb | exact hb.alloc hb.size _ | exact (hb.alloc hb.size _).alloc (Nat.le_trans hb.size (by simp)) _ | exact hb.setCell (by simp [hb.size]) _) hbn; clear hbn))
    go_ret
    exact ⟨ret_int HM.out.symm, hb⟩
  cases hd : isDepF n l r
  · have HM : Hid (rrF n R m l r = -1) := by show rrF n R m l r = -1; unfold rrF askF; rw [hf, hd]; rfl
    go_enter Tryz.func37, Tryz.ntmps37
    go_wp2_with (first | (go_at_call 51; refine Calls.mono (Ans.eqb (c_l4Fine _ _ _ _ _ _ (hR.keep hb)) hf) ?_; rintro e w1 ⟨rfl, hbn⟩; replace a0 := cell_keep a0 hbn; replace a1 := cell_keep a1 hbn; replace d0 := cell_keep d0 hbn; replace d1 := cell_keep d1 hbn; replace hb := bel_to (w := w) (by first | exact hb | exact hb.alloc hb.size _ | exact (hb.alloc hb.size _).alloc (Nat.le_trans hb.size (by simp)) _ | exact hb.setCell (by simp [hb.size]) _) hbn; clear hbn) | (go_at_call 81; refine Calls.mono (Ans.eqb (c_specIsDep _ _ _ _) hd) ?_; rintro e w1 ⟨rfl, hbn⟩; replace a0 := cell_keep a0 hbn; replace a1 := cell_keep a1 hbn; replace d0 := cell_keep d0 hbn; replace d1 := cell_keep d1 hbn; replace hb := bel_to (w := w) (by first | exact hb | exact hb.alloc hb.size _ | exact (hb.alloc hb.size _).alloc (Nat.le_trans hb.size (by simp)) _ | exact hb.setCell (by simp [hb.size]) _) hbn; clear hbn))
    go_ret
    exact ⟨ret_int HM.out.symm, hb⟩
  have hask : askF n R m l r = true := by unfold askF; rw [hf, hd]; rfl
  obtain ⟨hok, ht, hst, c, hrc, hcn, hc5⟩ := ask_attr hask
  have hr0 : 0 ≤ r := by omega
  have hr5 : r < 5 := by omega
  obtain ⟨hn1, hn5, hr40, hlen⟩ := isTab_of ht
  have HM : Hid (rrF n R m l r = sumTo R m r (ptnQ (sameB R m l) R.length R.length) (ptnQ (sameB R m l) R.length R.length).length) := by show rrF n R m l r = _; unfold rrF; rw [if_pos hask]
  have HC : Hid (Cls (ptnQ (sameB R m l) R.length R.length) R.length) := ptn_cls hr40
  have HL : Hid (∀ k, k < R.length → (row R k).length ≤ 5 ∧ r.toNat < (row R k).length) := fun k hk => by have := hlen k hk; omega
  have HT : Hid (isTabF n R = true ∧ St l ∧ Co r) := ⟨ht, hst, ⟨hr0, hr5⟩⟩
  clear hlen ht hok hst hn1 hn5 hcn hask hrc hc5 c
  go_enter Tryz.func37, Tryz.ntmps37
  go_wp2_with (first | (go_at_call 51; refine Calls.mono (Ans.eqb (c_l4Fine _ _ _ _ _ _ (hR.keep hb)) hf) ?_; rintro e w1 ⟨rfl, hbn⟩; replace a0 := cell_keep a0 hbn; replace a1 := cell_keep a1 hbn; replace d0 := cell_keep d0 hbn; replace d1 := cell_keep d1 hbn; replace hb := bel_to (w := w) (by first | exact hb | exact hb.alloc hb.size _ | exact (hb.alloc hb.size _).alloc (Nat.le_trans hb.size (by simp)) _ | exact hb.setCell (by simp [hb.size]) _) hbn; clear hbn) | (go_at_call 81; refine Calls.mono (Ans.eqb (c_specIsDep _ _ _ _) hd) ?_; rintro e w1 ⟨rfl, hbn⟩; replace a0 := cell_keep a0 hbn; replace a1 := cell_keep a1 hbn; replace d0 := cell_keep d0 hbn; replace d1 := cell_keep d1 hbn; replace hb := bel_to (w := w) (by first | exact hb | exact hb.alloc hb.size _ | exact (hb.alloc hb.size _).alloc (Nat.le_trans hb.size (by simp)) _ | exact hb.setCell (by simp [hb.size]) _) hbn; clear hbn))
  refine (c_l5Classes n _ _ R m l _ (hR.keep hb) HT.out.1 HT.out.2.1).mono ?_
  rintro e w2 ⟨v2, xs, rfl, hO, hbn⟩
  obtain ⟨o2, c2, rfl⟩ := hO.shape
  have hP := hO.read (Nat.le_trans HC.out.len (by unfold Room; omega)) (fun j hj => Nat.le_trans (HC.out.rows j hj) (by unfold Room; omega))
  replace a0 := cell_keep a0 hbn
  replace a1 := cell_keep a1 hbn
  replace d0 := cell_keep d0 hbn
  replace d1 := cell_keep d1 hbn
  replace hb := bel_to hb hbn
  clear hbn hO
  generalize ptnQ (sameB R m l) R.length R.length = P at *
  have hPl := HC.out.len
  go_wp2
  go_loopw [7, 9] (fun s i wr => ∃ j : Nat, i = .int .i64 j ∧ j ≤ P.length ∧ s = .int .i64 (sumTo R m r P j) ∧ wr.cell? ⟨w.heap.size, 0, none⟩ = some (.int .i64 n) ∧ wr.cell? ⟨w.heap.size, 1, none⟩ = some (.slice oa R.length cap) ∧ wr.cell? ⟨w.heap.size + 1, 1, none⟩ = some (.int .i64 r) ∧ RowsAt wr o2 P ∧ Below w.heap.size w wr) (fun _ i _ => P.length - (intOf i).toNat)
  case atStart => exact ⟨0, rfl, Nat.zero_le _, rfl, a0, a1, d1, hP, hb⟩
  case round =>
    clear a0 a1 d0 d1 hP hb
    obtain ⟨j, rfl, hj, rfl, a0, a1, d1, hP, hb⟩ := hrel
    by_cases hlt : j < P.length
    · have HS : Hid (sumTo R m r P (j + 1) = sumTo R m r P j + ((row P j).length - mostTo R m r (row P j) (row P j).length)) := sum_succ ..
      have hsb := sum_bd (R := R) (m := m) (r := r) HC.out.rows j hj
      have hrl := HC.out.rows j hlt
      have HE : Hid (∀ k, k < (row P j).length → ∃ e : Nat, nth (row P j) k = e ∧ e < R.length) := HC.out.low j hlt
      have HU : Hid (Up (row P j)) := HC.out.up j hlt
      obtain ⟨b3, off3, rfl, hbs3, hcc⟩ := hP.at_ (by omega)
      obtain ⟨o4, c4, hc4, hC⟩ := hcc j hlt
      clear hcc
      generalize sumTo R m r P j = S at *
      generalize row P j = C at *
      have hs1 : -40 ≤ S := by omega
      have hs2 : S ≤ 1640 := by omega
      clear hsb
      go_wp2
      go_loopw [10, 11] (fun s i wr => ∃ k : Nat, i = .int .i64 k ∧ k ≤ C.length ∧ s = .int .i64 (mostTo R m r C k) ∧ wr.cell? ⟨w.heap.size, 0, none⟩ = some (.int .i64 n) ∧ wr.cell? ⟨w.heap.size, 1, none⟩ = some (.slice oa R.length cap) ∧ wr.cell? ⟨w.heap.size + 1, 1, none⟩ = some (.int .i64 r) ∧ wr.cell? ⟨b3, off3 + j, none⟩ = some (.slice o4 C.length c4) ∧ IntsAt wr o4 C ∧ RowsAt wr (some ⟨b3, off3, none⟩) P ∧ Below w.heap.size w wr) (fun _ i _ => C.length - (intOf i).toNat)
      case atStart => exact ⟨0, rfl, Nat.zero_le _, rfl, a0, a1, d1, hc4, hC, hP, hb⟩
      case round =>
        clear a0 a1 d1 hC hb hc4 hP
        obtain ⟨k, rfl, hk, rfl, a0, a1, d1, hc4, hC, hP, hb⟩ := hrel
        have hmb := most_bd R m r C k
        by_cases hlk : k < C.length
        · have HMS : Hid (mostTo R m r C (k + 1) = max (mostTo R m r C k) (1 + (cntN (pairB R m r C k) C.length : Int))) := most_succ ..
          obtain ⟨b5, off5, rfl, hbs5, hcc⟩ := hC.at_ (by omega)
          have hc5' := hcc k hlk
          obtain ⟨e, he, heR⟩ := HE.out k hlk
          have HPB : Hid (∀ t, pairB R m r C k t = ((nth C k != nth C t) && eqCellF m (cellF R (nth C k) r) (cellF R (nth C t) r))) := fun t => rfl
          have HEK : Hid (nth C k = (e : Int)) := he
          rw [he] at hc5'
          clear hcc he
          generalize mostTo R m r C k = M at *
          go_wp2
          go_loopw [12, 13] (fun s i wr => ∃ t : Nat, i = .int .i64 t ∧ t ≤ C.length ∧ s = .int .i64 (1 + (cntN (pairB R m r C k) t : Int)) ∧ wr.cell? ⟨w.heap.size, 0, none⟩ = some (.int .i64 n) ∧ wr.cell? ⟨w.heap.size, 1, none⟩ = some (.slice oa R.length cap) ∧ wr.cell? ⟨w.heap.size + 1, 1, none⟩ = some (.int .i64 r) ∧ wr.cell? ⟨b3, off3 + j, none⟩ = some (.slice (some ⟨b5, off5, none⟩) C.length c4) ∧ IntsAt wr (some ⟨b5, off5, none⟩) C ∧ RowsAt wr (some ⟨b3, off3, none⟩) P ∧ Below w.heap.size w wr) (fun _ i _ => C.length - (intOf i).toNat)
          case atStart => exact ⟨0, rfl, Nat.zero_le _, rfl, a0, a1, d1, hc4, hC, hP, hb⟩
          case round =>
            clear a0 a1 d1 hC hb hc5' hc4 hP
            obtain ⟨t, rfl, ht', rfl, a0, a1, d1, hc4, hC, hP, hb⟩ := hrel
            have hcl := cnt_le (pairB R m r C k) t
            by_cases hlT : t < C.length
            · obtain ⟨b9, off9, eq9, hbs9, hcc⟩ := hC.at_ (by omega)
              simp only [Option.some.injEq, Addr.mk.injEq, and_true] at eq9
              obtain ⟨rfl, rfl⟩ := eq9
              have hc9 := hcc t hlT
              have hc8 := hcc k hlk
              obtain ⟨f, hf, hfR⟩ := HE.out t hlT
              have HCS : Hid (cntN (pairB R m r C k) (t + 1) = cntN (pairB R m r C k) t + if pairB R m r C k t then 1 else 0) := cnt_succ ..
              obtain ⟨X, hX⟩ : ∃ X, X = agreeF m (row R e) (row R f) := ⟨_, rfl⟩
              have HXA : Hid (∀ (w' : World), RowsAt w' oa R → Ans Tryz.prog 83 #[.agg #[.int .i64 n, .slice oa R.length cap], .int .i64 m, .int .i64 e, .int .i64 f] w' (.int .i64 X)) := fun w' h => by rw [hX]; exact c_l4Agree n oa cap R m e f w' h HT.out.1 heR hfR
              have HPT : Hid (pairB R m r C k t = (decide (k ≠ t) && hasc X r)) := by
                show pairB R m r C k t = _
                have h9 := HL.out e heR
                rw [HPB.out, up_ne HU.out hlk hlT, HEK.out, hf, hX, hasc_agree HT.out.2.2 h9.1]
                unfold cellF
                rw [decide_eq_true h9.2]; simp
              rw [hf] at hc9
              rw [HEK.out] at hc8
              have hx := fun (x : After wr) => (hR.keep hb).keep x.bel
              clear hcc hf hX
              generalize cntN (pairB R m r C k) t = q at *
              cases hne : ((t : Int) != (k : Int))
              · have HPF : Hid (pairB R m r C k t = false) := by
                  have : t = k := by have h9 := hne; simp at h9; omega
                  show pairB R m r C k t = false
                  rw [HPT.out]; simp [this]
                go_wp2_with fail
                (refine wp_region_after (by kernel_rfl) (by kernel_rfl) ?_; have q_a0 := fun (x : After _) => cell_keep a0 x.bel; have q_a1 := fun (x : After _) => cell_keep a1 x.bel; have q_d1 := fun (x : After _) => cell_keep d1 x.bel; have q_hc4 := fun (x : After _) => cell_keep hc4 x.bel; (repeat (go_big_quiet_step (fail))); clear q_a0; clear q_a1; clear q_d1; clear q_hc4; refine wpQuiet_nil ?_; rintro _ ⟨⟨w1, hbn⟩, rfl⟩; (try simp only [After.w]); replace a0 := cell_keep a0 hbn; replace a1 := cell_keep a1 hbn; replace d1 := cell_keep d1 hbn; replace hc4 := cell_keep hc4 hbn; replace hC := hC.keep hbn; replace hP := hP.keep hbn; replace hb := bel_to (w := w) (by first | exact hb | exact hb.alloc hb.size _ | exact (hb.alloc hb.size _).alloc (Nat.le_trans hb.size (by simp)) _ | exact hb.setCell (by simp [hb.size]) _) hbn; clear hbn)
                go_wp2
                go_roundw
                case rel => exact ⟨t + 1, by go_num, by omega, by rw [HCS.out, HPF.out]; simp, a0, a1, d1, hc4, hC, hP, hb⟩
                case measure => simp [intOf]; omega
              · have HNE : Hid (k ≠ t) := by have : ¬ (t = k) := by have h9 := hne; simp at h9; omega
                                             show k ≠ t; omega
                cases hh : hasc X r
                · have hh2 : (bits BinOp.and IntKind.i64 (X / 2 ^ r.toNat) 1 == 1) = false := hh
                  have HPF : Hid (pairB R m r C k t = false) := by show pairB R m r C k t = false; rw [HPT.out, hh]; simp
                  go_wp2_with fail
                  (refine wp_region_after (by kernel_rfl) (by kernel_rfl) ?_; have q_a0 := fun (x : After _) => cell_keep a0 x.bel; have q_a1 := fun (x : After _) => cell_keep a1 x.bel; have q_d1 := fun (x : After _) => cell_keep d1 x.bel; have q_hc4 := fun (x : After _) => cell_keep hc4 x.bel; have q_hc8 := fun (x : After _) => cell_keep hc8 x.bel; have q_hc9 := fun (x : After _) => cell_keep hc9 x.bel; (repeat (go_big_quiet_step ((first | (go_at_call 83; exact Ans.after (HXA.out _ (hx _))))))); clear q_a0; clear q_a1; clear q_d1; clear q_hc4; clear q_hc8; clear q_hc9; refine wpQuiet_nil ?_; rintro _ ⟨⟨w1, hbn⟩, rfl⟩; (try simp only [After.w]); replace a0 := cell_keep a0 hbn; replace a1 := cell_keep a1 hbn; replace d1 := cell_keep d1 hbn; replace hc4 := cell_keep hc4 hbn; replace hc8 := cell_keep hc8 hbn; replace hc9 := cell_keep hc9 hbn; replace hC := hC.keep hbn; replace hP := hP.keep hbn; replace hb := bel_to (w := w) (by first | exact hb | exact hb.alloc hb.size _ | exact (hb.alloc hb.size _).alloc (Nat.le_trans hb.size (by simp)) _ | exact hb.setCell (by simp [hb.size]) _) hbn; clear hbn)
                  go_wp2
                  go_roundw
                  case rel => exact ⟨t + 1, by go_num, by omega, by rw [HCS.out, HPF.out]; simp, a0, a1, d1, hc4, hC, hP, hb⟩
                  case measure => simp [intOf]; omega
                · have hh2 : (bits BinOp.and IntKind.i64 (X / 2 ^ r.toNat) 1 == 1) = true := hh
                  have HPF : Hid (pairB R m r C k t = true) := by show pairB R m r C k t = true; rw [HPT.out, hh, decide_eq_true HNE.out]; rfl
                  go_wp2_with fail
                  (refine wp_region_after (by kernel_rfl) (by kernel_rfl) ?_; have q_a0 := fun (x : After _) => cell_keep a0 x.bel; have q_a1 := fun (x : After _) => cell_keep a1 x.bel; have q_d1 := fun (x : After _) => cell_keep d1 x.bel; have q_hc4 := fun (x : After _) => cell_keep hc4 x.bel; have q_hc8 := fun (x : After _) => cell_keep hc8 x.bel; have q_hc9 := fun (x : After _) => cell_keep hc9 x.bel; (repeat (go_big_quiet_step ((first | (go_at_call 83; exact Ans.after (HXA.out _ (hx _))))))); clear q_a0; clear q_a1; clear q_d1; clear q_hc4; clear q_hc8; clear q_hc9; refine wpQuiet_nil ?_; rintro _ ⟨⟨w1, hbn⟩, rfl⟩; (try simp only [After.w]); replace a0 := cell_keep a0 hbn; replace a1 := cell_keep a1 hbn; replace d1 := cell_keep d1 hbn; replace hc4 := cell_keep hc4 hbn; replace hc8 := cell_keep hc8 hbn; replace hc9 := cell_keep hc9 hbn; replace hC := hC.keep hbn; replace hP := hP.keep hbn; replace hb := bel_to (w := w) (by first | exact hb | exact hb.alloc hb.size _ | exact (hb.alloc hb.size _).alloc (Nat.le_trans hb.size (by simp)) _ | exact hb.setCell (by simp [hb.size]) _) hbn; clear hbn)
                  go_wp2
                  go_roundw
                  case rel => exact ⟨t + 1, by go_num, by omega, by rw [HCS.out, HPF.out]; simp; omega, a0, a1, d1, hc4, hC, hP, hb⟩
                  case measure => simp [intOf]; omega
            · have htt : t = C.length := by omega
              have HMS2 : Hid (mostTo R m r C (k + 1) = max M (1 + (cntN (pairB R m r C k) t : Int))) := by show mostTo R m r C (k + 1) = _; rw [HMS.out, htt]
              clear htt
              generalize cntN (pairB R m r C k) t = q at *
              have hm1 := hmb.1
              have hm2 := hmb.2
              go_wp2
              go_roundw
              case rel => exact ⟨k + 1, by go_num, by omega, by rw [HMS2.out], a0, a1, d1, hc4, hC, hP, hb⟩
              case measure => simp [intOf]; omega
        · have hkk : k = C.length := by omega
          have HS2 : Hid (sumTo R m r P (j + 1) = S + C.length - mostTo R m r C k) := by show sumTo R m r P (j + 1) = _; rw [HS.out, hkk]; omega
          clear hkk
          generalize mostTo R m r C k = M at *
          have hm1 := hmb.1
          have hm2 := hmb.2
          go_wp2
          go_roundw
          case rel => exact ⟨j + 1, by go_num, by omega, by rw [HS2.out], a0, a1, d1, hP, hb⟩
          case measure => simp [intOf]; omega
    · have hjj : j = P.length := by omega
      have HJ : Hid (j = P.length) := hjj
      clear hjj
      go_wp2
      go_ret
      exact ⟨ret_int (by rw [HM.out, HJ.out]), hb⟩
end Go.Proofs.YtcenndlbhgfdfaaGreat
namespace Go.Proofs.YtcenndlbhgfdfaaGreat
open Go.RowKit
set_option linter.unusedVariables false
set_option maxRecDepth 100000


set_option maxHeartbeats 3200000 in
theorem c_minimalDeps_Q (N : Nat) (hN : N ≤ 5) (e0 e1 e2 : Value) (p : Int → Int → Bool) (w : World)
    (hcl : ∀ (W : World) (x r : Int), St x → (0 ≤ r ∧ r < N) → x < 2 ^ N → Below w.heap.size w W → Ans Tryz.prog 79 #[.agg #[.int .i64 x, .int .i64 r], e0, e1, e2] W (.bool (p x r))) :
    Calls Tryz.prog 69 #[.int .i64 N, .func (.func 79) #[] #[e0, e1, e2]] w fun e w' => ∃ v, e = .returned v ∧ OwnD w' w.heap.size v (colsF p (partsF N) N) ∧ Below w.heap.size w w' := by
  obtain ⟨i0, hi, hz0, hz1, hz2⟩ := info_parts info_int
  obtain ⟨j0, hj, hy0, hy1, hy2⟩ := info_parts info_dep
  have hb := (Below.refl w.heap.size w).alloc (Nat.le_refl _) (.cells #[] 38)
  have hO := OwnD.empty w w.heap.size (Nat.le_refl _)
  have hpl := partsF_len N
  have HPS : Hid (∀ x ∈ partsF N, St x ∧ x < 2 ^ N) := fun x hx => by
    have h := (partsF_mem (n := N) (by omega) (by omega)).1 hx
    have h2 := (pow_wrap (n := (N : Int)) (by omega) (by omega)).2.1
    rw [Int.toNat_natCast] at h h2
    exact ⟨⟨h.1, by omega⟩, h.2⟩
  have HCL : Hid (∀ (W : World) (x r : Int), St x → (0 ≤ r ∧ r < N) → x < 2 ^ N → Below w.heap.size w W → Ans Tryz.prog 79 #[.agg #[.int .i64 x, .int .i64 r], e0, e1, e2] W (.bool (p x r))) := hcl
  clear hcl
  go_enter Tryz.func69, Tryz.ntmps69
  go_wp2
  go_loopw [5, 6] (fun v i wr => ∃ r : Nat, i = .int .i64 r ∧ r ≤ N ∧ OwnD wr w.heap.size v (colsF p (partsF N) r) ∧ Below w.heap.size w wr) (fun _ i _ => N - (intOf i).toNat)
  case atStart => exact ⟨0, rfl, Nat.zero_le _, by simpa [colsF] using hO, hb⟩
  case round =>
    clear hO hb
    obtain ⟨r, rfl, hr, hO, hb⟩ := hrel
    have hcl := colsF_len p (partsF N) r
    have hcl2 : (colsF p (partsF N) r).length ≤ 32 * 5 := Nat.le_trans hcl (Nat.mul_le_mul hpl (by omega))
    clear hcl
    by_cases hlt : r < N
    · have HC : Hid (colsF p (partsF N) (r + 1) = colsF p (partsF N) r ++ colF p (partsF N) r) := colsF_succ _ _ _
      have hr64 : 0 ≤ (r : Int) ∧ (r : Int) < 64 := by omega
      have hT := OwnI.empty _ wr.heap.size (Nat.le_refl _)
      have ap_OT := apart_old hO hT
      replace hT := hT.based hb.size
      have hO := World.ownsRow.alloc hO (.cells #[] 3)
      have hb := hb.alloc hb.size (.cells #[] 3)
      go_wp2_with fail
      have oldO := hO
      have oldT := hT
      refine (c_PartsBySize (N : Int) _).mono ?_
      rintro e w2 ⟨v2, rfl, hP, hbn⟩
      have ap_PO := (apart_old oldO hP).symm
      have ap_PT := (apart_old oldT hP).symm
      replace hT := hT.keep hbn
      replace hO := OwnD.keep hO hbn
      replace hP := hP.based hb.size
      replace hb := bel_to hb hbn
      clear oldO oldT hbn
      generalize hPP : partsF N = P at *
      have HPP : Hid (partsF N = P) := hPP
      clear hPP
      generalize colsF p P r = A at *
      obtain ⟨o1, c1, rfl⟩ := hP.shape
      have hPr : P.length ≤ Room := by unfold Room; omega
      have hrN : 0 ≤ (r : Int) ∧ (r : Int) < N := by omega
      go_wp2
      go_loopw [5, 7, 20] (fun vO vT i wr => ∃ k : Nat, i = .int .i64 k ∧ k ≤ P.length ∧ OwnI wr w.heap.size vT (takenF p r (P.take k)) ∧ OwnD wr w.heap.size vO (A ++ colF p (P.take k) r) ∧ OwnI wr w.heap.size (.slice o1 P.length c1) P ∧ Apart vO vT ∧ Apart (.slice o1 P.length c1) vO ∧ Apart (.slice o1 P.length c1) vT ∧ Below w.heap.size w wr) (fun _ _ i _ => P.length - (intOf i).toNat)
      case atStart => exact ⟨0, rfl, Nat.zero_le _, by simpa [takenF] using hT, by simpa [colF, takenF] using hO, hP, ap_OT, ap_PO, ap_PT, hb⟩
      case round =>
        clear hT hO hP ap_OT ap_PO ap_PT hb
        obtain ⟨k, rfl, hk, hT, hO, hP, ap_OT, ap_PO, ap_PT, hb⟩ := hrel
        by_cases hlk : k < P.length
        · obtain ⟨b2, off2, rfl, hbs2, hca⟩ := (hP.ints rfl hPr).at_ (by omega)
          have hc2 := hca k hlk
          have hxs := HPS.out _ (List.mem_iff_getElem?.2 ⟨k, nth_eq hlk⟩)
          have hTl := taken_len p r P k hk
          have hOl : (A ++ colF p (P.take k) r).length ≤ 300 := by
            have h := colF_len p (P.take k) r
            rw [List.length_take] at h
            rw [List.length_append]
            omega
          have HTs : Hid (takenF p r (P.take (k + 1)) = stepM p r (takenF p r (P.take k)) (nth P k)) := taken_succ p r hlk
          have HOs : Hid (A ++ colF p (P.take (k + 1)) r = A ++ (stepM p r (takenF p r (P.take k)) (nth P k)).map fun x => (x, (r : Int))) := by
            show A ++ colF p (P.take (k + 1)) r = A ++ (stepM p r (takenF p r (P.take k)) (nth P k)).map fun x => (x, (r : Int))
            unfold colF; rw [taken_succ p r hlk]
          have HOk : Hid (A ++ colF p (P.take k) r = A ++ (takenF p r (P.take k)).map fun x => (x, (r : Int))) := rfl
          have hst : Hid (St (nth P k)) := hxs.1
          have hx2 := hxs.2
          clear hca hxs
          generalize nth P k = x at *
          generalize takenF p r (P.take k) = T at *
          generalize A ++ colF p (P.take k) r = C at *
          have hTr : T.length ≤ Room := by unfold Room; omega
          obtain ⟨oT, cT, rfl⟩ := hT.shape
          cases h1 : hasc x (r : Int)
          · cases h2 : anyIns T x
            · cases h3 : p x (r : Int)
              · have HM : Hid (stepM p r T x = T) := by show stepM p r T x = T; unfold stepM; rw [h1, h2, h3]; rfl
                go_wp2_with (first | (go_at_call 67; refine Calls.mono (Ans.eqb (c_has _ _ hr64 _) h1) ?_; rintro e w1 ⟨rfl, hbn⟩; replace hT := hT.keep hbn; replace hP := hP.keep hbn; replace hO := hO.keep hbn; replace hb := bel_to (w := w) (by first | exact hb | exact hb.alloc hb.size _ | exact (hb.alloc hb.size _).alloc (Nat.le_trans hb.size (by simp)) _ | exact hb.setCell (by simp [hb.size]) _) hbn; clear hbn) | (go_at_call 102; refine Calls.mono (Ans.eqb (c_hasPart _ _ _ _ _ (hT.ints rfl hTr)) h2) ?_; rintro e w1 ⟨rfl, hbn⟩; replace hT := hT.keep hbn; replace hP := hP.keep hbn; replace hO := hO.keep hbn; replace hb := bel_to (w := w) (by first | exact hb | exact hb.alloc hb.size _ | exact (hb.alloc hb.size _).alloc (Nat.le_trans hb.size (by simp)) _ | exact hb.setCell (by simp [hb.size]) _) hbn; clear hbn) | (go_at_call 79; refine Calls.mono (Ans.eqb (HCL.out _ x (r : Int) hst.out hrN hx2 hb) h3) ?_; rintro e w1 ⟨rfl, hbn⟩; replace hT := hT.keep hbn; replace hP := hP.keep hbn; replace hO := hO.keep hbn; replace hb := bel_to (w := w) (by first | exact hb | exact hb.alloc hb.size _ | exact (hb.alloc hb.size _).alloc (Nat.le_trans hb.size (by simp)) _ | exact hb.setCell (by simp [hb.size]) _) hbn; clear hbn) | fail)
                go_roundw
                case rel => exact ⟨k + 1, by go_num, by omega, by rw [HTs.out, HM.out]; exact hT, by rw [HOs.out, HM.out, ← HOk.out]; exact hO, hP, ap_OT, ap_PO, ap_PT, hb⟩
                case measure => simp [intOf]; omega
              · have HM : Hid (stepM p r T x = T ++ [x]) := by show stepM p r T x = T ++ [x]; unfold stepM; rw [h1, h2, h3]; rfl
                have HOn : Hid (A ++ (T ++ [x]).map (fun x => (x, (r : Int))) = C ++ [(x, (r : Int))]) := by
                  show A ++ (T ++ [x]).map (fun x => (x, (r : Int))) = C ++ [(x, (r : Int))]
                  rw [HOk.out]; simp
                have hq : True := trivial
                go_wp2_with (first | (go_at_call 67; refine Calls.mono (Ans.eqb (c_has _ _ hr64 _) h1) ?_; rintro e w1 ⟨rfl, hbn⟩; replace hT := hT.keep hbn; replace hP := hP.keep hbn; replace hO := hO.keep hbn; replace hb := bel_to (w := w) (by first | exact hb | exact hb.alloc hb.size _ | exact (hb.alloc hb.size _).alloc (Nat.le_trans hb.size (by simp)) _ | exact hb.setCell (by simp [hb.size]) _) hbn; clear hbn) | (go_at_call 102; refine Calls.mono (Ans.eqb (c_hasPart _ _ _ _ _ (hT.ints rfl hTr)) h2) ?_; rintro e w1 ⟨rfl, hbn⟩; replace hT := hT.keep hbn; replace hP := hP.keep hbn; replace hO := hO.keep hbn; replace hb := bel_to (w := w) (by first | exact hb | exact hb.alloc hb.size _ | exact (hb.alloc hb.size _).alloc (Nat.le_trans hb.size (by simp)) _ | exact hb.setCell (by simp [hb.size]) _) hbn; clear hbn) | (go_at_call 79; refine Calls.mono (Ans.eqb (HCL.out _ x (r : Int) hst.out hrN hx2 hb) h3) ?_; rintro e w1 ⟨rfl, hbn⟩; replace hT := hT.keep hbn; replace hP := hP.keep hbn; replace hO := hO.keep hbn; replace hb := bel_to (w := w) (by first | exact hb | exact hb.alloc hb.size _ | exact (hb.alloc hb.size _).alloc (Nat.le_trans hb.size (by simp)) _ | exact hb.setCell (by simp [hb.size]) _) hbn; clear hbn) | (clear hq; at_builtin; refine wpList_append_fresh rfl _ _ 50 rfl w.heap.size 3 i0 (.int .i64 0) 1 8 Tryz.underlying50 hi hz0 hz1 hz2 rfl (by decide) _ _ _ rfl (World.ownsRow.alloc hT _) _ 1 1 [.int .i64 x] rfl rfl (by intro j u hj; match j, hj with | 0, hj => simp at hj; subst hj; simp [Addr.add]) (by intro u hu; simp at hu; subst hu; rfl) (by unfold maxLen; omega) (by omega) (by have := hb.size; simp; omega) ?_; intro v' w1 hown hgrow hfr; replace hb := (hb.alloc hb.size _).grown hgrow (by have := hb.size; simp; omega) (fun g hg => (World.ownsRow.lt hT g hg).1); obtain ⟨hP, ap_PT⟩ := OwnI.past hP hgrow ap_PT hfr; obtain ⟨hO, ap_OT⟩ := OwnD.past hO hgrow ap_OT hfr; replace hT := OwnI.snoc hown; clear hown hgrow hfr) | (at_builtin; refine wpList_append_fresh rfl _ _ 27 rfl w.heap.size 38 j0 (.agg #[.int .i64 0, .int .i64 0]) 2 16 Tryz.underlying27 hj hy0 hy1 hy2 rfl (by decide) _ _ _ rfl (World.ownsRow.alloc hO _) _ 1 1 [.int .i64 x, .int .i64 (r : Int)] rfl rfl (World.news_of_block (cs := #[.int .i64 x, .int .i64 (r : Int)]) (t := 38) (fr := (0, 0)) (heap_alloc_new _ _)) (by intro u hu; simp at hu; rcases hu with rfl | rfl <;> rfl) (by unfold maxLen; omega) (by omega) (by have := hb.size; simp; omega) ?_; intro v' w1 hown hgrow hfr; replace hb := (hb.alloc hb.size _).grown hgrow (by have := hb.size; simp; omega) (fun g hg => (World.ownsRow.lt hO g hg).1); obtain ⟨hP, ap_PO⟩ := OwnI.past hP hgrow ap_PO hfr; obtain ⟨hT, ap_TO⟩ := OwnI.past hT hgrow ap_OT.symm hfr; have ap_OT := ap_TO.symm; clear ap_TO; replace hO := own_snocD hown; clear hown hgrow hfr) | fail)
                go_roundw
                case rel => exact ⟨k + 1, by go_num, by omega, by rw [HTs.out, HM.out]; exact hT, by rw [HOs.out, HM.out, HOn.out]; exact hO, hP, ap_OT, ap_PO, ap_PT, hb⟩
                case measure => simp [intOf]; omega
            · have HM : Hid (stepM p r T x = T) := by show stepM p r T x = T; unfold stepM; rw [h1, h2]; rfl
              go_wp2_with (first | (go_at_call 67; refine Calls.mono (Ans.eqb (c_has _ _ hr64 _) h1) ?_; rintro e w1 ⟨rfl, hbn⟩; replace hT := hT.keep hbn; replace hP := hP.keep hbn; replace hO := hO.keep hbn; replace hb := bel_to (w := w) (by first | exact hb | exact hb.alloc hb.size _ | exact (hb.alloc hb.size _).alloc (Nat.le_trans hb.size (by simp)) _ | exact hb.setCell (by simp [hb.size]) _) hbn; clear hbn) | (go_at_call 102; refine Calls.mono (Ans.eqb (c_hasPart _ _ _ _ _ (hT.ints rfl hTr)) h2) ?_; rintro e w1 ⟨rfl, hbn⟩; replace hT := hT.keep hbn; replace hP := hP.keep hbn; replace hO := hO.keep hbn; replace hb := bel_to (w := w) (by first | exact hb | exact hb.alloc hb.size _ | exact (hb.alloc hb.size _).alloc (Nat.le_trans hb.size (by simp)) _ | exact hb.setCell (by simp [hb.size]) _) hbn; clear hbn) | (go_at_call 79; refine Calls.mono (Ans.eqb (HCL.out _ x (r : Int) hst.out hrN hx2 hb) h3) ?_; rintro e w1 ⟨rfl, hbn⟩; replace hT := hT.keep hbn; replace hP := hP.keep hbn; replace hO := hO.keep hbn; replace hb := bel_to (w := w) (by first | exact hb | exact hb.alloc hb.size _ | exact (hb.alloc hb.size _).alloc (Nat.le_trans hb.size (by simp)) _ | exact hb.setCell (by simp [hb.size]) _) hbn; clear hbn) | fail)
              go_roundw
              case rel => exact ⟨k + 1, by go_num, by omega, by rw [HTs.out, HM.out]; exact hT, by rw [HOs.out, HM.out, ← HOk.out]; exact hO, hP, ap_OT, ap_PO, ap_PT, hb⟩
              case measure => simp [intOf]; omega
          · have HM : Hid (stepM p r T x = T) := by show stepM p r T x = T; unfold stepM; rw [h1]; rfl
            go_wp2_with (first | (go_at_call 67; refine Calls.mono (Ans.eqb (c_has _ _ hr64 _) h1) ?_; rintro e w1 ⟨rfl, hbn⟩; replace hT := hT.keep hbn; replace hP := hP.keep hbn; replace hO := hO.keep hbn; replace hb := bel_to (w := w) (by first | exact hb | exact hb.alloc hb.size _ | exact (hb.alloc hb.size _).alloc (Nat.le_trans hb.size (by simp)) _ | exact hb.setCell (by simp [hb.size]) _) hbn; clear hbn) | (go_at_call 102; refine Calls.mono (Ans.eqb (c_hasPart _ _ _ _ _ (hT.ints rfl hTr)) h2) ?_; rintro e w1 ⟨rfl, hbn⟩; replace hT := hT.keep hbn; replace hP := hP.keep hbn; replace hO := hO.keep hbn; replace hb := bel_to (w := w) (by first | exact hb | exact hb.alloc hb.size _ | exact (hb.alloc hb.size _).alloc (Nat.le_trans hb.size (by simp)) _ | exact hb.setCell (by simp [hb.size]) _) hbn; clear hbn) | (go_at_call 79; refine Calls.mono (Ans.eqb (HCL.out _ x (r : Int) hst.out hrN hx2 hb) h3) ?_; rintro e w1 ⟨rfl, hbn⟩; replace hT := hT.keep hbn; replace hP := hP.keep hbn; replace hO := hO.keep hbn; replace hb := bel_to (w := w) (by first | exact hb | exact hb.alloc hb.size _ | exact (hb.alloc hb.size _).alloc (Nat.le_trans hb.size (by simp)) _ | exact hb.setCell (by simp [hb.size]) _) hbn; clear hbn) | fail)
            go_roundw
            case rel => exact ⟨k + 1, by go_num, by omega, by rw [HTs.out, HM.out]; exact hT, by rw [HOs.out, HM.out, ← HOk.out]; exact hO, hP, ap_OT, ap_PO, ap_PT, hb⟩
            case measure => simp [intOf]; omega
        · have hkk : k = P.length := by omega
          have HE : Hid (colsF p (partsF N) (r + 1) = A ++ colF p (P.take k) r) := by
            show colsF p (partsF N) (r + 1) = A ++ colF p (P.take k) r
            rw [HPP.out, HC.out, hkk, List.take_length]
          clear hkk
          go_wp2
          go_roundw
          case rel => exact ⟨r + 1, by go_num, by omega, by rw [HE.out]; exact hO, hb⟩
          case measure => simp [intOf]; omega
    · have hrr : r = N := by omega
      have HE : Hid (colsF p (partsF N) r = colsF p (partsF N) N) := by show colsF p (partsF N) r = colsF p (partsF N) N; rw [hrr]
      clear hrr
      go_wp2
      go_ret
      exact ⟨_, rfl, by rw [← HE.out]; exact hO, hb⟩
theorem c_clQ (n : Int) (oa) (cap : Nat) (R : List (List Int)) (m q x r : Int) (X Y Z : Nat) (w : World) (hR : RowsAt w oa R)
    (a0 : w.cell? ⟨X, 0, none⟩ = some (.int .i64 n)) (a1 : w.cell? ⟨X, 1, none⟩ = some (.slice oa R.length cap)) (m0 : w.cell? ⟨Y, 0, none⟩ = some (.int .i64 m)) (q0 : w.cell? ⟨Z, 0, none⟩ = some (.int .i64 q)) :
    Ans Tryz.prog 79 #[.agg #[.int .i64 x, .int .i64 r], .pointer (some ⟨X, 0, none⟩), .pointer (some ⟨Y, 0, none⟩), .pointer (some ⟨Z, 0, none⟩)] w (.bool (appOk n R m q x r)) := by
  unfold Ans
  have hb := (Below.refl w.heap.size w).alloc (Nat.le_refl _) (.cells #[.int .i64 x, .int .i64 r] 38)
  have b0 := cell_al a0 (.cells #[.int .i64 x, .int .i64 r] 38)
  have b1 := cell_al a1 (.cells #[.int .i64 x, .int .i64 r] 38)
  have bm := cell_al m0 (.cells #[.int .i64 x, .int .i64 r] 38)
  have bq := cell_al q0 (.cells #[.int .i64 x, .int .i64 r] 38)
  have d0 := box_at w #[.int .i64 x, .int .i64 r] 38 0 _ rfl
  have d1 := box_at w #[.int .i64 x, .int .i64 r] 38 1 _ rfl
  have hx := fun (y : After (w.alloc (.cells #[.int .i64 x, .int .i64 r] 38))) => (hR.keep hb).keep y.bel
  have HV : Hid (appOk n R m q x r = decide (rrF n R m x r ≤ q)) := rfl
  obtain ⟨K, hK⟩ : ∃ K, K = rrF n R m x r := ⟨_, rfl⟩
  have HK : Hid (∀ w', RowsAt w' oa R → Ans Tryz.prog 80 #[.agg #[.int .i64 n, .slice oa R.length cap], .int .i64 m, .agg #[.int .i64 x, .int .i64 r]] w' (.int .i64 K)) := fun w' h => by rw [hK]; exact c_RowsToRemove n oa cap R m x r w' h
  rw [← hK] at HV
  clear a0 a1 m0 q0 hK
  go_enter Tryz.func79, Tryz.ntmps79
  go_wp2_with fail
  (refine wp_region_after (by kernel_rfl) (by kernel_rfl) ?_; have q_b0 := fun (x : After _) => cell_keep b0 x.bel; have q_b1 := fun (x : After _) => cell_keep b1 x.bel; have q_bm := fun (x : After _) => cell_keep bm x.bel; have q_bq := fun (x : After _) => cell_keep bq x.bel; have q_d0 := fun (x : After _) => cell_keep d0 x.bel; have q_d1 := fun (x : After _) => cell_keep d1 x.bel; (repeat (go_big_quiet_step ((first | (go_at_call 80; exact Ans.after (HK.out _ (hx _))))))); clear q_b0; clear q_b1; clear q_bm; clear q_bq; clear q_d0; clear q_d1; refine wpQuiet_nil ?_; rintro _ ⟨⟨w1, hbn⟩, rfl⟩; (try simp only [After.w]); replace b0 := cell_keep b0 hbn; replace b1 := cell_keep b1 hbn; replace bm := cell_keep bm hbn; replace bq := cell_keep bq hbn; replace d0 := cell_keep d0 hbn; replace d1 := cell_keep d1 hbn; replace hb := bel_to (w := w) (by first | exact hb | exact hb.alloc hb.size _ | exact (hb.alloc hb.size _).alloc (Nat.le_trans hb.size (by simp)) _ | exact hb.setCell (by simp [hb.size]) _) hbn; clear hbn)
  go_wp2
  go_ret
  exact ⟨ret_bool HV.out.symm, hb⟩
set_option maxHeartbeats 800000 in
theorem c_ApproximateDeps (n : Int) (oa) (cap : Nat) (R : List (List Int)) (m q : Int) (w : World) (hR : RowsAt w oa R) :
    Calls Tryz.prog 36 #[.agg #[.int .i64 n, .slice oa R.length cap], .int .i64 m, .int .i64 q] w fun e w' => ∃ v, e = .returned v ∧ OwnD w' w.heap.size v (apprF n R m q) ∧ Below w.heap.size w w' := by
  have hb := (bel2 w (.cells #[.int .i64 n, .slice oa R.length cap] 26) (.cells #[.int .i64 m] 3)).alloc (by simp; omega) (.cells #[.int .i64 q] 3)
  have k1 := (Below.refl ((w.alloc (.cells #[.int .i64 n, .slice oa R.length cap] 26)).alloc (.cells #[.int .i64 m] 3)).heap.size _).alloc (Nat.le_refl _) (.cells #[.int .i64 q] 3)
  have a0 := cell_keep (two_a w #[.int .i64 n, .slice oa R.length cap] 26 #[.int .i64 m] 3 0 _ rfl) k1
  have a1 := cell_keep (two_a w #[.int .i64 n, .slice oa R.length cap] 26 #[.int .i64 m] 3 1 _ rfl) k1
  have m0 := cell_keep (two_b w #[.int .i64 n, .slice oa R.length cap] 26 #[.int .i64 m] 3 0 _ rfl) k1
  have s0 := box_at ((w.alloc (.cells #[.int .i64 n, .slice oa R.length cap] 26)).alloc (.cells #[.int .i64 m] 3)) #[.int .i64 q] 3 0 _ rfl
  simp only [World.size_alloc] at s0
  clear k1
  cases h1 : isTabF n R
  · have HM : Hid (apprF n R m q = []) := by show apprF n R m q = []; unfold apprF; rw [h1]; rfl
    go_enter Tryz.func36, Tryz.ntmps36
    go_wp2_with (first | (go_at_call 60; refine Calls.mono (Ans.eqb (c_IsTable _ _ _ _ _ (hR.keep hb)) h1) ?_; rintro e w1 ⟨rfl, hbn⟩; replace a0 := cell_keep a0 hbn; replace a1 := cell_keep a1 hbn; replace m0 := cell_keep m0 hbn; replace s0 := cell_keep s0 hbn; replace hb := bel_to (w := w) (by first | exact hb | exact hb.alloc hb.size _ | exact (hb.alloc hb.size _).alloc (Nat.le_trans hb.size (by simp)) _ | exact hb.setCell (by simp [hb.size]) _) hbn; clear hbn))
    go_ret
    exact ⟨_, rfl, by rw [HM.out]; exact World.ownsRow_nil _ _ _ _, hb⟩
  cases h2 : modeF m
  · have HM : Hid (apprF n R m q = []) := by show apprF n R m q = []; unfold apprF; rw [h1, h2]; rfl
    go_enter Tryz.func36, Tryz.ntmps36
    go_wp2_with (first | (go_at_call 60; refine Calls.mono (Ans.eqb (c_IsTable _ _ _ _ _ (hR.keep hb)) h1) ?_; rintro e w1 ⟨rfl, hbn⟩; replace a0 := cell_keep a0 hbn; replace a1 := cell_keep a1 hbn; replace m0 := cell_keep m0 hbn; replace s0 := cell_keep s0 hbn; replace hb := bel_to (w := w) (by first | exact hb | exact hb.alloc hb.size _ | exact (hb.alloc hb.size _).alloc (Nat.le_trans hb.size (by simp)) _ | exact hb.setCell (by simp [hb.size]) _) hbn; clear hbn) | (go_at_call 61; refine Calls.mono (Ans.eqb (c_isMode _ _) h2) ?_; rintro e w1 ⟨rfl, hbn⟩; replace a0 := cell_keep a0 hbn; replace a1 := cell_keep a1 hbn; replace m0 := cell_keep m0 hbn; replace s0 := cell_keep s0 hbn; replace hb := bel_to (w := w) (by first | exact hb | exact hb.alloc hb.size _ | exact (hb.alloc hb.size _).alloc (Nat.le_trans hb.size (by simp)) _ | exact hb.setCell (by simp [hb.size]) _) hbn; clear hbn))
    go_ret
    exact ⟨_, rfl, by rw [HM.out]; exact World.ownsRow_nil _ _ _ _, hb⟩
  by_cases h3 : q < 0
  · have HM : Hid (apprF n R m q = []) := by show apprF n R m q = []; unfold apprF; rw [decide_eq_false (show ¬ (0 ≤ q) by omega)]; simp
    go_enter Tryz.func36, Tryz.ntmps36
    go_wp2_with (first | (go_at_call 60; refine Calls.mono (Ans.eqb (c_IsTable _ _ _ _ _ (hR.keep hb)) h1) ?_; rintro e w1 ⟨rfl, hbn⟩; replace a0 := cell_keep a0 hbn; replace a1 := cell_keep a1 hbn; replace m0 := cell_keep m0 hbn; replace s0 := cell_keep s0 hbn; replace hb := bel_to (w := w) (by first | exact hb | exact hb.alloc hb.size _ | exact (hb.alloc hb.size _).alloc (Nat.le_trans hb.size (by simp)) _ | exact hb.setCell (by simp [hb.size]) _) hbn; clear hbn) | (go_at_call 61; refine Calls.mono (Ans.eqb (c_isMode _ _) h2) ?_; rintro e w1 ⟨rfl, hbn⟩; replace a0 := cell_keep a0 hbn; replace a1 := cell_keep a1 hbn; replace m0 := cell_keep m0 hbn; replace s0 := cell_keep s0 hbn; replace hb := bel_to (w := w) (by first | exact hb | exact hb.alloc hb.size _ | exact (hb.alloc hb.size _).alloc (Nat.le_trans hb.size (by simp)) _ | exact hb.setCell (by simp [hb.size]) _) hbn; clear hbn))
    go_ret
    exact ⟨_, rfl, by rw [HM.out]; exact World.ownsRow_nil _ _ _ _, hb⟩
  obtain ⟨hn1, hn5, _, _⟩ := isTab_of h1
  obtain ⟨N, rfl⟩ := Int.eq_ofNat_of_zero_le (show 0 ≤ n by omega)
  have HM : Hid (apprF N R m q = colsF (appOk N R m q) (partsF N) N) := by show apprF N R m q = _; unfold apprF; rw [h1, h2, decide_eq_true (show 0 ≤ q by omega), Int.toNat_natCast]; rfl
  have hN5 : N ≤ 5 := by omega
  go_enter Tryz.func36, Tryz.ntmps36
  go_wp2_with (first | (go_at_call 60; refine Calls.mono (Ans.eqb (c_IsTable _ _ _ _ _ (hR.keep hb)) h1) ?_; rintro e w1 ⟨rfl, hbn⟩; replace a0 := cell_keep a0 hbn; replace a1 := cell_keep a1 hbn; replace m0 := cell_keep m0 hbn; replace s0 := cell_keep s0 hbn; replace hb := bel_to (w := w) (by first | exact hb | exact hb.alloc hb.size _ | exact (hb.alloc hb.size _).alloc (Nat.le_trans hb.size (by simp)) _ | exact hb.setCell (by simp [hb.size]) _) hbn; clear hbn) | (go_at_call 61; refine Calls.mono (Ans.eqb (c_isMode _ _) h2) ?_; rintro e w1 ⟨rfl, hbn⟩; replace a0 := cell_keep a0 hbn; replace a1 := cell_keep a1 hbn; replace m0 := cell_keep m0 hbn; replace s0 := cell_keep s0 hbn; replace hb := bel_to (w := w) (by first | exact hb | exact hb.alloc hb.size _ | exact (hb.alloc hb.size _).alloc (Nat.le_trans hb.size (by simp)) _ | exact hb.setCell (by simp [hb.size]) _) hbn; clear hbn))
  refine (c_minimalDeps_Q N hN5 _ _ _ (appOk N R m q) _ ?_).mono ?_
  · intro W x r hst hr hx2 hB
    exact c_clQ N oa cap R m q x r _ _ _ W ((hR.keep hb).keep hB) (cell_keep a0 hB) (cell_keep a1 hB) (cell_keep m0 hB) (cell_keep s0 hB)
  rintro e w2 ⟨v2, rfl, hO, hbn⟩
  replace hO := hO.based hb.size
  replace hb := bel_to hb hbn
  clear hbn
  go_wp2
  go_ret
  exact ⟨_, rfl, by rw [HM.out]; exact hO, hb⟩
end Go.Proofs.YtcenndlbhgfdfaaGreat
namespace Go.Proofs.YtcenndlbhgfdfaaGreat
open Go.RowKit
set_option linter.unusedVariables false
set_option maxRecDepth 100000

theorem some_succ {p : Int → Int → Bool} {r : Int} {P : List Int} {k : Nat} (h : k < P.length) : someF p (P.take (k + 1)) r = someF p (P.take k) r ++ (if !hasc (nth P k) r && p (nth P k) r then [nth P k] else []) := by
  unfold someF; exact filter_take_succ _ _ _ h
theorem some_len' (p : Int → Int → Bool) (P : List Int) (r : Int) : (someF p P r).length ≤ P.length := by unfold someF; exact List.length_filter_le _ _
def colL (P L : List Int) (r : Int) : List (Int × Int) := (P.filter (inB' L)).map fun x => (x, r)
theorem colL_len (P L : List Int) (r : Int) : (colL P L r).length ≤ P.length := by unfold colL; rw [List.length_map]; exact List.length_filter_le _ _
theorem colL_succ {P L : List Int} {r : Int} {k : Nat} (h : k < P.length) : colL (P.take (k + 1)) L r = colL (P.take k) L r ++ (if inB' L (nth P k) then [(nth P k, r)] else []) := by
  unfold colL
  rw [filter_take_succ _ _ _ h, List.map_append]
  congr 1
  split <;> simp
set_option maxHeartbeats 3200000 in
theorem c_specApproximateDeps (n : Int) (oa) (cap : Nat) (R : List (List Int)) (m q : Int) (w : World) (hR : RowsAt w oa R) :
    Calls Tryz.prog 39 #[.agg #[.int .i64 n, .slice oa R.length cap], .int .i64 m, .int .i64 q] w fun e w' => ∃ v, e = .returned v ∧ OwnD w' w.heap.size v (apprF n R m q) ∧ Below w.heap.size w w' := by
  obtain ⟨i0, hi, hz0, hz1, hz2⟩ := info_parts info_int
  obtain ⟨j0, hj, hy0, hy1, hy2⟩ := info_parts info_dep
  have hb := bel2 w (.cells #[.int .i64 n, .slice oa R.length cap] 26) (.cells #[] 38)
  have a0 := two_a w #[.int .i64 n, .slice oa R.length cap] 26 #[] 38 0 _ rfl
  have a1 := two_a w #[.int .i64 n, .slice oa R.length cap] 26 #[] 38 1 _ rfl
  have hO : OwnD ((w.alloc (.cells #[.int .i64 n, .slice oa R.length cap] 26)).alloc (.cells #[] 38)) (w.heap.size + 1) (.slice (some ⟨w.heap.size + 1, 0, none⟩) 0 0) [] := by
    have h := (OwnD.empty (w.alloc (.cells #[.int .i64 n, .slice oa R.length cap] 26)) _ (Nat.le_refl _))
    simpa using h
  cases hf : (isTabF n R && modeF m)
  · have HM : Hid (apprF n R m q = []) := by show apprF n R m q = []; unfold apprF; rw [hf]; rfl
    go_enter Tryz.func39, Tryz.ntmps39
    go_wp2_with (first | (go_at_call 51; refine Calls.mono (Ans.eqb (c_l4Fine _ _ _ _ _ _ (hR.keep hb)) hf) ?_; rintro e w1 ⟨rfl, hbn⟩; replace a0 := cell_keep a0 hbn; replace a1 := cell_keep a1 hbn; replace hO := hO.keep hbn; replace hb := bel_to (w := w) (by first | exact hb | exact hb.alloc hb.size _ | exact (hb.alloc hb.size _).alloc (Nat.le_trans hb.size (by simp)) _ | exact hb.setCell (by simp [hb.size]) _) hbn; clear hbn))
    go_ret
    exact ⟨_, rfl, by rw [HM.out]; exact hO.based (Nat.le_succ _), hb⟩
  by_cases h3 : q < 0
  · have HM : Hid (apprF n R m q = []) := by show apprF n R m q = []; unfold apprF; rw [decide_eq_false (show ¬ (0 ≤ q) by omega)]; simp
    go_enter Tryz.func39, Tryz.ntmps39
    go_wp2_with (first | (go_at_call 51; refine Calls.mono (Ans.eqb (c_l4Fine _ _ _ _ _ _ (hR.keep hb)) hf) ?_; rintro e w1 ⟨rfl, hbn⟩; replace a0 := cell_keep a0 hbn; replace a1 := cell_keep a1 hbn; replace hO := hO.keep hbn; replace hb := bel_to (w := w) (by first | exact hb | exact hb.alloc hb.size _ | exact (hb.alloc hb.size _).alloc (Nat.le_trans hb.size (by simp)) _ | exact hb.setCell (by simp [hb.size]) _) hbn; clear hbn))
    go_ret
    exact ⟨_, rfl, by rw [HM.out]; exact hO.based (Nat.le_succ _), hb⟩
  have ht : isTabF n R = true := by have := hf; simp only [Bool.and_eq_true] at this; exact this.1
  obtain ⟨hn1, hn5, _, _⟩ := isTab_of ht
  obtain ⟨N, rfl⟩ := Int.eq_ofNat_of_zero_le (show 0 ≤ n by omega)
  have HM : Hid (apprF N R m q = colsF (appOk N R m q) (partsF N) N) := by show apprF N R m q = _; unfold apprF; rw [hf, decide_eq_true (show 0 ≤ q by omega), Int.toNat_natCast]; rfl
  have hN5 : N ≤ 5 := by omega
  have hpl := partsF_len N
  have HPS : Hid (∀ x ∈ partsF N, St x) := fun x hx => by
    have h := (partsF_mem (n := N) (by omega) (by omega)).1 hx
    have h2 := (pow_wrap (n := (N : Int)) (by omega) (by omega)).2.1
    exact ⟨h.1, by omega⟩
  have HPQ : Hid (∀ x r, appOk N R m q x r = decide (rrF N R m x r ≤ q)) := fun x r => rfl
  have HLW : Hid (∀ r, colF (appOk N R m q) (partsF N) r = colL (partsF N) (minF (someF (appOk N R m q) (partsF N) r)) r) := fun r => colF_low hN5 _ r
  have HHR : Hid (∀ (w' : World) (x r : Int), RowsAt w' oa R → Ans Tryz.prog 37 #[.agg #[.int .i64 N, .slice oa R.length cap], .int .i64 m, .agg #[.int .i64 x, .int .i64 r]] w' (.int .i64 (rrF N R m x r))) := fun w' x r h => c_specRowsToRemove N oa cap R m x r w' h
  clear ht hn1 hn5
  go_enter Tryz.func39, Tryz.ntmps39
  go_wp2_with (first | (go_at_call 51; refine Calls.mono (Ans.eqb (c_l4Fine _ _ _ _ _ _ (hR.keep hb)) hf) ?_; rintro e w1 ⟨rfl, hbn⟩; replace a0 := cell_keep a0 hbn; replace a1 := cell_keep a1 hbn; replace hO := hO.keep hbn; replace hb := bel_to (w := w) (by first | exact hb | exact hb.alloc hb.size _ | exact (hb.alloc hb.size _).alloc (Nat.le_trans hb.size (by simp)) _ | exact hb.setCell (by simp [hb.size]) _) hbn; clear hbn))
  have old := hO
  refine (c_specPartsBySize (N : Int) _).mono ?_
  rintro e w2 ⟨v2, rfl, hP, hbn⟩
  have ap_PO := (apart_old old hP).symm
  replace hO := hO.keep hbn
  replace hP := hP.based (World.block_lt_of_cell? _ _ a1)
  replace a0 := cell_keep a0 hbn
  replace a1 := cell_keep a1 hbn
  replace hb := bel_to hb hbn
  clear old hbn
  have HGS : Hid (∀ k : Nat, colsF (appOk N R m q) (partsF N) (k + 1) = colsF (appOk N R m q) (partsF N) k ++ colF (appOk N R m q) (partsF N) k) := fun k => colsF_succ _ _ _
  have HCL : Hid (∀ k : Nat, (colsF (appOk N R m q) (partsF N) k).length ≤ 32 * k) := fun k => Nat.le_trans (colsF_len _ _ k) (Nat.mul_le_mul_right _ hpl)
  generalize appOk N R m q = p at *
  generalize partsF N = P at *
  obtain ⟨o1, c1, rfl⟩ := hP.shape
  have hPr : P.length ≤ Room := by unfold Room; omega
  go_wp2
  go_loopw [7, 9] (fun v i wr => ∃ r : Nat, i = .int .i64 r ∧ r ≤ N ∧ OwnD wr (w.heap.size + 1) v (colsF p P r) ∧ OwnI wr (w.heap.size + 1) (.slice o1 P.length c1) P ∧ Apart (.slice o1 P.length c1) v ∧ wr.cell? ⟨w.heap.size, 0, none⟩ = some (.int .i64 N) ∧ wr.cell? ⟨w.heap.size, 1, none⟩ = some (.slice oa R.length cap) ∧ Below w.heap.size w wr) (fun _ i _ => N - (intOf i).toNat)
  case atStart => exact ⟨0, rfl, Nat.zero_le _, by simpa [colsF] using hO, hP, ap_PO, a0, a1, hb⟩
  case round =>
    clear hO hP ap_PO a0 a1 hb
    obtain ⟨r, rfl, hr, hO, hP, ap_PO, a0, a1, hb⟩ := hrel
    have hcl := HCL.out r
    by_cases hrt : r < N
    · have HC : Hid (colsF p P (r + 1) = colsF p P r ++ colL P (minF (someF p P r)) r) := by show colsF p P (r + 1) = _; rw [HGS.out r, HLW.out r]
      have hCo : Hid (Co (r : Int)) := ⟨by omega, by omega⟩
      generalize colsF p P r = A at *
      obtain ⟨oO, cO, rfl⟩ := hO.shape
      have hS0 := OwnI.empty wr wr.heap.size (Nat.le_refl _)
      have ap_OS := apart_old hO hS0
      have ap_PS := apart_old hP hS0
      have hbe := World.block_lt_of_cell? _ _ a1
      have hba := (Below.refl wr.heap.size wr).alloc (Nat.le_refl _) (.cells #[] 3)
      have hS := hS0.based (show w.heap.size + 1 ≤ _ from hbe)
      replace hO := OwnD.keep hO hba
      replace hP := OwnI.keep hP hba
      have g0 := cell_keep a0 hba
      have g1 := cell_keep a1 hba
      replace hb := bel_to hb hba
      clear hS0 hbe hba
      go_wp2
      go_loopw [10, 11] (fun v i wr => ∃ k : Nat, i = .int .i64 k ∧ k ≤ P.length ∧ OwnI wr (w.heap.size + 1) v (someF p (P.take k) r) ∧ OwnD wr (w.heap.size + 1) (.slice oO A.length cO) A ∧ OwnI wr (w.heap.size + 1) (.slice o1 P.length c1) P ∧ Apart (.slice o1 P.length c1) (.slice oO A.length cO) ∧ Apart (.slice o1 P.length c1) v ∧ Apart (.slice oO A.length cO) v ∧ wr.cell? ⟨w.heap.size, 0, none⟩ = some (.int .i64 N) ∧ wr.cell? ⟨w.heap.size, 1, none⟩ = some (.slice oa R.length cap) ∧ Below w.heap.size w wr) (fun _ i _ => P.length - (intOf i).toNat)
      case atStart => exact ⟨0, rfl, Nat.zero_le _, by simpa [someF] using hS, hO, hP, ap_PO, ap_PS, ap_OS, g0, g1, hb⟩
      case round =>
        clear hS hO hP ap_PO ap_PS ap_OS a0 a1 g0 g1 hb
        obtain ⟨k, rfl, hk, hS, hO, hP, ap_PO, ap_PS, ap_OS, a0, a1, hb⟩ := hrel
        have hsl : (someF p (P.take k) r).length ≤ 32 := by
          have h := some_len' p (P.take k) r
          rw [List.length_take] at h
          omega
        by_cases hlk : k < P.length
        · obtain ⟨b2, off2, rfl, hbs2, hca⟩ := (hP.ints rfl hPr).at_ (by omega)
          have hc2 := hca k hlk
          have HSS : Hid (someF p (P.take (k + 1)) r = someF p (P.take k) r ++ (if !hasc (nth P k) r && p (nth P k) r then [nth P k] else [])) := some_succ hlk
          have hst : Hid (St (nth P k)) := HPS.out _ (List.mem_iff_getElem?.2 ⟨k, nth_eq hlk⟩)
          have HPK : Hid (p (nth P k) r = decide (rrF N R m (nth P k) r ≤ q)) := HPQ.out _ _
          clear hca
          generalize nth P k = x at *
          generalize someF p (P.take k) r = F at *
          obtain ⟨K, hK⟩ : ∃ K, K = rrF N R m x r := ⟨_, rfl⟩
          have HK : Hid (∀ w', RowsAt w' oa R → Ans Tryz.prog 37 #[.agg #[.int .i64 N, .slice oa R.length cap], .int .i64 m, .agg #[.int .i64 x, .int .i64 r]] w' (.int .i64 K)) := fun w' h => by rw [hK]; exact HHR.out w' x r h
          rw [← hK] at HPK
          have hx := fun (y : After wr) => (hR.keep hb).keep y.bel
          clear hK
          cases h1 : hasc x r
          · have h1' : (bits BinOp.and IntKind.i64 (x / 2 ^ (r : Int).toNat) 1 == 0) = true := (hasn_eq hst.out hCo.out).trans (by rw [h1]; rfl)
            rw [Int.toNat_natCast] at h1'
            by_cases h2 : K ≤ q
            · have HV : Hid ((!hasc x r && p x r) = true) := by show (!hasc x r && p x r) = true; rw [h1, HPK.out, decide_eq_true h2]; rfl
              go_wp2_with fail
              (refine wp_region_after (by kernel_rfl) (by kernel_rfl) ?_; have q_a0 := fun (x : After _) => cell_keep a0 x.bel; have q_a1 := fun (x : After _) => cell_keep a1 x.bel; have q_hc2 := fun (x : After _) => cell_keep hc2 x.bel; (repeat (go_big_quiet_step ((first | (go_at_call 37; exact Ans.after (HK.out _ (hx _))))))); clear q_a0; clear q_a1; clear q_hc2; refine wpQuiet_nil ?_; rintro _ ⟨⟨w1, hbn⟩, rfl⟩; (try simp only [After.w]); replace a0 := cell_keep a0 hbn; replace a1 := cell_keep a1 hbn; replace hc2 := cell_keep hc2 hbn; replace hS := hS.keep hbn; replace hO := hO.keep hbn; replace hP := hP.keep hbn; replace hb := bel_to (w := w) (by first | exact hb | exact hb.alloc hb.size _ | exact (hb.alloc hb.size _).alloc (Nat.le_trans hb.size (by simp)) _ | exact hb.setCell (by simp [hb.size]) _) hbn; clear hbn)
              go_wp2_with (first | (at_builtin; refine wpList_append_fresh rfl _ _ 50 rfl (w.heap.size + 1) 3 i0 (.int .i64 0) 1 8 Tryz.underlying50 hi hz0 hz1 hz2 rfl (by decide) _ _ _ rfl (World.ownsRow.alloc hS _) _ 1 1 [.int .i64 x] rfl rfl (by intro j u hj; match j, hj with | 0, hj => simp at hj; subst hj; simp [Addr.add]) (by intro u hu; simp at hu; subst hu; rfl) (by unfold maxLen; omega) (by omega) (by have := World.block_lt_of_cell? _ _ a1; simp at this; simp; omega) ?_; intro v' w4 hown hgrow hfr; replace hb := (hb.alloc hb.size _).grown hgrow (by have := hb.size; simp; omega) (fun g hg => Nat.le_trans (Nat.le_succ _) (World.ownsRow.lt hS g hg).1); replace a0 := cell_gr (cell_al a0 _) (World.ownsRow.alloc hS _) (by omega) hgrow; replace a1 := cell_gr (cell_al a1 _) (World.ownsRow.alloc hS _) (by omega) hgrow; obtain ⟨hP, ap_PS⟩ := OwnI.past hP hgrow ap_PS hfr; obtain ⟨hO, ap_OS⟩ := OwnD.past hO hgrow ap_OS hfr; replace hS := OwnI.snoc hown; clear hown hgrow hfr) | fail)
              go_roundw
              case rel => exact ⟨k + 1, by go_num, by omega, by rw [HSS.out, HV.out]; exact hS, hO, hP, ap_PO, ap_PS, ap_OS, a0, a1, hb⟩
              case measure => simp [intOf]; omega
            · have HV : Hid ((!hasc x r && p x r) = false) := by show (!hasc x r && p x r) = false; rw [HPK.out, decide_eq_false h2]; simp
              go_wp2_with fail
              (refine wp_region_after (by kernel_rfl) (by kernel_rfl) ?_; have q_a0 := fun (x : After _) => cell_keep a0 x.bel; have q_a1 := fun (x : After _) => cell_keep a1 x.bel; have q_hc2 := fun (x : After _) => cell_keep hc2 x.bel; (repeat (go_big_quiet_step ((first | (go_at_call 37; exact Ans.after (HK.out _ (hx _))))))); clear q_a0; clear q_a1; clear q_hc2; refine wpQuiet_nil ?_; rintro _ ⟨⟨w1, hbn⟩, rfl⟩; (try simp only [After.w]); replace a0 := cell_keep a0 hbn; replace a1 := cell_keep a1 hbn; replace hc2 := cell_keep hc2 hbn; replace hS := hS.keep hbn; replace hO := hO.keep hbn; replace hP := hP.keep hbn; replace hb := bel_to (w := w) (by first | exact hb | exact hb.alloc hb.size _ | exact (hb.alloc hb.size _).alloc (Nat.le_trans hb.size (by simp)) _ | exact hb.setCell (by simp [hb.size]) _) hbn; clear hbn)
              go_wp2
              go_roundw
              case rel => exact ⟨k + 1, by go_num, by omega, by rw [HSS.out, HV.out]; simpa using hS, hO, hP, ap_PO, ap_PS, ap_OS, a0, a1, hb⟩
              case measure => simp [intOf]; omega
          · have h1' : (bits BinOp.and IntKind.i64 (x / 2 ^ (r : Int).toNat) 1 == 0) = false := (hasn_eq hst.out hCo.out).trans (by rw [h1]; rfl)
            rw [Int.toNat_natCast] at h1'
            have HV : Hid ((!hasc x r && p x r) = false) := by show (!hasc x r && p x r) = false; rw [h1]; rfl
            go_wp2_with fail
            (refine wp_region_after (by kernel_rfl) (by kernel_rfl) ?_; have q_a0 := fun (x : After _) => cell_keep a0 x.bel; have q_a1 := fun (x : After _) => cell_keep a1 x.bel; have q_hc2 := fun (x : After _) => cell_keep hc2 x.bel; (repeat (go_big_quiet_step (fail))); clear q_a0; clear q_a1; clear q_hc2; refine wpQuiet_nil ?_; rintro _ ⟨⟨w1, hbn⟩, rfl⟩; (try simp only [After.w]); replace a0 := cell_keep a0 hbn; replace a1 := cell_keep a1 hbn; replace hc2 := cell_keep hc2 hbn; replace hS := hS.keep hbn; replace hO := hO.keep hbn; replace hP := hP.keep hbn; replace hb := bel_to (w := w) (by first | exact hb | exact hb.alloc hb.size _ | exact (hb.alloc hb.size _).alloc (Nat.le_trans hb.size (by simp)) _ | exact hb.setCell (by simp [hb.size]) _) hbn; clear hbn)
            go_wp2
            go_roundw
            case rel => exact ⟨k + 1, by go_num, by omega, by rw [HSS.out, HV.out]; simpa using hS, hO, hP, ap_PO, ap_PS, ap_OS, a0, a1, hb⟩
            case measure => simp [intOf]; omega
        · have hkk : k = P.length := by omega
          have HE : Hid (someF p (P.take k) r = someF p P r) := by show someF p (P.take k) r = someF p P r; rw [hkk, List.take_length]
          clear hkk
          rw [HE.out] at hS hsl
          generalize someF p P r = F at *
          obtain ⟨oF, cF, rfl⟩ := hS.shape
          have oldO := hO
          have oldP := hP
          go_wp2_with fail
          refine (c_specMinimalSets _ _ _ _ (hS.ints rfl (by unfold Room; omega))).mono ?_
          rintro e w3 ⟨v3, rfl, hL, hbn⟩
          have ap_OL := apart_old oldO hL
          have ap_PL := apart_old oldP hL
          replace hO := OwnD.keep hO hbn
          replace hP := OwnI.keep hP hbn
          replace hL := hL.based (World.block_lt_of_cell? _ _ a1)
          replace a0 := cell_keep a0 hbn
          replace a1 := cell_keep a1 hbn
          replace hb := bel_to hb hbn
          have hLl := minF_len F
          clear oldO oldP hbn hS
          generalize minF F = L at *
          obtain ⟨oL, cL, rfl⟩ := hL.shape
          have hLr : L.length ≤ Room := by unfold Room; omega
          go_wp2
          go_loopw [7, 13] (fun v i wr => ∃ k : Nat, i = .int .i64 k ∧ k ≤ P.length ∧ OwnD wr (w.heap.size + 1) v (A ++ colL (P.take k) L r) ∧ OwnI wr (w.heap.size + 1) (.slice oL L.length cL) L ∧ OwnI wr (w.heap.size + 1) (.slice o1 P.length c1) P ∧ Apart (.slice o1 P.length c1) v ∧ Apart (.slice oL L.length cL) v ∧ wr.cell? ⟨w.heap.size, 0, none⟩ = some (.int .i64 N) ∧ wr.cell? ⟨w.heap.size, 1, none⟩ = some (.slice oa R.length cap) ∧ Below w.heap.size w wr) (fun _ i _ => P.length - (intOf i).toNat)
          case atStart => exact ⟨0, rfl, Nat.zero_le _, by simpa [colL] using hO, hL, hP, ap_PO, ap_OL.symm, a0, a1, hb⟩
          case round =>
            clear hO hP hL ap_PO ap_PS ap_OS ap_OL ap_PL a0 a1 hb
            obtain ⟨k, rfl, hk, hO, hL, hP, ap_PO, ap_LO, a0, a1, hb⟩ := hrel
            by_cases hlk : k < P.length
            · obtain ⟨b2, off2, rfl, hbs2, hca⟩ := (hP.ints rfl hPr).at_ (by omega)
              have hc2 := hca k hlk
              have hOl : (A ++ colL (P.take k) L r).length ≤ 300 := by
                have h := colL_len (P.take k) L r
                rw [List.length_take] at h
                rw [List.length_append]
                omega
              have HOs : Hid (A ++ colL (P.take (k + 1)) L r = (A ++ colL (P.take k) L r) ++ (if inB' L (nth P k) then [(nth P k, (r : Int))] else [])) := by
                show A ++ colL (P.take (k + 1)) L r = _
                rw [colL_succ hlk, List.append_assoc]
              clear hca
              generalize nth P k = x at *
              generalize A ++ colL (P.take k) L r = C at *
              cases h1 : inB' L x
              · go_wp2_with (first | (go_at_call 85; refine Calls.mono (Ans.eqb (c_l2Has _ _ _ _ _ (hL.ints rfl hLr)) h1) ?_; rintro e w1 ⟨rfl, hbn⟩; replace a0 := cell_keep a0 hbn; replace a1 := cell_keep a1 hbn; replace hc2 := cell_keep hc2 hbn; replace hO := hO.keep hbn; replace hP := hP.keep hbn; replace hL := hL.keep hbn; replace hb := bel_to (w := w) (by first | exact hb | exact hb.alloc hb.size _ | exact (hb.alloc hb.size _).alloc (Nat.le_trans hb.size (by simp)) _ | exact hb.setCell (by simp [hb.size]) _) hbn; clear hbn) | fail)
                go_roundw
                case rel => exact ⟨k + 1, by go_num, by omega, by rw [HOs.out, h1]; simpa using hO, hL, hP, ap_PO, ap_LO, a0, a1, hb⟩
                case measure => simp [intOf]; omega
              · go_wp2_with (first | (go_at_call 85; refine Calls.mono (Ans.eqb (c_l2Has _ _ _ _ _ (hL.ints rfl hLr)) h1) ?_; rintro e w1 ⟨rfl, hbn⟩; replace a0 := cell_keep a0 hbn; replace a1 := cell_keep a1 hbn; replace hc2 := cell_keep hc2 hbn; replace hO := hO.keep hbn; replace hP := hP.keep hbn; replace hL := hL.keep hbn; replace hb := bel_to (w := w) (by first | exact hb | exact hb.alloc hb.size _ | exact (hb.alloc hb.size _).alloc (Nat.le_trans hb.size (by simp)) _ | exact hb.setCell (by simp [hb.size]) _) hbn; clear hbn) | (at_builtin; refine wpList_append_fresh rfl _ _ 27 rfl (w.heap.size + 1) 38 j0 (.agg #[.int .i64 0, .int .i64 0]) 2 16 Tryz.underlying27 hj hy0 hy1 hy2 rfl (by decide) _ _ _ rfl (World.ownsRow.alloc hO _) _ 1 1 [.int .i64 x, .int .i64 (r : Int)] rfl rfl (World.news_of_block (cs := #[.int .i64 x, .int .i64 (r : Int)]) (t := 38) (fr := (0, 0)) (heap_alloc_new _ _)) (by intro u hu; simp at hu; rcases hu with rfl | rfl <;> rfl) (by unfold maxLen; omega) (by omega) (by have := World.block_lt_of_cell? _ _ a1; simp at this; simp; omega) ?_; intro v' w4 hown hgrow hfr; replace hb := (hb.alloc hb.size _).grown hgrow (by have := hb.size; simp; omega) (fun g hg => Nat.le_trans (Nat.le_succ _) (World.ownsRow.lt hO g hg).1); replace a0 := cell_gr (cell_al a0 _) (World.ownsRow.alloc hO _) (by omega) hgrow; replace a1 := cell_gr (cell_al a1 _) (World.ownsRow.alloc hO _) (by omega) hgrow; obtain ⟨hP, ap_PO⟩ := OwnI.past hP hgrow ap_PO hfr; obtain ⟨hL, ap_LO⟩ := OwnI.past hL hgrow ap_LO hfr; replace hO := own_snocD hown; clear hown hgrow hfr) | fail)
                go_roundw
                case rel => exact ⟨k + 1, by go_num, by omega, by rw [HOs.out, h1]; exact hO, hL, hP, ap_PO, ap_LO, a0, a1, hb⟩
                case measure => simp [intOf]; omega
            · have hkk : k = P.length := by omega
              have HE2 : Hid (colsF p P (r + 1) = A ++ colL (P.take k) L r) := by show colsF p P (r + 1) = _; rw [HC.out, hkk, List.take_length]
              clear hkk
              go_wp2
              go_roundw
              case rel => exact ⟨r + 1, by go_num, by omega, by rw [HE2.out]; exact hO, hP, ap_PO, a0, a1, hb⟩
              case measure => simp [intOf]; omega
    · have hrr : r = N := by omega
      have HE : Hid (colsF p P r = apprF N R m q) := by show colsF p P r = _; rw [HM.out, hrr]
      clear hrr
      go_wp2
      go_ret
      exact ⟨_, rfl, by rw [← HE.out]; exact hO.based (Nat.le_succ _), hb⟩
end Go.Proofs.YtcenndlbhgfdfaaGreat
namespace Go.Proofs.YtcenndlbhgfdfaaGreat
open Go.RowKit
set_option linter.unusedVariables false
set_option maxRecDepth 100000

theorem c_big (oa) (m cap : Nat) (w : World) : Ans Tryz.prog 5 #[.slice oa m cap] w (.bool (decide ((1048576 : Int) < m))) := by
  unfold Ans
  go_enter Tryz.func5, Tryz.ntmps5
  go_wp2
  go_ret
  exact ⟨ret_bool (by simp), Below.refl _ _⟩
theorem c_lawSameInts (oa ob) (ca cb : Nat) (L : List Int) (w : World) (hA : IntsAt w oa L) (hB : IntsAt w ob L) :
    Ans Tryz.prog 28 #[.slice oa L.length ca, .slice ob L.length cb] w (.bool true) := by
  unfold Ans
  have hn : L.length ≤ 1073741824 := hA.len
  have hne : ((L.length : Int) != L.length) = false := by simp
  go_enter Tryz.func28, Tryz.ntmps28
  go_wp2
  go_loopw [5] (fun i wr => ∃ k : Nat, i = .int .i64 k ∧ k ≤ L.length ∧ Below w.heap.size w wr) (fun i _ => L.length - (intOf i).toNat)
  case atStart => exact ⟨0, rfl, Nat.zero_le _, Below.refl _ _⟩
  case round =>
    obtain ⟨k, rfl, hk, hb⟩ := hrel
    by_cases hlt : k < L.length
    · obtain ⟨b, off, rfl, hbs, hc⟩ := hA.at_ (by omega)
      obtain ⟨b', off', rfl, hbs', hc'⟩ := hB.at_ (by omega)
      have h1 := cell_keep (hc k hlt) hb
      have h2 := cell_keep (hc' k hlt) hb
      have hx : (nth L k != nth L k) = false := by simp
      clear hc hc'
      go_wp2_with fail
      (refine wp_region_after (by kernel_rfl) (by kernel_rfl) ?_; have q_h1 := fun (x : After _) => cell_keep h1 x.bel; have q_h2 := fun (x : After _) => cell_keep h2 x.bel; (repeat (go_big_quiet_step (fail))); clear q_h1; clear q_h2; refine wpQuiet_nil ?_; rintro _ ⟨⟨w1, hbn⟩, rfl⟩; (try simp only [After.w]); replace h1 := cell_keep h1 hbn; replace h2 := cell_keep h2 hbn; replace hb := bel_to (w := w) (by first | exact hb | exact hb.alloc hb.size _ | exact (hb.alloc hb.size _).alloc (Nat.le_trans hb.size (by simp)) _ | exact hb.setCell (by simp [hb.size]) _) hbn; clear hbn)
      go_wp2
      go_roundw
      case rel => exact ⟨k + 1, by go_num, by omega, hb⟩
      case measure => simp [intOf]; omega
    · have hkk : k = L.length := by omega
      have HK : Hid (k = L.length) := hkk
      clear hkk
      go_wp2
      go_ret
      exact ⟨rfl, hb⟩
end Go.Proofs.YtcenndlbhgfdfaaGreat
namespace Go.Proofs.YtcenndlbhgfdfaaGreat
open Go.RowKit
set_option linter.unusedVariables false
set_option maxRecDepth 100000

theorem bel_world {B : Nat} {w0 w : World} (h : Below B w0 w) : ∃ w', w' = w := ⟨w, rfl⟩
theorem any_take_succ (p : Int → Bool) (L : List Int) (k : Nat) (hk : k < L.length) : (L.take (k + 1)).any p = ((L.take k).any p || p (nth L k)) := by
  rw [List.take_add_one, nth_eq hk]; simp
theorem anyd_take_succ (p : Int × Int → Bool) (L : List (Int × Int)) (k : Nat) (hk : k < L.length) : (L.take (k + 1)).any p = ((L.take k).any p || p (nl L k, nr L k)) := by
  rw [List.take_add_one, dnth_eq hk]; simp
set_option maxHeartbeats 100000000 in
theorem w_FnCovers (w : World) {v0 : Value} (w0 : InBytes w v0) :
    Calls Tryz.prog 4 #[v0] w fun e w' => e = .returned (.bool true) ∧ Below w.heap.size w w' := by
  obtain ⟨oc, mc, capc, rfl, hmm, hB⟩ := w0
  have hb := Below.refl w.heap.size w
  by_cases hbig : (1048576 : Int) < mc
  · go_enter Tryz.func4, Tryz.ntmps4
    go_wp2_with fail
    refine Calls.mono (Ans.eqb (b' := true) (c_big _ _ _ _) (by simpa using hbig)) ?_
    rintro e w1 ⟨rfl, hbn⟩
    replace hb := bel_to hb hbn
    go_wp2
    go_ret
    exact ⟨rfl, hb⟩
  have hmc : mc ≤ 1048576 := by omega
  go_enter Tryz.func4, Tryz.ntmps4
  go_wp2_with fail
  refine Calls.mono (Ans.eqb (b' := false) (c_big _ _ _ _) (by simp only [decide_eq_false_iff_not]; omega)) ?_
  rintro e w1 ⟨rfl, hbn⟩
  replace hB := hB.keep hbn
  replace hb := bel_to hb hbn
  clear hbn
  clear hbig
  go_wp2_with fail
  have H := c_DrawViolatedBorder oc mc capc hmc _ hB
  unfold DrawsTabX at H
  refine H.mono ?_
  clear H
  rintro e w2 ⟨n, m, o, c, xs, R, r, rfl, hO, ⟨hOl, hOlen⟩, hbn⟩
  replace hB := hB.keep hbn
  replace hb := bel_to hb hbn
  clear hbn
  have hOR : R.length ≤ Room := by unfold Room; omega
  have HOr : Hid (∀ j, j < R.length → (row R j).length ≤ Room) := fun j hj => Nat.le_trans (hOlen j hj) (by unfold Room; omega)
  clear hOlen
  have k3 := Blk.new w2 #[.int .i64 n, .slice o R.length c] 26
  have hbn := (Below.refl w2.heap.size w2).alloc (Nat.le_refl _) (.cells #[.int .i64 n, .slice o R.length c] 26)
  replace hB := hB.keep hbn
  replace hO := hO.keep hbn
  replace hb := bel_to hb hbn
  clear hbn
  have n0 := k3.cell 0 (.int .i64 n) rfl
  have n1 := k3.cell 1 (.slice o R.length c) rfl
  go_wp2_with fail
  refine (c_ViolatedBorder n o c R m r _ (hO.read hOR HOr.out)).mono ?_
  rintro e w3 ⟨v5, rfl, hL, hbn⟩
  replace hB := hB.keep hbn
  replace hO := hO.keep hbn
  replace k3 := k3.keep hbn
  replace hb := bel_to hb hbn
  clear hbn
  clear n0 n1
  have n0 := k3.cell 0 (.int .i64 n) rfl
  have n1 := k3.cell 1 (.slice o R.length c) rfl
  obtain ⟨oL, cL, rfl⟩ := hL.shape
  have hBL := bord_len n R m r
  go_wp2_with fail
  refine (c_MinimalDeps n o c R m _ (hO.read hOR HOr.out)).mono ?_
  rintro e w4 ⟨v6, rfl, hM, hbn⟩
  replace hB := hB.keep hbn
  replace hO := hO.keep hbn
  replace k3 := k3.keep hbn
  replace hL := hL.keep hbn
  replace hb := bel_to hb hbn
  clear hbn
  clear n0 n1
  have n0 := k3.cell 0 (.int .i64 n) rfl
  have n1 := k3.cell 1 (.slice o R.length c) rfl
  obtain ⟨oM, cM, rfl⟩ := hM.shape
  have hQL := minDeps_len n R m
  have HMD : Hid (∀ j, j < (minDepsF n R m).length → isMinF n R m (nl (minDepsF n R m) j) (nr (minDepsF n R m) j) = true) := fun j hj => (minDeps_mem (nth_mem hj)).2.2.2.2.2
  have HIS : Hid (isTabF n R = true → modeF m = true → 0 ≤ r → r < n → ∀ x, 0 ≤ x → x < 2 ^ n.toNat → askF n R m x r = true ∧ (hasc x r = false → ((bordF n R m r).any fun b => bits BinOp.and .i64 b x == x) = !holdsF R m x r ∧ ((minDepsF n R m).any fun d => (d.2 == r) && (bits BinOp.and .i64 d.1 x == d.1)) = holdsF R m x r)) := fun h1 h2 h3 h4 x h5 h6 => ⟨ask_of h1 h2 h5 h6 h3 h4, fun h7 => ⟨inside_law h1 h2 h5 h6 h3 h4 h7, covered_law h1 h2 h5 h6 h3 h4 h7⟩⟩
  generalize hbb : bordF n R m r = Bd at *
  have HBD : Hid (bordF n R m r = Bd) := hbb
  clear hbb
  generalize hqq : minDepsF n R m = Q at *
  have HQD : Hid (minDepsF n R m = Q) := hqq
  clear hqq
  have hB9 : Bd.length ≤ 1073741824 := hBL
  have hQ9 : Q.length ≤ 1073741824 := hQL
  go_wp2_with fail
  refine (c_specViolatedBorder n o c R m r _ (hO.read hOR HOr.out)).mono ?_
  rintro e w5 ⟨v7, rfl, hY, hbn⟩
  rw [HBD.out] at hY
  obtain ⟨oY, cY, rfl⟩ := hY.shape
  replace hB := hB.keep hbn
  replace hO := hO.keep hbn
  replace k3 := k3.keep hbn
  replace hL := hL.keep hbn
  replace hM := hM.keep hbn
  replace hb := bel_to hb hbn
  clear hbn
  clear n0 n1
  have n0 := k3.cell 0 (.int .i64 n) rfl
  have n1 := k3.cell 1 (.slice o R.length c) rfl
  go_wp2_with fail
  refine Calls.mono (c_lawSameInts oL oY cL cY Bd _ (hL.ints rfl hBL) (hY.ints rfl hBL)) ?_
  rintro e w6 ⟨rfl, hbn⟩
  clear hY
  replace hB := hB.keep hbn
  replace hO := hO.keep hbn
  replace k3 := k3.keep hbn
  replace hL := hL.keep hbn
  replace hM := hM.keep hbn
  replace hb := bel_to hb hbn
  clear hbn
  clear n0 n1
  have n0 := k3.cell 0 (.int .i64 n) rfl
  have n1 := k3.cell 1 (.slice o R.length c) rfl
  go_wp2_with fail
  refine (c_specMinimalDeps n o c R m _ (hO.read hOR HOr.out)).mono ?_
  rintro e w7 ⟨v8, rfl, hY, hbn⟩
  rw [HQD.out] at hY
  obtain ⟨oY, cY, rfl⟩ := hY.shape
  replace hB := hB.keep hbn
  replace hO := hO.keep hbn
  replace k3 := k3.keep hbn
  replace hL := hL.keep hbn
  replace hM := hM.keep hbn
  replace hb := bel_to hb hbn
  clear hbn
  clear n0 n1
  go_wp2_with fail
  refine Calls.mono (Ans.eqb (b' := true) (c_specSameDeps oM oY cM cY Q Q _ (hM.deps rfl hQL) (hY.deps rfl hQL)) (by simp)) ?_
  rintro e w8 ⟨rfl, hbn⟩
  clear hY
  replace hB := hB.keep hbn
  replace hO := hO.keep hbn
  replace k3 := k3.keep hbn
  replace hL := hL.keep hbn
  replace hM := hM.keep hbn
  replace hb := bel_to hb hbn
  clear hbn
  go_wp2_with fail
  go_loopw [8] (fun v wr => ∃ k : Nat, v = .int .i64 k ∧ k ≤ Q.length ∧ Below w8.heap.size w8 wr) (fun v _ => Q.length - (intOf v).toNat)
  case atStart => exact ⟨0, rfl, Nat.zero_le _, Below.refl _ _⟩
  case round =>
    obtain ⟨k, rfl, hk, hbn⟩ := hrel
    have hbo := hbn
    replace hB := hB.keep hbn
    replace hO := hO.keep hbn
    replace k3 := k3.keep hbn
    replace hL := hL.keep hbn
    replace hM := hM.keep hbn
    replace hb := bel_to hb hbn
    clear hbn
    obtain ⟨w9, hwq⟩ := bel_world hb
    subst hwq
    by_cases hlt : k < Q.length
    · obtain ⟨b, off, e', hbs, hcell⟩ := (hM.deps rfl hQL).at_ (by omega)
      subst e'
      have hc1 := (hcell k hlt).1
      have hc2 := (hcell k hlt).2
      clear hcell hbs
      have HMK := (show Hid _ from HMD.out k hlt)
      have hd := hO.read hOR HOr.out
      have n0 := k3.cell 0 (.int .i64 n) rfl
      have n1 := k3.cell 1 (.slice o R.length c) rfl
      generalize nl Q k = x at *
      generalize nr Q k = y at *
      go_wp2_with fail
      (refine wp_region_after (by kernel_rfl) (by kernel_rfl) ?_; have q_hc1 := fun (x : After _) => cell_keep hc1 x.bel; have q_hc2 := fun (x : After _) => cell_keep hc2 x.bel; have q_n0 := fun (x : After _) => cell_keep n0 x.bel; have q_n1 := fun (x : After _) => cell_keep n1 x.bel; (repeat (go_big_quiet_step ((go_at_call 31; exact Ans.after (Ans.eqb (c_IsMinimalDep n o c R m x y _ (hd.keep (After.bel _))) HMK.out))))); clear q_hc1; clear q_hc2; clear q_n0; clear q_n1; refine wpQuiet_nil ?_; rintro _ ⟨⟨w1, hbn⟩, rfl⟩; (try simp only [After.w]); replace hc1 := cell_keep hc1 hbn; replace hc2 := cell_keep hc2 hbn; replace n0 := cell_keep n0 hbn; replace n1 := cell_keep n1 hbn; replace hB := hB.keep hbn; replace hO := hO.keep hbn; replace k3 := k3.keep hbn; replace hL := hL.keep hbn; replace hM := hM.keep hbn; replace hbo := bel_to hbo hbn; replace hb := bel_to (w := w) (by first | exact hb | exact hb.alloc hb.size _ | exact (hb.alloc hb.size _).alloc (Nat.le_trans hb.size (by simp)) _ | exact hb.setCell (by simp [hb.size]) _) hbn; clear hbn)
      go_wp2
      go_roundw
      case rel => exact ⟨k + 1, by go_num, by omega, hbo⟩
      case measure => simp [intOf]; omega
    · clear hbo
      go_wp2_with fail
      go_loopw [9] (fun v wr => ∃ k : Nat, v = .int .i64 k ∧ k ≤ 32 ∧ Below w9.heap.size w9 wr) (fun v _ => 32 - (intOf v).toNat)
      case atStart => exact ⟨0, rfl, Nat.zero_le _, Below.refl _ _⟩
      case round =>
        obtain ⟨x, rfl, hx32, hbn⟩ := hrel
        have hbo := hbn
        replace hB := hB.keep hbn
        replace hO := hO.keep hbn
        replace k3 := k3.keep hbn
        replace hL := hL.keep hbn
        replace hM := hM.keep hbn
        replace hb := bel_to hb hbn
        clear hbn
        obtain ⟨w10, hwq⟩ := bel_world hb
        subst hwq
        obtain ⟨g, HG⟩ : ∃ g, Hid ((((isTabF n R && modeF m) && (decide (0 ≤ r) && decide (r < n))) && decide ((x : Int) < 2 ^ n.toNat)) = g) := ⟨_, rfl⟩
        go_upto_region 14 with fail
        have hd := hO.read hOR HOr.out
        go_cut [92] from 66 to 92 (fun v wx => v = .bool g ∧ Below w10.heap.size w10 wx)
        case first =>
          have hbw := Below.refl w10.heap.size w10
          have n0 := k3.cell 0 (.int .i64 n) rfl
          have n1 := k3.cell 1 (.slice o R.length c) rfl
          cases ht : isTabF n R
          · obtain rfl : g = false := by rw [← HG.out]; rw [ht]; rfl
            go_wp2_with (first | (go_at_call 32; refine Calls.mono (Ans.eqb (c_specIsTable n o c R _ (hd.keep hbw)) ht) ?_; rintro e wz ⟨rfl, hbn⟩; replace n0 := cell_keep n0 hbn; replace n1 := cell_keep n1 hbn; replace hbw := bel_to hbw hbn; clear hbn) | fail)
            all_goals
              go_meet
              exact ⟨by first | rfl | simp | (congr 1; simp; omega), hbw⟩
          · obtain ⟨hn1, hn5, _, _⟩ := isTab_of ht
            have hpw := pow_wrap (n := n) (by omega) hn5
            have hp1 := hpw.1
            have hp2 := hpw.2.1
            have hp3 := hpw.2.2
            clear hpw
            have hn64 : 0 ≤ n ∧ n < 64 := ⟨by omega, by omega⟩
            by_cases hm0 : 0 ≤ m
            · by_cases hm1 : m ≤ 1
              · have hmm2 : modeF m = true := by unfold modeF; simp; omega
                by_cases hr0 : 0 ≤ r
                · by_cases hrn : r < n
                  · obtain rfl : g = decide ((x : Int) < 2 ^ n.toNat) := by rw [← HG.out, ht, hmm2, decide_eq_true hr0, decide_eq_true hrn]; rfl
                    go_wp2_with (first | (go_at_call 32; refine Calls.mono (Ans.eqb (c_specIsTable n o c R _ (hd.keep hbw)) ht) ?_; rintro e wz ⟨rfl, hbn⟩; replace n0 := cell_keep n0 hbn; replace n1 := cell_keep n1 hbn; replace hbw := bel_to hbw hbn; clear hbn) | fail)
                    all_goals
                      go_meet
                      exact ⟨by first | rfl | simp | (congr 1; simp; omega), hbw⟩
                  · obtain rfl : g = false := by rw [← HG.out]; rw [decide_eq_false hrn]; simp
                    go_wp2_with (first | (go_at_call 32; refine Calls.mono (Ans.eqb (c_specIsTable n o c R _ (hd.keep hbw)) ht) ?_; rintro e wz ⟨rfl, hbn⟩; replace n0 := cell_keep n0 hbn; replace n1 := cell_keep n1 hbn; replace hbw := bel_to hbw hbn; clear hbn) | fail)
                    all_goals
                      go_meet
                      exact ⟨by first | rfl | simp | (congr 1; simp; omega), hbw⟩
                · obtain rfl : g = false := by rw [← HG.out]; rw [decide_eq_false hr0]; simp
                  go_wp2_with (first | (go_at_call 32; refine Calls.mono (Ans.eqb (c_specIsTable n o c R _ (hd.keep hbw)) ht) ?_; rintro e wz ⟨rfl, hbn⟩; replace n0 := cell_keep n0 hbn; replace n1 := cell_keep n1 hbn; replace hbw := bel_to hbw hbn; clear hbn) | fail)
                  all_goals
                    go_meet
                    exact ⟨by first | rfl | simp | (congr 1; simp; omega), hbw⟩
              · obtain rfl : g = false := by rw [← HG.out]; rw [show modeF m = false by unfold modeF; simp; omega]; simp
                go_wp2_with (first | (go_at_call 32; refine Calls.mono (Ans.eqb (c_specIsTable n o c R _ (hd.keep hbw)) ht) ?_; rintro e wz ⟨rfl, hbn⟩; replace n0 := cell_keep n0 hbn; replace n1 := cell_keep n1 hbn; replace hbw := bel_to hbw hbn; clear hbn) | fail)
                all_goals
                  go_meet
                  exact ⟨by first | rfl | simp | (congr 1; simp; omega), hbw⟩
            · obtain rfl : g = false := by rw [← HG.out]; rw [show modeF m = false by unfold modeF; simp; omega]; simp
              go_wp2_with (first | (go_at_call 32; refine Calls.mono (Ans.eqb (c_specIsTable n o c R _ (hd.keep hbw)) ht) ?_; rintro e wz ⟨rfl, hbn⟩; replace n0 := cell_keep n0 hbn; replace n1 := cell_keep n1 hbn; replace hbw := bel_to hbw hbn; clear hbn) | fail)
              all_goals
                go_meet
                exact ⟨by first | rfl | simp | (congr 1; simp; omega), hbw⟩
        case rest =>
          obtain ⟨rfl, hbn⟩ := hcut
          clear hd
          replace hB := hB.keep hbn
          replace hO := hO.keep hbn
          replace k3 := k3.keep hbn
          replace hL := hL.keep hbn
          replace hM := hM.keep hbn
          replace hbo := bel_to hbo hbn
          replace hb := bel_to hb hbn
          clear hbn
          obtain ⟨w11, hwq⟩ := bel_world hb
          subst hwq
          cases g
          · clear hbo HG
            clear hO k3 hL hM HOr HIS HMD HBD HQD hB9 hQ9 hBL hQL hOR
            go_wp2_with fail
            have H := c_DrawIsMinimalDep oc mc capc hmc _ hB
            unfold DrawsTabP at H
            refine H.mono ?_
            clear H
            rintro e w20 ⟨n2, m2, o2, c2, xs2, R2, l2, r2, rfl, hP, ⟨hPl, hPlen⟩, hbn⟩
            replace hB := hB.keep hbn
            replace hb := bel_to hb hbn
            clear hbn
            have hPR : R2.length ≤ Room := by unfold Room; omega
            have HPr : Hid (∀ j, j < R2.length → (row R2 j).length ≤ Room) := fun j hj => Nat.le_trans (hPlen j hj) (by unfold Room; omega)
            clear hPlen
            have k12 := (Blk.new w20 #[.int .i64 n2, .slice o2 R2.length c2] 26).alloc (.cells #[.int .i64 l2, .int .i64 r2] 38)
            have k13 := Blk.new (w20.alloc (.cells #[.int .i64 n2, .slice o2 R2.length c2] 26)) #[.int .i64 l2, .int .i64 r2] 38
            simp only [World.size_alloc] at k13
            have hbn := bel2 w20 (.cells #[.int .i64 n2, .slice o2 R2.length c2] 26) (.cells #[.int .i64 l2, .int .i64 r2] 38)
            replace hB := hB.keep hbn
            replace hP := hP.keep hbn
            replace hb := bel_to hb hbn
            clear hbn
            go_wp2_with fail
            have H := c_DrawApproximateDeps oc mc capc hmc _ hB
            unfold DrawsTabX at H
            refine H.mono ?_
            clear H
            rintro e w21 ⟨n3, m3, o3, c3, xs3, R3, q, rfl, hA, ⟨hAl, hAlen⟩, hbn⟩
            replace hB := hB.keep hbn
            replace hP := hP.keep hbn
            replace k12 := k12.keep hbn
            replace k13 := k13.keep hbn
            replace hb := bel_to hb hbn
            clear hbn
            have hAR : R3.length ≤ Room := by unfold Room; omega
            have HAr : Hid (∀ j, j < R3.length → (row R3 j).length ≤ Room) := fun j hj => Nat.le_trans (hAlen j hj) (by unfold Room; omega)
            clear hAlen
            have k14 := Blk.new w21 #[.int .i64 n3, .slice o3 R3.length c3] 26
            have hbn := (Below.refl w21.heap.size w21).alloc (Nat.le_refl _) (.cells #[.int .i64 n3, .slice o3 R3.length c3] 26)
            replace hB := hB.keep hbn
            replace hP := hP.keep hbn
            replace k12 := k12.keep hbn
            replace k13 := k13.keep hbn
            replace hA := hA.keep hbn
            replace hb := bel_to hb hbn
            clear hbn
            clear hB
            have s0 := k14.cell 0 (.int .i64 n3) rfl
            have s1 := k14.cell 1 (.slice o3 R3.length c3) rfl
            go_wp2_with fail
            refine (c_ApproximateDeps n3 o3 c3 R3 m3 q _ (hA.read hAR HAr.out)).mono ?_
            rintro e w22 ⟨v9, rfl, hG, hbn⟩
            replace hP := hP.keep hbn
            replace k12 := k12.keep hbn
            replace k13 := k13.keep hbn
            replace hA := hA.keep hbn
            replace k14 := k14.keep hbn
            replace hb := bel_to hb hbn
            clear hbn
            clear s0 s1
            obtain ⟨oG, cG, rfl⟩ := hG.shape
            have hGL := appr_len n3 R3 m3 q
            have HRR : Hid (∀ j, j < (apprF n3 R3 m3 q).length → rrF n3 R3 m3 (nl (apprF n3 R3 m3 q) j) (nr (apprF n3 R3 m3 q) j) ≤ q) := fun j hj => appr_rows (nth_mem hj)
            have HZ : Hid (q = 0 → minDepsF n3 R3 m3 = apprF n3 R3 m3 q) := fun h => by subst h; exact (appr_zero n3 R3 m3).symm
            generalize hgg : apprF n3 R3 m3 q = G at *
            have HG2 : Hid (apprF n3 R3 m3 q = G) := hgg
            clear hgg
            have hG9 : G.length ≤ 1073741824 := hGL
            go_wp2_with fail
            go_loopw [21] (fun v wr => ∃ k : Nat, v = .int .i64 k ∧ k ≤ G.length ∧ Below w22.heap.size w22 wr) (fun v _ => G.length - (intOf v).toNat)
            case atStart => exact ⟨0, rfl, Nat.zero_le _, Below.refl _ _⟩
            case round =>
              obtain ⟨j, rfl, hj, hbn⟩ := hrel
              have hbo := hbn
              replace hP := hP.keep hbn
              replace k12 := k12.keep hbn
              replace k13 := k13.keep hbn
              replace hA := hA.keep hbn
              replace k14 := k14.keep hbn
              replace hG := hG.keep hbn
              replace hb := bel_to hb hbn
              clear hbn
              obtain ⟨w23, hwq⟩ := bel_world hb
              subst hwq
              by_cases hjl : j < G.length
              · obtain ⟨b, off, e', hbs, hcell⟩ := (hG.deps rfl hGL).at_ (by omega)
                subst e'
                have hc1 := (hcell j hjl).1
                have hc2 := (hcell j hjl).2
                clear hcell hbs
                have hzq := HRR.out j hjl
                have hd := hA.read hAR HAr.out
                have s0 := k14.cell 0 (.int .i64 n3) rfl
                have s1 := k14.cell 1 (.slice o3 R3.length c3) rfl
                generalize nl G j = x at *
                generalize nr G j = y at *
                obtain ⟨z, HZZ⟩ : ∃ z, Hid (rrF n3 R3 m3 x y = z) := ⟨_, rfl⟩
                have hdz : decide (q < z) = false := decide_eq_false (by rw [HZZ.out] at hzq; omega)
                clear hzq
                go_wp2_with fail
                (refine wp_region_after (by kernel_rfl) (by kernel_rfl) ?_; have q_hc1 := fun (x : After _) => cell_keep hc1 x.bel; have q_hc2 := fun (x : After _) => cell_keep hc2 x.bel; have q_s0 := fun (x : After _) => cell_keep s0 x.bel; have q_s1 := fun (x : After _) => cell_keep s1 x.bel; (repeat (go_big_quiet_step ((go_at_call 37; exact Ans.after (HZZ.out ▸ c_specRowsToRemove n3 o3 c3 R3 m3 x y _ (hd.keep (After.bel _))))))); clear q_hc1; clear q_hc2; clear q_s0; clear q_s1; refine wpQuiet_nil ?_; rintro _ ⟨⟨w1, hbn⟩, rfl⟩; (try simp only [After.w]); replace hc1 := cell_keep hc1 hbn; replace hc2 := cell_keep hc2 hbn; replace s0 := cell_keep s0 hbn; replace s1 := cell_keep s1 hbn; replace hP := hP.keep hbn; replace k12 := k12.keep hbn; replace k13 := k13.keep hbn; replace hA := hA.keep hbn; replace k14 := k14.keep hbn; replace hG := hG.keep hbn; replace hbo := bel_to hbo hbn; replace hb := bel_to (w := w) (by first | exact hb | exact hb.alloc hb.size _ | exact (hb.alloc hb.size _).alloc (Nat.le_trans hb.size (by simp)) _ | exact hb.setCell (by simp [hb.size]) _) hbn; clear hbn)
                go_wp2
                go_roundw
                case rel => exact ⟨j + 1, by go_num, by omega, hbo⟩
                case measure => simp [intOf]; omega
              · clear hbo
                obtain ⟨b1, HB1⟩ : ∃ b, Hid (isMinF n2 R2 m2 l2 r2 = b) := ⟨_, rfl⟩
                have hb1 : (b1 == b1) = true := by simp
                have hdP := hP.read hPR HPr.out
                have hdA := hA.read hAR HAr.out
                have hdG := hG.deps rfl hGL
                have p0 := k12.cell 0 (.int .i64 n2) rfl
                have p1 := k12.cell 1 (.slice o2 R2.length c2) rfl
                have d0 := k13.cell 0 (.int .i64 l2) rfl
                have d1 := k13.cell 1 (.int .i64 r2) rfl
                have s0 := k14.cell 0 (.int .i64 n3) rfl
                have s1 := k14.cell 1 (.slice o3 R3.length c3) rfl
                clear hP k12 k13 hA k14 hG
                go_upto_region 36 with fail
                by_cases hq0 : q = 0
                · have hqq : (q != 0) = false := by rw [hq0]; rfl
                  have HQ0 : Hid (q = 0) := hq0
                  clear hq0
                  refine wp_region_held_drew (S := fun w' => w'.cell? ⟨w20.heap.size, 0, none⟩ = some (.int .i64 n2) ∧ w'.cell? ⟨w20.heap.size, 1, none⟩ = some (.slice o2 R2.length c2) ∧ w'.cell? ⟨(w20.heap.size + 1), 0, none⟩ = some (.int .i64 l2) ∧ w'.cell? ⟨(w20.heap.size + 1), 1, none⟩ = some (.int .i64 r2) ∧ w'.cell? ⟨w21.heap.size, 0, none⟩ = some (.int .i64 n3) ∧ w'.cell? ⟨w21.heap.size, 1, none⟩ = some (.slice o3 R3.length c3) ∧ Below w23.heap.size w23 w') (by kernel_rfl) ⟨cell_keep p0 (Below.refl _ _).drew, cell_keep p1 (Below.refl _ _).drew, cell_keep d0 (Below.refl _ _).drew, cell_keep d1 (Below.refl _ _).drew, cell_keep s0 (Below.refl _ _).drew, cell_keep s1 (Below.refl _ _).drew, (Below.refl _ _).drew⟩ (fun hS => ?_)
                  (refine wpAnyH_val (i := 0) (some 194) ?_ rfl rfl (by kernel_rfl) (by kernel_rfl) (by kernel_rfl) (fun _ _ _ h => h) (by rfl) (by assumption) ?_ ?_; rotate_left; (intro w hSw; go_simp; (try with_reducible rfl)); (try simp only [Act.put, List.setIfInBounds_toArray, List.set_cons_zero, List.set_cons_succ])); (refine wpAnyH_val (i := 1) (some 195) ?_ rfl rfl (by kernel_rfl) (by kernel_rfl) (by kernel_rfl) (fun _ _ _ h => h) (by rfl) (by assumption) ?_ ?_; rotate_left; (intro w hSw; go_simp; (try with_reducible rfl)); (try simp only [Act.put, List.setIfInBounds_toArray, List.set_cons_zero, List.set_cons_succ])); (refine wpAnyH_val (i := 2) (some 196) ?_ rfl rfl (by kernel_rfl) (by kernel_rfl) (by kernel_rfl) (fun _ _ _ h => h) (by rfl) (by assumption) ?_ ?_; rotate_left; (intro w hSw; go_simp; (try with_reducible rfl)); (try simp only [Act.put, List.setIfInBounds_toArray, List.set_cons_zero, List.set_cons_succ])); (refine wpAnyH_val (i := 4) (some 198) ?_ rfl rfl (by kernel_rfl) (by kernel_rfl) (by kernel_rfl) (fun _ _ _ h => h) (by rfl) (by assumption) ?_ ?_; rotate_left; (intro w hSw; go_simp; (try with_reducible rfl)); (try simp only [Act.put, List.setIfInBounds_toArray, List.set_cons_zero, List.set_cons_succ])); (refine wpAnyH_val (i := 5) (some 199) ?_ rfl rfl (by kernel_rfl) (by kernel_rfl) (by kernel_rfl) (fun _ _ _ h => h) (by rfl) (by assumption) ?_ ?_; rotate_left; (intro w hSw; go_simp; (try with_reducible rfl)); (try simp only [Act.put, List.setIfInBounds_toArray, List.set_cons_zero, List.set_cons_succ])); (refine wpAnyH_val (i := 6) (some 200) ?_ rfl rfl (by kernel_rfl) (by kernel_rfl) (by kernel_rfl) (fun _ _ _ h => h) (by rfl) (by assumption) ?_ ?_; rotate_left; (intro w hSw; go_simp; (try with_reducible rfl)); (try simp only [Act.put, List.setIfInBounds_toArray, List.set_cons_zero, List.set_cons_succ]))
                  (refine wpAnyH_ready (rs := [3]) (by kernel_rfl) (by simp) ?_; refine AllReadyH.cons rfl (fun K hK => ?_) AllReadyH.nil; go_simp)
                  refine Calls.mono (Ans.eqb (c_IsMinimalDep n2 o2 c2 R2 m2 l2 r2 _ (hdP.keep hS.2.2.2.2.2.2)) HB1.out) ?_
                  rintro e wz ⟨rfl, hbn⟩
                  have hS3 := (show _ ∧ _ ∧ _ ∧ _ ∧ _ ∧ _ ∧ Below w23.heap.size w23 _ from ⟨cell_keep hS.1 hbn, cell_keep hS.2.1 hbn, cell_keep hS.2.2.1 hbn, cell_keep hS.2.2.2.1 hbn, cell_keep hS.2.2.2.2.1 hbn, cell_keep hS.2.2.2.2.2.1 hbn, bel_to hS.2.2.2.2.2.2 hbn⟩)
                  refine hK.out _ _ hS3 (fun hS2 => ?_)
                  clear hK hbn hS hS2
                  have hS := hS3
                  clear hS3
                  (try simp only [Act.put, List.setIfInBounds_toArray, List.set_cons_zero, List.set_cons_succ])
                  (refine wpAnyH_ready (rs := [7]) (by kernel_rfl) (by simp) ?_; refine AllReadyH.cons rfl (fun K hK => ?_) AllReadyH.nil; go_simp)
                  refine Calls.mono (Ans.eqb (c_specIsMinimalDep n2 o2 c2 R2 m2 l2 r2 _ (hdP.keep hS.2.2.2.2.2.2)) HB1.out) ?_
                  rintro e wz ⟨rfl, hbn⟩
                  have hS3 := (show _ ∧ _ ∧ _ ∧ _ ∧ _ ∧ _ ∧ Below w23.heap.size w23 _ from ⟨cell_keep hS.1 hbn, cell_keep hS.2.1 hbn, cell_keep hS.2.2.1 hbn, cell_keep hS.2.2.2.1 hbn, cell_keep hS.2.2.2.2.1 hbn, cell_keep hS.2.2.2.2.2.1 hbn, bel_to hS.2.2.2.2.2.2 hbn⟩)
                  refine hK.out _ _ hS3 (fun hS2 => ?_)
                  clear hK hbn hS hS2
                  have hS := hS3
                  clear hS3
                  (try simp only [Act.put, List.setIfInBounds_toArray, List.set_cons_zero, List.set_cons_succ])
                  (refine wpAnyH_val (i := 8) (some 202) ?_ rfl rfl (by kernel_rfl) (by kernel_rfl) (by kernel_rfl) (fun _ _ _ h => h) (by rfl) (by assumption) ?_ ?_; rotate_left; (intro w hSw; go_simp; (try with_reducible rfl)); (try simp only [Act.put, List.setIfInBounds_toArray, List.set_cons_zero, List.set_cons_succ])); (refine wpAnyH_val (i := 9) (some 203) ?_ rfl rfl (by kernel_rfl) (by kernel_rfl) (by kernel_rfl) (fun _ _ _ h => h) (by rfl) (by assumption) ?_ ?_; rotate_left; (intro w hSw; go_simp; (try with_reducible rfl)); (try simp only [Act.put, List.setIfInBounds_toArray, List.set_cons_zero, List.set_cons_succ])); (refine wpAnyH_val (i := 10) (some 204) ?_ rfl rfl (by kernel_rfl) (by kernel_rfl) (by kernel_rfl) (fun _ _ _ h => h) (by rfl) (by assumption) ?_ ?_; rotate_left; (intro w hSw; go_simp; (try with_reducible rfl)); (try simp only [Act.put, List.setIfInBounds_toArray, List.set_cons_zero, List.set_cons_succ])); (refine wpAnyH_val (i := 11) (some 205) ?_ rfl rfl (by kernel_rfl) (by kernel_rfl) (by kernel_rfl) (fun _ _ _ h => h) (by rfl) (by assumption) ?_ ?_; rotate_left; (intro w hSw; go_simp; (try with_reducible rfl)); (try simp only [Act.put, List.setIfInBounds_toArray, List.set_cons_zero, List.set_cons_succ])); (refine wpAnyH_val (i := 12) (some 206) ?_ rfl rfl (by kernel_rfl) (by kernel_rfl) (by kernel_rfl) (fun _ _ _ h => h) (by rfl) (by assumption) ?_ ?_; rotate_left; (intro w hSw; go_simp; (try with_reducible rfl)); (try simp only [Act.put, List.setIfInBounds_toArray, List.set_cons_zero, List.set_cons_succ])); (refine wpAnyH_val (i := 13) (some 207) ?_ rfl rfl (by kernel_rfl) (by kernel_rfl) (by kernel_rfl) (fun _ _ _ h => h) (by rfl) (by assumption) ?_ ?_; rotate_left; (intro w hSw; go_simp; (try with_reducible rfl)); (try simp only [Act.put, List.setIfInBounds_toArray, List.set_cons_zero, List.set_cons_succ]))
                  (refine wpAnyH_ready (rs := [14]) (by kernel_rfl) (by simp) ?_; refine AllReadyH.cons rfl (fun K hK => ?_) AllReadyH.nil; go_simp)
                  refine (c_specApproximateDeps n3 o3 c3 R3 m3 q _ (hdA.keep hS.2.2.2.2.2.2)).mono ?_
                  rintro e wz ⟨v9, rfl, h9, hbn⟩
                  rw [HG2.out] at h9
                  obtain ⟨oX, cX, rfl⟩ := h9.shape
                  have hdX := h9.deps rfl hGL
                  clear h9
                  have hS3 := (show _ ∧ _ ∧ _ ∧ _ ∧ _ ∧ _ ∧ Below w23.heap.size w23 _ from ⟨cell_keep hS.1 hbn, cell_keep hS.2.1 hbn, cell_keep hS.2.2.1 hbn, cell_keep hS.2.2.2.1 hbn, cell_keep hS.2.2.2.2.1 hbn, cell_keep hS.2.2.2.2.2.1 hbn, bel_to hS.2.2.2.2.2.2 hbn⟩)
                  refine hK.out _ _ hS3 (fun hS2 => ?_)
                  clear hK hbn hS hS2
                  have hS := hS3
                  clear hS3
                  (try simp only [Act.put, List.setIfInBounds_toArray, List.set_cons_zero, List.set_cons_succ])
                  (refine wpAnyH_ready (rs := [15]) (by kernel_rfl) (by simp) ?_; refine AllReadyH.cons rfl (fun K hK => ?_) AllReadyH.nil; go_simp)
                  refine Calls.mono (Ans.eqb (b' := true) (c_specSameDeps oG oX cG cX G G _ (hdG.keep hS.2.2.2.2.2.2) hdX) (by simp)) ?_
                  rintro e wz ⟨rfl, hbn⟩
                  have hS3 := (show _ ∧ _ ∧ _ ∧ _ ∧ _ ∧ _ ∧ Below w23.heap.size w23 _ from ⟨cell_keep hS.1 hbn, cell_keep hS.2.1 hbn, cell_keep hS.2.2.1 hbn, cell_keep hS.2.2.2.1 hbn, cell_keep hS.2.2.2.2.1 hbn, cell_keep hS.2.2.2.2.2.1 hbn, bel_to hS.2.2.2.2.2.2 hbn⟩)
                  refine hK.out _ _ hS3 (fun hS2 => ?_)
                  clear hK hbn hS hS2
                  have hS := hS3
                  clear hS3
                  (try simp only [Act.put, List.setIfInBounds_toArray, List.set_cons_zero, List.set_cons_succ])
                  (refine wpAnyH_val (i := 16) (some 210) ?_ rfl rfl (by kernel_rfl) (by kernel_rfl) (by kernel_rfl) (fun _ _ _ h => h) (by rfl) (by assumption) ?_ ?_; rotate_left; (intro w hSw; go_simp; (try with_reducible rfl)); (try simp only [Act.put, List.setIfInBounds_toArray, List.set_cons_zero, List.set_cons_succ])); (refine wpAnyH_val (i := 17) (some 211) ?_ rfl rfl (by kernel_rfl) (by kernel_rfl) (by kernel_rfl) (fun _ _ _ h => h) (by rfl) (by assumption) ?_ ?_; rotate_left; (intro w hSw; go_simp; (try with_reducible rfl)); (try simp only [Act.put, List.setIfInBounds_toArray, List.set_cons_zero, List.set_cons_succ])); (refine wpAnyH_val (i := 18) (some 212) ?_ rfl rfl (by kernel_rfl) (by kernel_rfl) (by kernel_rfl) (fun _ _ _ h => h) (by rfl) (by assumption) ?_ ?_; rotate_left; (intro w hSw; go_simp; (try with_reducible rfl)); (try simp only [Act.put, List.setIfInBounds_toArray, List.set_cons_zero, List.set_cons_succ])); (refine wpAnyH_val (i := 19) (some 213) ?_ rfl rfl (by kernel_rfl) (by kernel_rfl) (by kernel_rfl) (fun _ _ _ h => h) (by rfl) (by assumption) ?_ ?_; rotate_left; (intro w hSw; go_simp; (try with_reducible rfl)); (try simp only [Act.put, List.setIfInBounds_toArray, List.set_cons_zero, List.set_cons_succ])); (refine wpAnyH_val (i := 20) (some 214) ?_ rfl rfl (by kernel_rfl) (by kernel_rfl) (by kernel_rfl) (fun _ _ _ h => h) (by rfl) (by assumption) ?_ ?_; rotate_left; (intro w hSw; go_simp; (try with_reducible rfl)); (try simp only [Act.put, List.setIfInBounds_toArray, List.set_cons_zero, List.set_cons_succ])); (refine wpAnyH_val (i := 21) (some 215) ?_ rfl rfl (by kernel_rfl) (by kernel_rfl) (by kernel_rfl) (fun _ _ _ h => h) (by rfl) (by assumption) ?_ ?_; rotate_left; (intro w hSw; go_simp; (try with_reducible rfl)); (try simp only [Act.put, List.setIfInBounds_toArray, List.set_cons_zero, List.set_cons_succ])); (refine wpAnyH_val (i := 22) (some 216) ?_ rfl rfl (by kernel_rfl) (by kernel_rfl) (by kernel_rfl) (fun _ _ _ h => h) (by rfl) (by assumption) ?_ ?_; rotate_left; (intro w hSw; go_simp; (try with_reducible rfl)); (try simp only [Act.put, List.setIfInBounds_toArray, List.set_cons_zero, List.set_cons_succ])); (refine wpAnyH_val (i := 23) (some 217) ?_ rfl rfl (by kernel_rfl) (by kernel_rfl) (by kernel_rfl) (fun _ _ _ h => h) (by rfl) (by assumption) ?_ ?_; rotate_left; (intro w hSw; go_simp; (try with_reducible rfl)); (try simp only [Act.put, List.setIfInBounds_toArray, List.set_cons_zero, List.set_cons_succ]))
                  (refine wpAnyH_ready (rs := [24]) (by kernel_rfl) (by simp) ?_; refine AllReadyH.cons rfl (fun K hK => ?_) AllReadyH.nil; go_simp)
                  refine (c_specMinimalDeps n3 o3 c3 R3 m3 _ (hdA.keep hS.2.2.2.2.2.2)).mono ?_
                  rintro e wz ⟨v9, rfl, h9, hbn⟩
                  rw [HZ.out HQ0.out] at h9
                  obtain ⟨oY, cY, rfl⟩ := h9.shape
                  have hdY := h9.deps rfl hGL
                  clear h9
                  have hS3 := (show _ ∧ _ ∧ _ ∧ _ ∧ _ ∧ _ ∧ Below w23.heap.size w23 _ from ⟨cell_keep hS.1 hbn, cell_keep hS.2.1 hbn, cell_keep hS.2.2.1 hbn, cell_keep hS.2.2.2.1 hbn, cell_keep hS.2.2.2.2.1 hbn, cell_keep hS.2.2.2.2.2.1 hbn, bel_to hS.2.2.2.2.2.2 hbn⟩)
                  refine hK.out _ _ hS3 (fun hS2 => ?_)
                  clear hK hbn hS hS2
                  have hS := hS3
                  clear hS3
                  (try simp only [Act.put, List.setIfInBounds_toArray, List.set_cons_zero, List.set_cons_succ])
                  (refine wpAnyH_ready (rs := [25]) (by kernel_rfl) (by simp) ?_; refine AllReadyH.cons rfl (fun K hK => ?_) AllReadyH.nil; go_simp)
                  refine Calls.mono (Ans.eqb (b' := true) (c_specSameDeps oG oY cG cY G G _ (hdG.keep hS.2.2.2.2.2.2) hdY) (by simp)) ?_
                  rintro e wz ⟨rfl, hbn⟩
                  have hS3 := (show _ ∧ _ ∧ _ ∧ _ ∧ _ ∧ _ ∧ Below w23.heap.size w23 _ from ⟨cell_keep hS.1 hbn, cell_keep hS.2.1 hbn, cell_keep hS.2.2.1 hbn, cell_keep hS.2.2.2.1 hbn, cell_keep hS.2.2.2.2.1 hbn, cell_keep hS.2.2.2.2.2.1 hbn, bel_to hS.2.2.2.2.2.2 hbn⟩)
                  refine hK.out _ _ hS3 (fun hS2 => ?_)
                  clear hK hbn hS hS2
                  have hS := hS3
                  clear hS3
                  (try simp only [Act.put, List.setIfInBounds_toArray, List.set_cons_zero, List.set_cons_succ])
                  (refine wpAnyH_val (i := 26) (some 220) ?_ rfl rfl (by kernel_rfl) (by kernel_rfl) (by kernel_rfl) (fun _ _ _ h => h) (by rfl) (by assumption) ?_ ?_; rotate_left; (intro w hSw; go_simp; (try with_reducible rfl)); (try simp only [Act.put, List.setIfInBounds_toArray, List.set_cons_zero, List.set_cons_succ])); (refine wpAnyH_val (i := 27) (some 221) ?_ rfl rfl (by kernel_rfl) (by kernel_rfl) (by kernel_rfl) (fun _ _ _ h => h) (by rfl) (by assumption) ?_ ?_; rotate_left; (intro w hSw; go_simp; (try with_reducible rfl)); (try simp only [Act.put, List.setIfInBounds_toArray, List.set_cons_zero, List.set_cons_succ])); (refine wpAnyH_val (i := 28) (some 2) ?_ rfl rfl (by kernel_rfl) (by kernel_rfl) (by kernel_rfl) (fun _ _ _ h => h) (by rfl) (by assumption) ?_ ?_; rotate_left; (intro w hSw; go_simp; (try with_reducible rfl)); (try simp only [Act.put, List.setIfInBounds_toArray, List.set_cons_zero, List.set_cons_succ]))
                  refine wpAnyH_done (by kernel_rfl) ?_ _
                  try dsimp only [NoPanic, Exit.then]
                  go_wp2
                  go_ret
                  exact ⟨rfl, bel_to hb hS.2.2.2.2.2.2⟩
                · have hqq : (q != 0) = true := by simp [hq0]
                  have HQ0 : Hid (¬ (q = 0)) := hq0
                  clear hq0
                  refine wp_region_held_drew (S := fun w' => w'.cell? ⟨w20.heap.size, 0, none⟩ = some (.int .i64 n2) ∧ w'.cell? ⟨w20.heap.size, 1, none⟩ = some (.slice o2 R2.length c2) ∧ w'.cell? ⟨(w20.heap.size + 1), 0, none⟩ = some (.int .i64 l2) ∧ w'.cell? ⟨(w20.heap.size + 1), 1, none⟩ = some (.int .i64 r2) ∧ w'.cell? ⟨w21.heap.size, 0, none⟩ = some (.int .i64 n3) ∧ w'.cell? ⟨w21.heap.size, 1, none⟩ = some (.slice o3 R3.length c3) ∧ Below w23.heap.size w23 w') (by kernel_rfl) ⟨cell_keep p0 (Below.refl _ _).drew, cell_keep p1 (Below.refl _ _).drew, cell_keep d0 (Below.refl _ _).drew, cell_keep d1 (Below.refl _ _).drew, cell_keep s0 (Below.refl _ _).drew, cell_keep s1 (Below.refl _ _).drew, (Below.refl _ _).drew⟩ (fun hS => ?_)
                  (refine wpAnyH_val (i := 0) (some 194) ?_ rfl rfl (by kernel_rfl) (by kernel_rfl) (by kernel_rfl) (fun _ _ _ h => h) (by rfl) (by assumption) ?_ ?_; rotate_left; (intro w hSw; go_simp; (try with_reducible rfl)); (try simp only [Act.put, List.setIfInBounds_toArray, List.set_cons_zero, List.set_cons_succ])); (refine wpAnyH_val (i := 1) (some 195) ?_ rfl rfl (by kernel_rfl) (by kernel_rfl) (by kernel_rfl) (fun _ _ _ h => h) (by rfl) (by assumption) ?_ ?_; rotate_left; (intro w hSw; go_simp; (try with_reducible rfl)); (try simp only [Act.put, List.setIfInBounds_toArray, List.set_cons_zero, List.set_cons_succ])); (refine wpAnyH_val (i := 2) (some 196) ?_ rfl rfl (by kernel_rfl) (by kernel_rfl) (by kernel_rfl) (fun _ _ _ h => h) (by rfl) (by assumption) ?_ ?_; rotate_left; (intro w hSw; go_simp; (try with_reducible rfl)); (try simp only [Act.put, List.setIfInBounds_toArray, List.set_cons_zero, List.set_cons_succ])); (refine wpAnyH_val (i := 4) (some 198) ?_ rfl rfl (by kernel_rfl) (by kernel_rfl) (by kernel_rfl) (fun _ _ _ h => h) (by rfl) (by assumption) ?_ ?_; rotate_left; (intro w hSw; go_simp; (try with_reducible rfl)); (try simp only [Act.put, List.setIfInBounds_toArray, List.set_cons_zero, List.set_cons_succ])); (refine wpAnyH_val (i := 5) (some 199) ?_ rfl rfl (by kernel_rfl) (by kernel_rfl) (by kernel_rfl) (fun _ _ _ h => h) (by rfl) (by assumption) ?_ ?_; rotate_left; (intro w hSw; go_simp; (try with_reducible rfl)); (try simp only [Act.put, List.setIfInBounds_toArray, List.set_cons_zero, List.set_cons_succ])); (refine wpAnyH_val (i := 6) (some 200) ?_ rfl rfl (by kernel_rfl) (by kernel_rfl) (by kernel_rfl) (fun _ _ _ h => h) (by rfl) (by assumption) ?_ ?_; rotate_left; (intro w hSw; go_simp; (try with_reducible rfl)); (try simp only [Act.put, List.setIfInBounds_toArray, List.set_cons_zero, List.set_cons_succ]))
                  (refine wpAnyH_ready (rs := [3]) (by kernel_rfl) (by simp) ?_; refine AllReadyH.cons rfl (fun K hK => ?_) AllReadyH.nil; go_simp)
                  refine Calls.mono (Ans.eqb (c_IsMinimalDep n2 o2 c2 R2 m2 l2 r2 _ (hdP.keep hS.2.2.2.2.2.2)) HB1.out) ?_
                  rintro e wz ⟨rfl, hbn⟩
                  have hS3 := (show _ ∧ _ ∧ _ ∧ _ ∧ _ ∧ _ ∧ Below w23.heap.size w23 _ from ⟨cell_keep hS.1 hbn, cell_keep hS.2.1 hbn, cell_keep hS.2.2.1 hbn, cell_keep hS.2.2.2.1 hbn, cell_keep hS.2.2.2.2.1 hbn, cell_keep hS.2.2.2.2.2.1 hbn, bel_to hS.2.2.2.2.2.2 hbn⟩)
                  refine hK.out _ _ hS3 (fun hS2 => ?_)
                  clear hK hbn hS hS2
                  have hS := hS3
                  clear hS3
                  (try simp only [Act.put, List.setIfInBounds_toArray, List.set_cons_zero, List.set_cons_succ])
                  (refine wpAnyH_ready (rs := [7]) (by kernel_rfl) (by simp) ?_; refine AllReadyH.cons rfl (fun K hK => ?_) AllReadyH.nil; go_simp)
                  refine Calls.mono (Ans.eqb (c_specIsMinimalDep n2 o2 c2 R2 m2 l2 r2 _ (hdP.keep hS.2.2.2.2.2.2)) HB1.out) ?_
                  rintro e wz ⟨rfl, hbn⟩
                  have hS3 := (show _ ∧ _ ∧ _ ∧ _ ∧ _ ∧ _ ∧ Below w23.heap.size w23 _ from ⟨cell_keep hS.1 hbn, cell_keep hS.2.1 hbn, cell_keep hS.2.2.1 hbn, cell_keep hS.2.2.2.1 hbn, cell_keep hS.2.2.2.2.1 hbn, cell_keep hS.2.2.2.2.2.1 hbn, bel_to hS.2.2.2.2.2.2 hbn⟩)
                  refine hK.out _ _ hS3 (fun hS2 => ?_)
                  clear hK hbn hS hS2
                  have hS := hS3
                  clear hS3
                  (try simp only [Act.put, List.setIfInBounds_toArray, List.set_cons_zero, List.set_cons_succ])
                  (refine wpAnyH_val (i := 8) (some 202) ?_ rfl rfl (by kernel_rfl) (by kernel_rfl) (by kernel_rfl) (fun _ _ _ h => h) (by rfl) (by assumption) ?_ ?_; rotate_left; (intro w hSw; go_simp; (try with_reducible rfl)); (try simp only [Act.put, List.setIfInBounds_toArray, List.set_cons_zero, List.set_cons_succ])); (refine wpAnyH_val (i := 9) (some 203) ?_ rfl rfl (by kernel_rfl) (by kernel_rfl) (by kernel_rfl) (fun _ _ _ h => h) (by rfl) (by assumption) ?_ ?_; rotate_left; (intro w hSw; go_simp; (try with_reducible rfl)); (try simp only [Act.put, List.setIfInBounds_toArray, List.set_cons_zero, List.set_cons_succ])); (refine wpAnyH_val (i := 10) (some 204) ?_ rfl rfl (by kernel_rfl) (by kernel_rfl) (by kernel_rfl) (fun _ _ _ h => h) (by rfl) (by assumption) ?_ ?_; rotate_left; (intro w hSw; go_simp; (try with_reducible rfl)); (try simp only [Act.put, List.setIfInBounds_toArray, List.set_cons_zero, List.set_cons_succ])); (refine wpAnyH_val (i := 11) (some 205) ?_ rfl rfl (by kernel_rfl) (by kernel_rfl) (by kernel_rfl) (fun _ _ _ h => h) (by rfl) (by assumption) ?_ ?_; rotate_left; (intro w hSw; go_simp; (try with_reducible rfl)); (try simp only [Act.put, List.setIfInBounds_toArray, List.set_cons_zero, List.set_cons_succ])); (refine wpAnyH_val (i := 12) (some 206) ?_ rfl rfl (by kernel_rfl) (by kernel_rfl) (by kernel_rfl) (fun _ _ _ h => h) (by rfl) (by assumption) ?_ ?_; rotate_left; (intro w hSw; go_simp; (try with_reducible rfl)); (try simp only [Act.put, List.setIfInBounds_toArray, List.set_cons_zero, List.set_cons_succ])); (refine wpAnyH_val (i := 13) (some 207) ?_ rfl rfl (by kernel_rfl) (by kernel_rfl) (by kernel_rfl) (fun _ _ _ h => h) (by rfl) (by assumption) ?_ ?_; rotate_left; (intro w hSw; go_simp; (try with_reducible rfl)); (try simp only [Act.put, List.setIfInBounds_toArray, List.set_cons_zero, List.set_cons_succ]))
                  (refine wpAnyH_ready (rs := [14]) (by kernel_rfl) (by simp) ?_; refine AllReadyH.cons rfl (fun K hK => ?_) AllReadyH.nil; go_simp)
                  refine (c_specApproximateDeps n3 o3 c3 R3 m3 q _ (hdA.keep hS.2.2.2.2.2.2)).mono ?_
                  rintro e wz ⟨v9, rfl, h9, hbn⟩
                  rw [HG2.out] at h9
                  obtain ⟨oX, cX, rfl⟩ := h9.shape
                  have hdX := h9.deps rfl hGL
                  clear h9
                  have hS3 := (show _ ∧ _ ∧ _ ∧ _ ∧ _ ∧ _ ∧ Below w23.heap.size w23 _ from ⟨cell_keep hS.1 hbn, cell_keep hS.2.1 hbn, cell_keep hS.2.2.1 hbn, cell_keep hS.2.2.2.1 hbn, cell_keep hS.2.2.2.2.1 hbn, cell_keep hS.2.2.2.2.2.1 hbn, bel_to hS.2.2.2.2.2.2 hbn⟩)
                  refine hK.out _ _ hS3 (fun hS2 => ?_)
                  clear hK hbn hS hS2
                  have hS := hS3
                  clear hS3
                  (try simp only [Act.put, List.setIfInBounds_toArray, List.set_cons_zero, List.set_cons_succ])
                  (refine wpAnyH_ready (rs := [15]) (by kernel_rfl) (by simp) ?_; refine AllReadyH.cons rfl (fun K hK => ?_) AllReadyH.nil; go_simp)
                  refine Calls.mono (Ans.eqb (b' := true) (c_specSameDeps oG oX cG cX G G _ (hdG.keep hS.2.2.2.2.2.2) hdX) (by simp)) ?_
                  rintro e wz ⟨rfl, hbn⟩
                  have hS3 := (show _ ∧ _ ∧ _ ∧ _ ∧ _ ∧ _ ∧ Below w23.heap.size w23 _ from ⟨cell_keep hS.1 hbn, cell_keep hS.2.1 hbn, cell_keep hS.2.2.1 hbn, cell_keep hS.2.2.2.1 hbn, cell_keep hS.2.2.2.2.1 hbn, cell_keep hS.2.2.2.2.2.1 hbn, bel_to hS.2.2.2.2.2.2 hbn⟩)
                  refine hK.out _ _ hS3 (fun hS2 => ?_)
                  clear hK hbn hS hS2
                  have hS := hS3
                  clear hS3
                  (try simp only [Act.put, List.setIfInBounds_toArray, List.set_cons_zero, List.set_cons_succ])
                  (refine wpAnyH_val (i := 16) (some 210) ?_ rfl rfl (by kernel_rfl) (by kernel_rfl) (by kernel_rfl) (fun _ _ _ h => h) (by rfl) (by assumption) ?_ ?_; rotate_left; (intro w hSw; go_simp; (try with_reducible rfl)); (try simp only [Act.put, List.setIfInBounds_toArray, List.set_cons_zero, List.set_cons_succ])); (refine wpAnyH_val (i := 17) (some 211) ?_ rfl rfl (by kernel_rfl) (by kernel_rfl) (by kernel_rfl) (fun _ _ _ h => h) (by rfl) (by assumption) ?_ ?_; rotate_left; (intro w hSw; go_simp; (try with_reducible rfl)); (try simp only [Act.put, List.setIfInBounds_toArray, List.set_cons_zero, List.set_cons_succ])); (refine wpAnyH_val (i := 18) (some 212) ?_ rfl rfl (by kernel_rfl) (by kernel_rfl) (by kernel_rfl) (fun _ _ _ h => h) (by rfl) (by assumption) ?_ ?_; rotate_left; (intro w hSw; go_simp; (try with_reducible rfl)); (try simp only [Act.put, List.setIfInBounds_toArray, List.set_cons_zero, List.set_cons_succ])); (refine wpAnyH_val (i := 19) (some 213) ?_ rfl rfl (by kernel_rfl) (by kernel_rfl) (by kernel_rfl) (fun _ _ _ h => h) (by rfl) (by assumption) ?_ ?_; rotate_left; (intro w hSw; go_simp; (try with_reducible rfl)); (try simp only [Act.put, List.setIfInBounds_toArray, List.set_cons_zero, List.set_cons_succ])); (refine wpAnyH_val (i := 20) (some 214) ?_ rfl rfl (by kernel_rfl) (by kernel_rfl) (by kernel_rfl) (fun _ _ _ h => h) (by rfl) (by assumption) ?_ ?_; rotate_left; (intro w hSw; go_simp; (try with_reducible rfl)); (try simp only [Act.put, List.setIfInBounds_toArray, List.set_cons_zero, List.set_cons_succ])); (refine wpAnyH_skip (i := 21) (some 215) rfl rfl (by kernel_rfl) (by kernel_rfl) (by kernel_rfl) (fun _ _ _ h => h) (by rfl) (by assumption) ?_; (try simp only [Act.put, List.setIfInBounds_toArray, List.set_cons_zero, List.set_cons_succ])); (refine wpAnyH_skip (i := 22) (some 216) rfl rfl (by kernel_rfl) (by kernel_rfl) (by kernel_rfl) (fun _ _ _ h => h) (by rfl) (by assumption) ?_; (try simp only [Act.put, List.setIfInBounds_toArray, List.set_cons_zero, List.set_cons_succ])); (refine wpAnyH_skip (i := 23) (some 217) rfl rfl (by kernel_rfl) (by kernel_rfl) (by kernel_rfl) (fun _ _ _ h => h) (by rfl) (by assumption) ?_; (try simp only [Act.put, List.setIfInBounds_toArray, List.set_cons_zero, List.set_cons_succ])); (refine wpAnyH_skip (i := 24) (some 218) rfl rfl (by kernel_rfl) (by kernel_rfl) (by kernel_rfl) (fun _ _ _ h => h) (by rfl) (by assumption) ?_; (try simp only [Act.put, List.setIfInBounds_toArray, List.set_cons_zero, List.set_cons_succ])); (refine wpAnyH_skip (i := 25) (some 219) rfl rfl (by kernel_rfl) (by kernel_rfl) (by kernel_rfl) (fun _ _ _ h => h) (by rfl) (by assumption) ?_; (try simp only [Act.put, List.setIfInBounds_toArray, List.set_cons_zero, List.set_cons_succ])); (refine wpAnyH_val (i := 26) (some 220) ?_ rfl rfl (by kernel_rfl) (by kernel_rfl) (by kernel_rfl) (fun _ _ _ h => h) (by rfl) (by assumption) ?_ ?_; rotate_left; (intro w hSw; go_simp; (try with_reducible rfl)); (try simp only [Act.put, List.setIfInBounds_toArray, List.set_cons_zero, List.set_cons_succ])); (refine wpAnyH_val (i := 27) (some 221) ?_ rfl rfl (by kernel_rfl) (by kernel_rfl) (by kernel_rfl) (fun _ _ _ h => h) (by rfl) (by assumption) ?_ ?_; rotate_left; (intro w hSw; go_simp; (try with_reducible rfl)); (try simp only [Act.put, List.setIfInBounds_toArray, List.set_cons_zero, List.set_cons_succ])); (refine wpAnyH_val (i := 28) (some 2) ?_ rfl rfl (by kernel_rfl) (by kernel_rfl) (by kernel_rfl) (fun _ _ _ h => h) (by rfl) (by assumption) ?_ ?_; rotate_left; (intro w hSw; go_simp; (try with_reducible rfl)); (try simp only [Act.put, List.setIfInBounds_toArray, List.set_cons_zero, List.set_cons_succ]))
                  refine wpAnyH_done (by kernel_rfl) ?_ _
                  try dsimp only [NoPanic, Exit.then]
                  go_wp2
                  go_ret
                  exact ⟨rfl, bel_to hb hS.2.2.2.2.2.2⟩
          · have hgg := HG.out
            simp only [Bool.and_eq_true, decide_eq_true_eq] at hgg
            obtain ⟨⟨⟨ht, hmm2⟩, hr0, hrn⟩, hxn⟩ := hgg
            clear HG
            obtain ⟨hn1, hn5, _, _⟩ := isTab_of ht
            have hx5 : x < 32 := by have := (pow_nat (n := n) (by omega) hn5); omega
            have HL := (show Hid _ from HIS.out ht hmm2 hr0 hrn x (by omega) hxn)
            have hr64 : 0 ≤ r ∧ r < 64 := ⟨hr0, by omega⟩
            clear ht hmm2 hxn hn1 hn5
            go_wp2_with fail
            go_loopw [10, 11] (fun cv v wr => ∃ j : Nat, v = .int .i64 j ∧ j ≤ Bd.length ∧ cv = .bool ((Bd.take j).any fun y => bits BinOp.and .i64 y x == x) ∧ Below w11.heap.size w11 wr) (fun _ v _ => Bd.length - (intOf v).toNat)
            case atStart => exact ⟨0, rfl, Nat.zero_le _, by simp, Below.refl _ _⟩
            case round =>
              obtain ⟨j, rfl, hj, rfl, hbn⟩ := hrel
              have hbi := hbn
              replace hB := hB.keep hbn
              replace hO := hO.keep hbn
              replace k3 := k3.keep hbn
              replace hL := hL.keep hbn
              replace hM := hM.keep hbn
              replace hbo := bel_to hbo hbn
              replace hb := bel_to hb hbn
              clear hbn
              obtain ⟨w12, hwq⟩ := bel_world hb
              subst hwq
              by_cases hjk : j < Bd.length
              · obtain ⟨b, off, e', hbs, hcell⟩ := (hL.ints rfl hBL).at_ (by omega)
                subst e'
                have hc1 := hcell j hjk
                clear hcell hbs
                have HN := (show Hid _ from any_take_succ (fun y => bits BinOp.and .i64 y (x : Int) == x) Bd j hjk)
                generalize hbb : ((Bd.take j).any fun y => bits BinOp.and .i64 y x == x) = bb at *
                clear hbb
                generalize nth Bd j = y at *
                cases bb
                · go_wp2
                  go_roundw
                  case rel => exact ⟨j + 1, by go_num, by omega, by rw [HN.out]; rfl, hbi⟩
                  case measure => simp [intOf]; omega
                · go_wp2
                  go_roundw
                  case rel => exact ⟨j + 1, by go_num, by omega, by rw [HN.out]; rfl, hbi⟩
                  case measure => simp [intOf]; omega
              · have hjj : j = Bd.length := by omega
                obtain ⟨ia, HIA⟩ : ∃ a, Hid ((Bd.any fun y => bits BinOp.and .i64 y x == x) = a) := ⟨_, rfl⟩
                have hia : ((Bd.take j).any fun y => bits BinOp.and .i64 y x == x) = ia := by rw [hjj, List.take_length]; exact HIA.out
                rw [hia]
                clear hia hjj hbi
                go_wp2_with fail
                go_loopw [12, 13] (fun cv v wr => ∃ j : Nat, v = .int .i64 j ∧ j ≤ Q.length ∧ cv = .bool ((Q.take j).any fun d => (d.2 == r) && (bits BinOp.and .i64 d.1 x == d.1)) ∧ Below w12.heap.size w12 wr) (fun _ v _ => Q.length - (intOf v).toNat)
                case atStart => exact ⟨0, rfl, Nat.zero_le _, by simp, Below.refl _ _⟩
                case round =>
                  obtain ⟨i, rfl, hi, rfl, hbn⟩ := hrel
                  have hbi := hbn
                  replace hB := hB.keep hbn
                  replace hO := hO.keep hbn
                  replace k3 := k3.keep hbn
                  replace hL := hL.keep hbn
                  replace hM := hM.keep hbn
                  replace hbo := bel_to hbo hbn
                  replace hb := bel_to hb hbn
                  clear hbn
                  obtain ⟨w13, hwq⟩ := bel_world hb
                  subst hwq
                  by_cases hik : i < Q.length
                  · obtain ⟨b, off, e', hbs, hcell⟩ := (hM.deps rfl hQL).at_ (by omega)
                    subst e'
                    have hc1 := (hcell i hik).1
                    have hc2 := (hcell i hik).2
                    clear hcell hbs
                    have HN := (show Hid _ from anyd_take_succ (fun d => (d.2 == r) && (bits BinOp.and .i64 d.1 x == d.1)) Q i hik)
                    generalize hbb : ((Q.take i).any fun d => (d.2 == r) && (bits BinOp.and .i64 d.1 x == d.1)) = bb at *
                    clear hbb
                    generalize nl Q i = y at *
                    generalize nr Q i = z at *
                    cases bb
                    · cases hz : (z == r)
                      · go_wp2_with fail
                        (refine wp_region_after (by kernel_rfl) (by kernel_rfl) ?_; have q_hc1 := fun (x : After _) => cell_keep hc1 x.bel; have q_hc2 := fun (x : After _) => cell_keep hc2 x.bel; (repeat (go_big_quiet_step (fail))); clear q_hc1; clear q_hc2; refine wpQuiet_nil ?_; rintro _ ⟨⟨w1, hbn⟩, rfl⟩; (try simp only [After.w]); replace hc1 := cell_keep hc1 hbn; replace hc2 := cell_keep hc2 hbn; replace hB := hB.keep hbn; replace hO := hO.keep hbn; replace k3 := k3.keep hbn; replace hL := hL.keep hbn; replace hM := hM.keep hbn; replace hbo := bel_to hbo hbn; replace hbi := bel_to hbi hbn; replace hb := bel_to (w := w) (by first | exact hb | exact hb.alloc hb.size _ | exact (hb.alloc hb.size _).alloc (Nat.le_trans hb.size (by simp)) _ | exact hb.setCell (by simp [hb.size]) _) hbn; clear hbn)
                        go_wp2
                        go_roundw
                        case rel => exact ⟨i + 1, by go_num, by omega, by rw [HN.out]; simp [hz], hbi⟩
                        case measure => simp [intOf]; omega
                      · go_wp2_with fail
                        (refine wp_region_after (by kernel_rfl) (by kernel_rfl) ?_; have q_hc1 := fun (x : After _) => cell_keep hc1 x.bel; have q_hc2 := fun (x : After _) => cell_keep hc2 x.bel; (repeat (go_big_quiet_step (fail))); clear q_hc1; clear q_hc2; refine wpQuiet_nil ?_; rintro _ ⟨⟨w1, hbn⟩, rfl⟩; (try simp only [After.w]); replace hc1 := cell_keep hc1 hbn; replace hc2 := cell_keep hc2 hbn; replace hB := hB.keep hbn; replace hO := hO.keep hbn; replace k3 := k3.keep hbn; replace hL := hL.keep hbn; replace hM := hM.keep hbn; replace hbo := bel_to hbo hbn; replace hbi := bel_to hbi hbn; replace hb := bel_to (w := w) (by first | exact hb | exact hb.alloc hb.size _ | exact (hb.alloc hb.size _).alloc (Nat.le_trans hb.size (by simp)) _ | exact hb.setCell (by simp [hb.size]) _) hbn; clear hbn)
                        go_wp2
                        go_roundw
                        case rel => exact ⟨i + 1, by go_num, by omega, by rw [HN.out]; simp [hz], hbi⟩
                        case measure => simp [intOf]; omega
                    · go_wp2_with fail
                      (refine wp_region_after (by kernel_rfl) (by kernel_rfl) ?_; have q_hc1 := fun (x : After _) => cell_keep hc1 x.bel; have q_hc2 := fun (x : After _) => cell_keep hc2 x.bel; (repeat (go_big_quiet_step (fail))); clear q_hc1; clear q_hc2; refine wpQuiet_nil ?_; rintro _ ⟨⟨w1, hbn⟩, rfl⟩; (try simp only [After.w]); replace hc1 := cell_keep hc1 hbn; replace hc2 := cell_keep hc2 hbn; replace hB := hB.keep hbn; replace hO := hO.keep hbn; replace k3 := k3.keep hbn; replace hL := hL.keep hbn; replace hM := hM.keep hbn; replace hbo := bel_to hbo hbn; replace hbi := bel_to hbi hbn; replace hb := bel_to (w := w) (by first | exact hb | exact hb.alloc hb.size _ | exact (hb.alloc hb.size _).alloc (Nat.le_trans hb.size (by simp)) _ | exact hb.setCell (by simp [hb.size]) _) hbn; clear hbn)
                      go_wp2
                      go_roundw
                      case rel => exact ⟨i + 1, by go_num, by omega, by rw [HN.out]; rfl, hbi⟩
                      case measure => simp [intOf]; omega
                  · have hii : i = Q.length := by omega
                    obtain ⟨ca, HCA⟩ : ∃ a, Hid ((Q.any fun d => (d.2 == r) && (bits BinOp.and .i64 d.1 x == d.1)) = a) := ⟨_, rfl⟩
                    have hca : ((Q.take i).any fun d => (d.2 == r) && (bits BinOp.and .i64 d.1 x == d.1)) = ca := by rw [hii, List.take_length]; exact HCA.out
                    rw [hca]
                    clear hca hii hbi
                    have sx : St (x : Int) := ⟨by omega, by omega⟩
                    have cr : Co r := ⟨hr0, by have := (isTab_of (show isTabF n R = true by have := HL.out.1; unfold askF at this; simp only [Bool.and_eq_true] at this; exact this.1.1)).2.1; omega⟩
                    cases hxr : hasc x r
                    · have hq : (bits BinOp.and .i64 ((x : Int) / 2 ^ r.toNat) 1 == 0) = true := by have := hasn_eq sx cr; unfold hasn at this; rw [this, hxr]; rfl
                      obtain ⟨h1, h2⟩ := HL.out.2 hxr
                      obtain ⟨hv, HH⟩ : ∃ b, Hid (holdsF R m x r = b) := ⟨_, rfl⟩
                      have e1 : ia = !hv := by rw [← HIA.out, ← HH.out]; exact h1
                      have e2 : ca = hv := by rw [← HCA.out, ← HH.out]; exact h2
                      have HD : Hid ((askF n R m x r && holdsF R m x r) = hv) := by show _ = hv; rw [HL.out.1, HH.out]; rfl
                      clear h1 h2 sx cr hxr HH
                      subst e1 e2
                      have hd := hO.read hOR HOr.out
                      have n0 := k3.cell 0 (.int .i64 n) rfl
                      have n1 := k3.cell 1 (.slice o R.length c) rfl
                      cases ca
                      · go_wp2_with fail
                        refine Calls.mono (Ans.eqb (c_HoldsDep n o c R m x r _ hd) HD.out) ?_
                        rintro e w14 ⟨rfl, hbn⟩
                        clear hd n0 n1
                        replace hB := hB.keep hbn
                        replace hO := hO.keep hbn
                        replace k3 := k3.keep hbn
                        replace hL := hL.keep hbn
                        replace hM := hM.keep hbn
                        replace hbo := bel_to hbo hbn
                        replace hb := bel_to hb hbn
                        clear hbn
                        go_wp2
                        go_roundw
                        case rel => exact ⟨x + 1, by go_num, by omega, hbo⟩
                        case measure => simp [intOf]; omega
                      · go_wp2_with fail
                        refine Calls.mono (Ans.eqb (c_HoldsDep n o c R m x r _ hd) HD.out) ?_
                        rintro e w14 ⟨rfl, hbn⟩
                        clear hd n0 n1
                        replace hB := hB.keep hbn
                        replace hO := hO.keep hbn
                        replace k3 := k3.keep hbn
                        replace hL := hL.keep hbn
                        replace hM := hM.keep hbn
                        replace hbo := bel_to hbo hbn
                        replace hb := bel_to hb hbn
                        clear hbn
                        go_wp2
                        go_roundw
                        case rel => exact ⟨x + 1, by go_num, by omega, hbo⟩
                        case measure => simp [intOf]; omega
                    · have hq : (bits BinOp.and .i64 ((x : Int) / 2 ^ r.toNat) 1 == 0) = false := by have := hasn_eq sx cr; unfold hasn at this; rw [this, hxr]; rfl
                      clear sx cr hxr
                      go_wp2_with fail
                      go_roundw
                      case rel => exact ⟨x + 1, by go_num, by omega, hbo⟩
                      case measure => simp [intOf]; omega
end Go.Proofs.YtcenndlbhgfdfaaGreat
