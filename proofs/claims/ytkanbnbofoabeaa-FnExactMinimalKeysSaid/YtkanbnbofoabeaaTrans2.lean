/- Transversals, of the program and of the reference: the walks. -/
import Derived.Test.YtkanbnbofoabeaaTrans
import Derived.Test.YtkanbnbofoabeaaGrow2
namespace Go.Proofs.Ytkanbnbofoabeaa
open Go.RowKit
set_option linter.unusedVariables false
set_option maxRecDepth 100000

theorem transF_no {L : List Int} {n : Int} (h : transOk L n = false) : transF L n = [] := by unfold transF; rw [h]; rfl
set_option maxHeartbeats 800000 in
theorem c_Transversals (oa) (cap : Nat) (L : List Int) (n : Int) (w : World) (hL : IntsAt w oa L) :
    Calls Try.prog 114 #[.slice oa L.length cap, .int .i64 n] w fun en w' => ∃ v, en = .returned v ∧ OwnI w' w.heap.size v (transF L n) ∧ Below w.heap.size w w' := by
  obtain ⟨i0, hi, hz0, hz1, hz2⟩ := info_parts info_int
  have hn : L.length ≤ 1073741824 := hL.len
  have hb := (Below.refl w.heap.size w).alloc (Nat.le_refl _) (.cells #[] 3)
  have hI := OwnI.empty w w.heap.size (Nat.le_refl _)
  by_cases h0 : 0 ≤ n
  case neg =>
    have HM : Hid (transF L n = []) := transF_no (by unfold transOk; simp [h0])
    go_enter Try.func114, Try.ntmps114
    go_wp2
    go_ret
    exact ⟨_, rfl, by rw [HM.out]; exact hI, hb⟩
  by_cases h5 : n ≤ 5
  case neg =>
    have HM : Hid (transF L n = []) := transF_no (by unfold transOk; simp [h5])
    go_enter Try.func114, Try.ntmps114
    go_wp2
    go_ret
    exact ⟨_, rfl, by rw [HM.out]; exact hI, hb⟩
  by_cases h100 : L.length ≤ 100
  case neg =>
    have HM : Hid (transF L n = []) := transF_no (by unfold transOk; simp [h100])
    go_enter Try.func114, Try.ntmps114
    go_wp2
    go_ret
    exact ⟨_, rfl, by rw [HM.out]; exact hI, hb⟩
  have hp := (pow_wrap h0 h5).1
  obtain ⟨hp1, hp2, hp3⟩ := pow_nat h0 h5
  have HT : Hid (L.all (isAttr n) = true → transF L n = minF (flt (hitsF L) (2 ^ n.toNat))) := fun h => by unfold transF transOk; rw [h]; simp [h0, h5, h100]
  have HN : Hid (L.all (isAttr n) = false → transF L n = []) := fun h => transF_no (by unfold transOk; rw [h]; simp)
  generalize hQ : (2 : Nat) ^ n.toNat = N at *
  have hp4 : wrap64 (2 ^ n.toNat) = N := by rw [hp, ← hp1]
  clear hp hp1 hQ
  go_enter Try.func114, Try.ntmps114
  go_wp2
  go_loopw [24] (fun i wr => ∃ k : Nat, i = .int .i64 k ∧ k ≤ L.length ∧ (L.take k).all (isAttr n) = true ∧ OwnI wr w.heap.size (.slice (some ⟨w.heap.size, 0, none⟩) 0 0) [] ∧ Below w.heap.size w wr) (fun i _ => L.length - (intOf i).toNat)
  case atStart => exact ⟨0, rfl, Nat.zero_le _, by simp, hI, hb⟩
  case round =>
    clear hI hb
    obtain ⟨k, rfl, hk, hall, hI, hb⟩ := hrel
    have HA : Hid ((L.take k).all (isAttr n) = true) := hall
    clear hall
    by_cases hlt : k < L.length
    · obtain ⟨b, off, rfl, hbs, hc⟩ := hL.at_ (by omega)
      have hc1 := cell_keep (hc k hlt) hb
      have HS : Hid ((L.take (k + 1)).all (isAttr n) = ((L.take k).all (isAttr n) && isAttr n (nth L k))) := all_take_succ _ L k hlt
      have HF : Hid (isAttr n (nth L k) = false → L.all (isAttr n) = false) := all_false _ L k hlt
      clear hc
      generalize nth L k = x at *
      cases hst : isAttr n x
      · go_wp2_with (first | (go_at_call 81; refine Calls.mono (Ans.eqb (c_isAttributes _ _ _) hst) ?_; rintro e w1 ⟨rfl, hbn⟩; replace hI := hI.keep hbn; replace hb := bel_to (w := w) (by first | exact hb | exact hb.alloc hb.size _ | exact (hb.alloc hb.size _).alloc (Nat.le_trans hb.size (by simp)) _ | exact hb.setCell (by simp [hb.size]) _) hbn; clear hbn))
        go_ret
        exact ⟨_, rfl, by rw [HN.out (HF.out hst)]; exact hI, hb⟩
      · go_wp2_with (first | (go_at_call 81; refine Calls.mono (Ans.eqb (c_isAttributes _ _ _) hst) ?_; rintro e w1 ⟨rfl, hbn⟩; replace hI := hI.keep hbn; replace hb := bel_to (w := w) (by first | exact hb | exact hb.alloc hb.size _ | exact (hb.alloc hb.size _).alloc (Nat.le_trans hb.size (by simp)) _ | exact hb.setCell (by simp [hb.size]) _) hbn; clear hbn))
        go_roundw
        case rel => exact ⟨k + 1, by go_num, by omega, by rw [HS.out, HA.out, hst]; rfl, hI, hb⟩
        case measure => simp [intOf]; omega
    · have hkk : k = L.length := by omega
      have HM : Hid (transF L n = minF (flt (hitsF L) N)) := HT.out (by have := HA.out; rw [hkk, List.take_length] at this; exact this)
      clear hkk
      go_wp2
      go_loopw [5, 8] (fun v i wr => ∃ k : Nat, i = .int .i64 k ∧ k ≤ N ∧ OwnI wr w.heap.size v (flt (hitsF L) k) ∧ Below w.heap.size w wr) (fun _ i _ => N - (intOf i).toNat)
      case atStart => exact ⟨0, rfl, Nat.zero_le _, hI, hb⟩
      case round =>
        clear hI hb
        obtain ⟨k, rfl, hk, hI, hb⟩ := hrel
        have HS : Hid (flt (hitsF L) (k + 1) = flt (hitsF L) k ++ (if hitsF L k then [(k : Int)] else [])) := flt_succ _ k
        have hle := flt_le (hitsF L) k
        by_cases hlt : k < N
        · cases hh : hitsF L (k : Int)
          · go_wp2_with (first | (go_at_call 145; refine Calls.mono (Ans.eqb (c_hits _ _ _ _ _ (hL.keep hb)) hh) ?_; rintro e w1 ⟨rfl, hbn⟩; replace hI := hI.keep hbn; replace hb := bel_to (w := w) (by first | exact hb | exact hb.alloc hb.size _ | exact (hb.alloc hb.size _).alloc (Nat.le_trans hb.size (by simp)) _ | exact hb.setCell (by simp [hb.size]) _) hbn; clear hbn))
            go_roundw
            case rel => exact ⟨k + 1, by go_num, by omega, by rw [HS.out, hh]; simpa using hI, hb⟩
            case measure => simp [intOf]; omega
          · go_wp2_with (first | (go_at_call 145; refine Calls.mono (Ans.eqb (c_hits _ _ _ _ _ (hL.keep hb)) hh) ?_; rintro e w1 ⟨rfl, hbn⟩; replace hI := hI.keep hbn; replace hb := bel_to (w := w) (by first | exact hb | exact hb.alloc hb.size _ | exact (hb.alloc hb.size _).alloc (Nat.le_trans hb.size (by simp)) _ | exact hb.setCell (by simp [hb.size]) _) hbn; clear hbn) | (at_builtin; refine wpList_append_own _ rfl _ _ 69 rfl w.heap.size 3 i0 (.int .i64 0) 1 8 Try.underlying69 hi hz0 hz1 hz2 rfl (by decide) _ _ _ rfl (World.ownsRow.alloc hI _) _ 1 1 [.int .i64 ((k : Int))] rfl rfl (by intro j u hj; match j, hj with | 0, hj => simp at hj; subst hj; simp [Addr.add]) (by intro u hu; simp at hu; subst hu; rfl) (by unfold maxLen; omega) (by omega) (by have := hb.size; simp; omega) ?_; intro v' w1 hown hgrow _; replace hb := (hb.alloc hb.size _).grown hgrow (by have := hb.size; simp; omega) (fun g hg => (World.ownsRow.lt hI g hg).1); replace hI := OwnI.snoc hown; clear hown hgrow))
            go_roundw
            case rel => exact ⟨k + 1, by go_num, by omega, by rw [HS.out, hh]; exact hI, hb⟩
            case measure => simp [intOf]; omega
        · have hkk : k = N := by omega
          have HK : Hid (k = N) := hkk
          clear hkk
          have hfr : (flt (hitsF L) k).length ≤ Room := by have := flt_le (hitsF L) k; unfold Room; omega
          obtain ⟨oF, cF, rfl, hcF, hnF⟩ := hI.cap
          have hF := hI.ints rfl hfr
          go_wp2_with fail
          refine (c_MinimalSets _ _ _ _ hF hnF).mono ?_
          rintro e w1 ⟨v1, rfl, hR, hbn⟩
          replace hR := hR.based hb.size
          replace hb := bel_to hb hbn
          clear hbn
          go_wp2
          go_ret
          exact ⟨_, rfl, by rw [HM.out, ← HK.out]; exact hR, hb⟩
set_option maxHeartbeats 800000 in
theorem c_specTransversals (oa) (cap : Nat) (L : List Int) (n : Int) (w : World) (hL : IntsAt w oa L) :
    Calls Try.prog 112 #[.slice oa L.length cap, .int .i64 n] w fun en w' => ∃ v, en = .returned v ∧ OwnI w' w.heap.size v (transF L n) ∧ Below w.heap.size w w' := by
  have hn : L.length ≤ 1073741824 := hL.len
  have hb := (Below.refl w.heap.size w).alloc (Nat.le_refl _) (.cells #[.int .i64 0] 3)
  have hI : OwnI (w.alloc (.cells #[.int .i64 0] 3)) w.heap.size (.slice (some ⟨w.heap.size, 0, none⟩) 1 1) [0] := World.ownsRow_lit w #[.int .i64 0] 1 (Nat.le_refl _) (by decide) rfl
  cases hin : inB n 0 5
  · have HM : Hid (transF L n = []) := transF_no (by unfold transOk; unfold inB at hin; rw [hin]; simp)
    go_enter Try.func112, Try.ntmps112
    go_wp2_with (first | (go_at_call 95; refine Calls.mono (Ans.eqb (c_l1In _ _ _ _) hin) ?_; rintro e w1 ⟨rfl, hbn⟩; replace hb := bel_to (w := w) (by first | exact hb | exact hb.alloc hb.size _ | exact (hb.alloc hb.size _).alloc (Nat.le_trans hb.size (by simp)) _ | exact hb.setCell (by simp [hb.size]) _) hbn; clear hbn))
    go_ret
    exact ⟨_, rfl, by rw [HM.out]; exact (OwnI.empty _ _ (Nat.le_refl _)).based hb.size, hb.alloc hb.size _⟩
  have h05 : 0 ≤ n ∧ n ≤ 5 := by unfold inB at hin; simpa using hin
  by_cases h100 : L.length ≤ 100
  case neg =>
    have HM : Hid (transF L n = []) := transF_no (by unfold transOk; simp [h100])
    go_enter Try.func112, Try.ntmps112
    go_wp2_with (first | (go_at_call 95; refine Calls.mono (Ans.eqb (c_l1In _ _ _ _) hin) ?_; rintro e w1 ⟨rfl, hbn⟩; replace hb := bel_to (w := w) (by first | exact hb | exact hb.alloc hb.size _ | exact (hb.alloc hb.size _).alloc (Nat.le_trans hb.size (by simp)) _ | exact hb.setCell (by simp [hb.size]) _) hbn; clear hbn))
    go_ret
    exact ⟨_, rfl, by rw [HM.out]; exact (OwnI.empty _ _ (Nat.le_refl _)).based hb.size, hb.alloc hb.size _⟩
  have HT : Hid (L.all (isAttr n) = true → transF L n = L.foldl growF [0]) := fun h => transF_fold (by unfold transOk; rw [h]; simp [h05.1, h05.2, h100])
  have HN : Hid (L.all (isAttr n) = false → transF L n = []) := fun h => transF_no (by unfold transOk; rw [h]; simp)
  go_enter Try.func112, Try.ntmps112
  go_wp2_with (first | (go_at_call 95; refine Calls.mono (Ans.eqb (c_l1In _ _ _ _) hin) ?_; rintro e w1 ⟨rfl, hbn⟩; replace hI := hI.keep hbn; replace hb := bel_to (w := w) (by first | exact hb | exact hb.alloc hb.size _ | exact (hb.alloc hb.size _).alloc (Nat.le_trans hb.size (by simp)) _ | exact hb.setCell (by simp [hb.size]) _) hbn; clear hbn))
  go_loopw [5, 6] (fun v i wr => ∃ k : Nat, i = .int .i64 k ∧ k ≤ L.length ∧ (L.take k).all (isAttr n) = true ∧ OwnI wr w.heap.size v ((L.take k).foldl growF [0]) ∧ ((L.take k).foldl growF [0]).length ≤ Room ∧ Below w.heap.size w wr) (fun _ i _ => L.length - (intOf i).toNat)
  case atStart => exact ⟨0, rfl, Nat.zero_le _, by simp, hI, by simp [Room], hb⟩
  case round =>
    clear hI hb
    obtain ⟨k, rfl, hk, hall, hI, hlen, hb⟩ := hrel
    have HA : Hid ((L.take k).all (isAttr n) = true) := hall
    clear hall
    by_cases hlt : k < L.length
    · obtain ⟨b, off, rfl, hbs, hc⟩ := hL.at_ (by omega)
      have hc0 := hc k hlt
      have hc1 := cell_keep hc0 hb
      have HS : Hid ((L.take (k + 1)).all (isAttr n) = ((L.take k).all (isAttr n) && isAttr n (nth L k))) := all_take_succ _ L k hlt
      have HF : Hid (isAttr n (nth L k) = false → L.all (isAttr n) = false) := all_false _ L k hlt
      have HG : Hid ((L.take (k + 1)).foldl growF [0] = growF ((L.take k).foldl growF [0]) (nth L k)) := by
        show (L.take (k + 1)).foldl growF [0] = growF ((L.take k).foldl growF [0]) (nth L k)
        rw [List.take_add_one, nth_eq hlt, List.foldl_append]; rfl
      clear hc
      generalize nth L k = x at *
      generalize (L.take k).foldl growF [0] = F at *
      cases hst : isAttr n x
      · go_wp2_with (first | (go_at_call 76; refine Calls.mono (Ans.eqb (c_specIsAttributes _ _ _) hst) ?_; rintro e w1 ⟨rfl, hbn⟩; replace hb := bel_to (w := w) (by first | exact hb | exact hb.alloc hb.size _ | exact (hb.alloc hb.size _).alloc (Nat.le_trans hb.size (by simp)) _ | exact hb.setCell (by simp [hb.size]) _) hbn; clear hbn))
        go_ret
        exact ⟨_, rfl, by rw [HN.out (HF.out hst)]; exact (OwnI.empty _ _ (Nat.le_refl _)).based hb.size, hb.alloc hb.size _⟩
      · obtain ⟨oF, cF, rfl⟩ := hI.shape
        go_wp2_with (first | (go_at_call 76; refine Calls.mono (Ans.eqb (c_specIsAttributes _ _ _) hst) ?_; rintro e w1 ⟨rfl, hbn⟩; replace hc1 := cell_keep hc1 hbn; replace hI := hI.keep hbn; replace hb := bel_to (w := w) (by first | exact hb | exact hb.alloc hb.size _ | exact (hb.alloc hb.size _).alloc (Nat.le_trans hb.size (by simp)) _ | exact hb.setCell (by simp [hb.size]) _) hbn; clear hbn))
        refine (c_specGrowTransversals _ _ _ _ _ (hI.ints rfl hlen)).mono ?_
        rintro en w1 ⟨v1, rfl, hR, hbn⟩
        replace hR := hR.based hb.size
        replace hb := bel_to hb hbn
        clear hbn hI
        go_wp2
        go_roundw
        case rel => exact ⟨k + 1, by go_num, by omega, by rw [HS.out, HA.out, hst]; rfl, by rw [HG.out]; exact hR, by rw [HG.out]; exact growF_len _ _, hb⟩
        case measure => simp [intOf]; omega
    · have hkk : k = L.length := by omega
      have HM : Hid (transF L n = (L.take k).foldl growF [0]) := by
        have h1 := HA.out
        rw [hkk, List.take_length] at h1
        show transF L n = (L.take k).foldl growF [0]
        rw [hkk, List.take_length]
        exact HT.out h1
      clear hkk
      go_wp2
      go_ret
      exact ⟨_, rfl, by rw [HM.out]; exact hI, hb⟩
end Go.Proofs.Ytkanbnbofoabeaa
