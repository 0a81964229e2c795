/- CoverOf of the reference. -/
import Derived.Test.YtmdkbookcgkpaaaCover
namespace Go.Proofs.Ytmdkbookcgkpaaa
open Go.RowKit
set_option linter.unusedVariables false
set_option maxRecDepth 100000

theorem OwnD.snoc {w : World} {base : Nat} {v : Value} {A : List (Int × Int)} {l r : Int} (h : w.ownsRow base 36 2 v (A.length + 1) (dcells A ++ [.int .i64 l, .int .i64 r])) : OwnD w base v (A ++ [(l, r)]) := OwnD.joined (B := [(l, r)]) h

set_option maxHeartbeats 3200000 in
theorem c_specCoverOf (n : Int) (oa) (cap : Nat) (D : List (Int × Int)) (w : World) (hD : DepsAt w oa D) :
    Calls Try.prog 55 #[.int .i64 n, .slice oa D.length cap] w fun e w' => ∃ v, e = .returned v ∧ OwnD w' w.heap.size v (coverOfF n D) ∧ Below w.heap.size w w' := by
  obtain ⟨i0, hi, hz0, hz1, hz2⟩ := info_parts info_dep
  have hn : D.length ≤ 1073741824 := hD.len
  have hb := (Below.refl w.heap.size w).alloc (Nat.le_refl _) (.cells #[] 36)
  have hI := OwnD.empty w w.heap.size (Nat.le_refl _)
  cases ha : areDepsF n D
  · have HM : Hid (coverOfF n D = []) := by unfold coverOfF; rw [ha]; rfl
    go_enter Try.func55, Try.ntmps55
    go_wp2_with (first | (go_at_call 20; refine Calls.mono (c_specAreDeps _ _ _ _ _ (hD.keep hb)) ?_; rintro e w1 ⟨rfl, hbn⟩; replace hI := hI.keep hbn; replace hb := bel_to (w := w) (by first | exact hb | exact hb.alloc hb.size _ | exact (hb.alloc hb.size _).alloc (Nat.le_trans hb.size (by simp)) _ | exact hb.setCell (by simp [hb.size]) _) hbn; clear hbn))
    go_ret
    exact ⟨_, rfl, by rw [HM.out]; exact hI, hb⟩
  · have HM : Hid (coverOfF n D = pruneF n (dstF n D D.length).length (dstF n D D.length) 0) := by unfold coverOfF; rw [ha]; rfl
    go_enter Try.func55, Try.ntmps55
    go_wp2_with (first | (go_at_call 20; refine Calls.mono (c_specAreDeps _ _ _ _ _ (hD.keep hb)) ?_; rintro e w1 ⟨rfl, hbn⟩; replace hI := hI.keep hbn; replace hb := bel_to (w := w) (by first | exact hb | exact hb.alloc hb.size _ | exact (hb.alloc hb.size _).alloc (Nat.le_trans hb.size (by simp)) _ | exact hb.setCell (by simp [hb.size]) _) hbn; clear hbn))
    go_loopw [5, 6] (fun v i wr => ∃ k : Nat, i = .int .i64 k ∧ k ≤ D.length ∧ OwnD wr w.heap.size v (dstF n D k) ∧ Below w.heap.size w wr) (fun _ i _ => D.length - (intOf i).toNat)
    case atStart => exact ⟨0, rfl, Nat.zero_le _, hI, hb⟩
    case round =>
      clear hI hb
      obtain ⟨k, rfl, hk, hI, hb⟩ := hrel
      have HS : Hid (k < D.length → dstF n D (k + 1) = addF n D (dstF n D k) (nl D k, nr D k)) := dstF_succ
      have hle := dstF_len n D k hk
      by_cases hlt : k < D.length
      · obtain ⟨b, off, rfl, hbs, hc⟩ := hD.at_ (by omega)
        have hc1 := cell_keep (hc k hlt).1 hb
        have hc2 := cell_keep (hc k hlt).2 hb
        have HS2 := HS.out hlt
        clear hc HS
        generalize hA : dstF n D k = A at *
        generalize hx : reduceF n D (nl D k) (nr D k) = x at *
        have HS0 : dstF n D (k + 1) = if A.contains (x, nr D k) then A else A ++ [(x, nr D k)] := by rw [HS2]; unfold addF; simp only [hx]
        have HS : Hid (_) := HS0
        clear HS0
        clear HS2
        obtain ⟨o1, c1, rfl⟩ := hI.shape
        go_wp2_with fail
        refine Calls.mono (c_specReduceLeft _ _ _ _ _ _ _ (hD.keep hb)) ?_
        rintro e w1 ⟨rfl, hbn⟩
        rw [hx]
        replace hI := hI.keep hbn
        replace hb := bel_to hb hbn
        clear hbn hc1 hc2
        have hbx := (Below.refl w1.heap.size w1).alloc (Nat.le_refl _) (.cells #[.int .i64 x, .int .i64 (nr D k)] 36)
        have hI2 := hI.keep hbx
        have hb2 := bel_to hb hbx
        have k0 := Blk.new w1 #[.int .i64 x, .int .i64 (nr D k)] 36
        clear hI hb hbx
        go_wp2
        go_loopw [8, 9] (fun f j wr => ∃ m : Nat, j = .int .i64 m ∧ m ≤ A.length ∧ f = .bool ((A.take m).contains (x, nr D k)) ∧ Blk wr w1.heap.size #[.int .i64 x, .int .i64 (nr D k)] 36 ∧ OwnD wr w.heap.size (.slice o1 A.length c1) A ∧ Below w.heap.size w wr) (fun _ j _ => A.length - (intOf j).toNat)
        case atStart => exact ⟨0, rfl, Nat.zero_le _, by simp, k0, hI2, hb2⟩
        case round =>
          clear hI2 hb2 k0
          obtain ⟨m, rfl, hm, rfl, k0, hI, hb⟩ := hrel
          by_cases hml : m < A.length
          · have HT : Hid ((A.take (m + 1)).contains (x, nr D k) = ((A.take m).contains (x, nr D k) || (nl A m == x && nr A m == nr D k))) := contains_succ hml (x, nr D k)
            obtain ⟨b2, off2, rfl, hbs2, hc2⟩ := (hI.deps rfl (by unfold Room; omega)).at_ (by omega)
            have f0 := (hc2 m hml).1
            have f1 := (hc2 m hml).2
            have g0 := k0.cell 0 _ rfl
            have g1 := k0.cell 1 _ rfl
            clear hc2 HS HM
            generalize hB : (A.take m).contains (x, nr D k) = B at *
            cases B
            · cases e1 : (nl A m == x)
              · go_wp2_with fail
                (refine wp_region_after (by kernel_rfl) (by kernel_rfl) ?_; have q_f0 := fun (x : After _) => cell_keep f0 x.bel; have q_f1 := fun (x : After _) => cell_keep f1 x.bel; have q_g0 := fun (x : After _) => cell_keep g0 x.bel; have q_g1 := fun (x : After _) => cell_keep g1 x.bel; (repeat (go_big_quiet_step (fail))); clear q_f0; clear q_f1; clear q_g0; clear q_g1; refine wpQuiet_nil ?_; rintro _ ⟨⟨w1, hbn⟩, rfl⟩; (try simp only [After.w]); replace f0 := cell_keep f0 hbn; replace f1 := cell_keep f1 hbn; replace g0 := cell_keep g0 hbn; replace g1 := cell_keep g1 hbn; replace k0 := k0.keep hbn; replace hI := hI.keep hbn; replace hb := bel_to (w := w) (by first | exact hb | exact hb.alloc hb.size _ | exact (hb.alloc hb.size _).alloc (Nat.le_trans hb.size (by simp)) _ | exact hb.setCell (by simp [hb.size]) _) hbn; clear hbn)
                go_wp2
                go_roundw
                case rel => exact ⟨m + 1, by go_num, by omega, by rw [HT.out, e1]; rfl, k0, hI, hb⟩
                case measure => simp [intOf]; omega
              · cases e2 : (nr A m == nr D k)
                · go_wp2_with fail
                  (refine wp_region_after (by kernel_rfl) (by kernel_rfl) ?_; have q_f0 := fun (x : After _) => cell_keep f0 x.bel; have q_f1 := fun (x : After _) => cell_keep f1 x.bel; have q_g0 := fun (x : After _) => cell_keep g0 x.bel; have q_g1 := fun (x : After _) => cell_keep g1 x.bel; (repeat (go_big_quiet_step (fail))); clear q_f0; clear q_f1; clear q_g0; clear q_g1; refine wpQuiet_nil ?_; rintro _ ⟨⟨w1, hbn⟩, rfl⟩; (try simp only [After.w]); replace f0 := cell_keep f0 hbn; replace f1 := cell_keep f1 hbn; replace g0 := cell_keep g0 hbn; replace g1 := cell_keep g1 hbn; replace k0 := k0.keep hbn; replace hI := hI.keep hbn; replace hb := bel_to (w := w) (by first | exact hb | exact hb.alloc hb.size _ | exact (hb.alloc hb.size _).alloc (Nat.le_trans hb.size (by simp)) _ | exact hb.setCell (by simp [hb.size]) _) hbn; clear hbn)
                  go_wp2
                  go_roundw
                  case rel => exact ⟨m + 1, by go_num, by omega, by rw [HT.out, e1, e2]; rfl, k0, hI, hb⟩
                  case measure => simp [intOf]; omega
                · go_wp2_with fail
                  (refine wp_region_after (by kernel_rfl) (by kernel_rfl) ?_; have q_f0 := fun (x : After _) => cell_keep f0 x.bel; have q_f1 := fun (x : After _) => cell_keep f1 x.bel; have q_g0 := fun (x : After _) => cell_keep g0 x.bel; have q_g1 := fun (x : After _) => cell_keep g1 x.bel; (repeat (go_big_quiet_step (fail))); clear q_f0; clear q_f1; clear q_g0; clear q_g1; refine wpQuiet_nil ?_; rintro _ ⟨⟨w1, hbn⟩, rfl⟩; (try simp only [After.w]); replace f0 := cell_keep f0 hbn; replace f1 := cell_keep f1 hbn; replace g0 := cell_keep g0 hbn; replace g1 := cell_keep g1 hbn; replace k0 := k0.keep hbn; replace hI := hI.keep hbn; replace hb := bel_to (w := w) (by first | exact hb | exact hb.alloc hb.size _ | exact (hb.alloc hb.size _).alloc (Nat.le_trans hb.size (by simp)) _ | exact hb.setCell (by simp [hb.size]) _) hbn; clear hbn)
                  go_wp2
                  go_roundw
                  case rel => exact ⟨m + 1, by go_num, by omega, by rw [HT.out, e1, e2]; rfl, k0, hI, hb⟩
                  case measure => simp [intOf]; omega
            · go_wp2_with fail
              (refine wp_region_after (by kernel_rfl) (by kernel_rfl) ?_; have q_f0 := fun (x : After _) => cell_keep f0 x.bel; have q_f1 := fun (x : After _) => cell_keep f1 x.bel; have q_g0 := fun (x : After _) => cell_keep g0 x.bel; have q_g1 := fun (x : After _) => cell_keep g1 x.bel; (repeat (go_big_quiet_step (fail))); clear q_f0; clear q_f1; clear q_g0; clear q_g1; refine wpQuiet_nil ?_; rintro _ ⟨⟨w1, hbn⟩, rfl⟩; (try simp only [After.w]); replace f0 := cell_keep f0 hbn; replace f1 := cell_keep f1 hbn; replace g0 := cell_keep g0 hbn; replace g1 := cell_keep g1 hbn; replace k0 := k0.keep hbn; replace hI := hI.keep hbn; replace hb := bel_to (w := w) (by first | exact hb | exact hb.alloc hb.size _ | exact (hb.alloc hb.size _).alloc (Nat.le_trans hb.size (by simp)) _ | exact hb.setCell (by simp [hb.size]) _) hbn; clear hbn)
              go_wp2
              go_roundw
              case rel => exact ⟨m + 1, by go_num, by omega, by rw [HT.out]; rfl, k0, hI, hb⟩
              case measure => simp [intOf]; omega
          · have hmm : m = A.length := by omega
            subst hmm
            rw [List.take_length]
            have g0 := k0.cell 0 _ rfl
            have g1 := k0.cell 1 _ rfl
            cases hB : A.contains (x, nr D k)
            · have HV : Hid (dstF n D (k + 1) = A ++ [(x, nr D k)]) := by have := HS.out; rw [hB] at this; exact this
              clear HS HM hB k0
              go_wp2_with (first | (at_builtin; refine wpList_append_own _ rfl _ _ 29 rfl w.heap.size 36 i0 (.agg #[.int .i64 0, .int .i64 0]) 2 16 Try.underlying29 hi hz0 hz1 hz2 rfl (by decide) _ _ _ rfl (World.ownsRow.alloc hI _) _ 1 1 [.int .i64 (x), .int .i64 (nr D k)] rfl rfl (World.news_of_block (cs := #[.int .i64 (x), .int .i64 (nr D k)]) (t := 36) (fr := (0, 0)) (heap_alloc_new _ _)) (by intro u hu; simp at hu; rcases hu with rfl | rfl <;> rfl) (by unfold maxLen; omega) (by omega) (by have := hb.size; simp; omega) ?_; intro v' w1 hown hgrow _; replace hb := (hb.alloc hb.size _).grown hgrow (by have := hb.size; simp; omega) (fun g hg => (World.ownsRow.lt hI g hg).1); replace hI := OwnD.snoc hown; clear hown hgrow))
              go_roundw
              case rel => exact ⟨k + 1, by go_num, by omega, by rw [HV.out]; exact hI, hb⟩
              case measure => simp [intOf]; omega
            · have HV : Hid (dstF n D (k + 1) = A) := by have := HS.out; rw [hB] at this; exact this
              clear HS HM hB k0 g0 g1
              go_wp2_with fail
              go_roundw
              case rel => exact ⟨k + 1, by go_num, by omega, by rw [HV.out]; exact hI, hb⟩
              case measure => simp [intOf]; omega
      · have hkk : k = D.length := by omega
        subst hkk
        have hle2 := dstF_len n D D.length (Nat.le_refl _)
        clear HS hle
        generalize hL : dstF n D D.length = L at *
        clear hL
        obtain ⟨o1, c1, rfl⟩ := hI.shape
        go_wp2_with fail
        go_loopw [5, 10] (fun v i wr => ∃ (A : List (Int × Int)) (m : Nat), i = .int .i64 m ∧ m ≤ A.length ∧ A.length ≤ D.length ∧ pruneF n (A.length - m) A m = coverOfF n D ∧ OwnD wr w.heap.size v A ∧ Below w.heap.size w wr) (fun v i _ => slen v - (intOf i).toNat)
        case atStart => exact ⟨L, 0, rfl, Nat.zero_le _, hle2, HM.out.symm, hI, hb⟩
        case round =>
          clear hI hb hle2 HM
          obtain ⟨A, m, rfl, hm, hAl, hP, hI, hb⟩ := hrel
          have HP : Hid (pruneF n (A.length - m) A m = coverOfF n D) := hP
          clear hP
          obtain ⟨o2, c2, rfl, hcp, hnl⟩ := hI.cap
          by_cases hml : m < A.length
          · have hD2 := hI.deps rfl (by unfold Room; omega)
            obtain ⟨b2, off2, rfl, hbs2, hc2⟩ := hD2.at_ (by omega)
            have f0 := (hc2 m hml).1
            have f1 := (hc2 m hml).2
            have hle2 : (eraD A m).length ≤ Room := by rw [eraD_len hml]; unfold Room; omega
            have hel : Hid ((eraD A m).length = A.length - 1) := eraD_len hml
            clear hc2 hnl
            go_wp2_with fail
            refine (c_l11Without _ _ _ _ _ hD2 hcp hml).mono ?_
            rintro e w1 ⟨v1, rfl, hO, hbn⟩
            replace f0 := cell_keep f0 hbn
            replace f1 := cell_keep f1 hbn
            replace hO := hO.based hb.size
            replace hI := hI.keep hbn
            replace hb := bel_to hb hbn
            clear hD2 hbn
            obtain ⟨o3, c3, rfl⟩ := hO.shape
            cases himp : impliesDepF n (eraD A m) (nl A m) (nr A m)
            · have HQ : Hid (pruneF n (A.length - (m + 1)) A (m + 1) = coverOfF n D) := by rw [← pruneF_keep hml himp]; exact HP.out
              clear HP
              go_wp2_with fail
              refine Calls.mono (Ans.eqb (c_specImpliesDep _ _ _ _ _ _ _ (hO.deps rfl hle2)) himp) ?_
              rintro e w2 ⟨rfl, hbn⟩
              replace hI := hI.keep hbn
              replace hb := bel_to hb hbn
              clear hbn f0 f1 hO himp
              go_wp2
              go_roundw
              case rel => exact ⟨A, m + 1, by go_num, by omega, hAl, HQ.out, hI, hb⟩
              case measure => simp [slen, intOf]; omega
            · have HQ : Hid (pruneF n ((eraD A m).length - m) (eraD A m) m = coverOfF n D) := by rw [← pruneF_del hml himp]; exact HP.out
              clear HP
              go_wp2_with fail
              refine Calls.mono (Ans.eqb (c_specImpliesDep _ _ _ _ _ _ _ (hO.deps rfl hle2)) himp) ?_
              rintro e w2 ⟨rfl, hbn⟩
              replace hO := hO.keep hbn
              replace hb := bel_to hb hbn
              clear hbn f0 f1 hI himp
              go_wp2
              go_roundw
              case rel => exact ⟨eraD A m, m, by go_num, by have := hel.out; omega, by have := hel.out; omega, HQ.out, hO, hb⟩
              case measure => have := hel.out; simp [slen, intOf]; omega
          · have HQ : Hid (A = coverOfF n D) := by rw [← HP.out]; exact (pruneF_end (by omega) _).symm
            clear HP
            go_wp2
            go_ret
            exact ⟨_, rfl, by rw [← HQ.out]; exact hI, hb⟩
end Go.Proofs.Ytmdkbookcgkpaaa
