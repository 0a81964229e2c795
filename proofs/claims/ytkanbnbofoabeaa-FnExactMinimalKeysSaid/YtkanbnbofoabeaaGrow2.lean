/- GrowTransversals of the reference. -/
import Derived.Test.YtkanbnbofoabeaaGrow
import Derived.Deep.RegionHeld3
namespace Go.Proofs.Ytkanbnbofoabeaa
open Go.RowKit
set_option linter.unusedVariables false
set_option maxRecDepth 100000

theorem one_wrap : ∀ j < 5, one ((j : Nat) : Int) = IntKind.i64.wrap (2 ^ j) := by decide +kernel
theorem putF_take {L : List Int} (h : ∀ x ∈ L, St x) {k : Nat} (hk : k < L.length) : flt (inB' (L.take (k + 1))) 32 = putF (flt (inB' (L.take k)) 32) (nth L k) := by
  rw [putF_flt _ (h _ (List.mem_iff_getElem?.2 ⟨k, nth_eq hk⟩))]
  congr 1
  funext y
  unfold inB'
  rw [List.take_add_one, nth_eq hk]
  simp [Bool.decide_or]
  rfl
set_option maxHeartbeats 1600000 in
theorem c_specGrowTransversals (oa) (cap : Nat) (L : List Int) (e : Int) (w : World) (hL : IntsAt w oa L) :
    Calls Try.prog 143 #[.slice oa L.length cap, .int .i64 e] w fun en w' => ∃ v, en = .returned v ∧ OwnI w' w.heap.size v (growF L e) ∧ Below w.heap.size w w' := by
  obtain ⟨i0, hi, hz0, hz1, hz2⟩ := info_parts info_int
  have hn : L.length ≤ 1073741824 := hL.len
  have hb := (Below.refl w.heap.size w).alloc (Nat.le_refl _) (.cells #[] 3)
  have hI := OwnI.empty w w.heap.size (Nat.le_refl _)
  cases hs : (setsF L && decide (L.length ≤ 100))
  · have HM : Hid (growF L e = []) := by show growF L e = []; unfold growF growOk; rw [hs]; rfl
    go_enter Try.func143, Try.ntmps143
    go_wp2_with (first | (go_at_call 138; refine Calls.mono (Ans.eqb (c_l4Sets _ _ _ _ (hL.keep hb)) hs) ?_; rintro e w1 ⟨rfl, hbn⟩; replace hI := hI.keep hbn; replace hb := bel_to (w := w) (by first | exact hb | exact hb.alloc hb.size _ | exact (hb.alloc hb.size _).alloc (Nat.le_trans hb.size (by simp)) _ | exact hb.setCell (by simp [hb.size]) _) hbn; clear hbn))
    go_ret
    exact ⟨_, rfl, by rw [HM.out]; exact hI, hb⟩
  · cases he : stB e
    · have HM : Hid (growF L e = []) := by show growF L e = []; unfold growF growOk; rw [hs, he]; rfl
      go_enter Try.func143, Try.ntmps143
      go_wp2_with (first | (go_at_call 138; refine Calls.mono (Ans.eqb (c_l4Sets _ _ _ _ (hL.keep hb)) hs) ?_; rintro e w1 ⟨rfl, hbn⟩; replace hI := hI.keep hbn; replace hb := bel_to (w := w) (by first | exact hb | exact hb.alloc hb.size _ | exact (hb.alloc hb.size _).alloc (Nat.le_trans hb.size (by simp)) _ | exact hb.setCell (by simp [hb.size]) _) hbn; clear hbn) | (go_at_call 157; refine Calls.mono (Ans.eqb (c_l2Valid _ _) he) ?_; rintro e w1 ⟨rfl, hbn⟩; replace hI := hI.keep hbn; replace hb := bel_to (w := w) (by first | exact hb | exact hb.alloc hb.size _ | exact (hb.alloc hb.size _).alloc (Nat.le_trans hb.size (by simp)) _ | exact hb.setCell (by simp [hb.size]) _) hbn; clear hbn))
      go_ret
      exact ⟨_, rfl, by rw [HM.out]; exact hI, hb⟩
    · have hs' : setsF L = true ∧ L.length ≤ 100 := by simpa using hs
      have hsm := setsF_mem hs'.1
      have HM : Hid (growF L e = minF (distinctF (grownF L e))) := by show growF L e = _; unfold growF growOk; rw [hs, he]; rfl
      go_enter Try.func143, Try.ntmps143
      go_wp2_with (first | (go_at_call 138; refine Calls.mono (Ans.eqb (c_l4Sets _ _ _ _ (hL.keep hb)) hs) ?_; rintro e w1 ⟨rfl, hbn⟩; replace hI := hI.keep hbn; replace hb := bel_to (w := w) (by first | exact hb | exact hb.alloc hb.size _ | exact (hb.alloc hb.size _).alloc (Nat.le_trans hb.size (by simp)) _ | exact hb.setCell (by simp [hb.size]) _) hbn; clear hbn) | (go_at_call 157; refine Calls.mono (Ans.eqb (c_l2Valid _ _) he) ?_; rintro e w1 ⟨rfl, hbn⟩; replace hI := hI.keep hbn; replace hb := bel_to (w := w) (by first | exact hb | exact hb.alloc hb.size _ | exact (hb.alloc hb.size _).alloc (Nat.le_trans hb.size (by simp)) _ | exact hb.setCell (by simp [hb.size]) _) hbn; clear hbn))
      go_loopw [5, 6] (fun v i wr => ∃ k : Nat, i = .int .i64 k ∧ k ≤ L.length ∧ OwnI wr w.heap.size v (grownF (L.take k) e) ∧ Below w.heap.size w wr) (fun _ i _ => L.length - (intOf i).toNat)
      case atStart => exact ⟨0, rfl, Nat.zero_le _, by simpa [grownF] using hI, hb⟩
      case round =>
        clear hI hb
        obtain ⟨k, rfl, hk, hI, hb⟩ := hrel
        by_cases hlt : k < L.length
        · have HS : Hid (grownF (L.take (k + 1)) e = grownF (L.take k) e ++ growOne e (nth L k)) := grown_succ e hlt
          have hfl : (grownF (L.take k) e).length ≤ 500 := by
            have := grown_len e (L.take k)
            rw [List.length_take] at this
            omega
          obtain ⟨b, off, rfl, hbs, hc⟩ := hL.at_ (by omega)
          have hc0 := hc k hlt
          have hc1 := cell_keep hc0 hb
          clear hc
          generalize nth L k = x at *
          generalize grownF (L.take k) e = F at *
          cases hap : (bits BinOp.and .i64 x e == 0)
          · have hap2 : (bits BinOp.and .i64 x e != 0) = true := by rw [bneI, hap]; rfl
            have HG : Hid (growOne e x = [x]) := by show growOne e x = [x]; unfold growOne apart; rw [hap]; rfl
            go_wp2_with (first | (at_builtin; refine wpList_append_own _ rfl _ _ 69 rfl w.heap.size 3 i0 (.int .i64 0) 1 8 Try.underlying69 hi hz0 hz1 hz2 rfl (by decide) _ _ _ rfl (World.ownsRow.alloc hI _) _ 1 1 [.int .i64 (x)] rfl rfl (by intro j u hj; match j, hj with | 0, hj => simp at hj; subst hj; simp [Addr.add]) (by intro u hu; simp at hu; subst hu; rfl) (by unfold maxLen; omega) (by omega) (by have := hb.size; simp; omega) ?_; intro v' w1 hown hgrow _; replace hb := (hb.alloc hb.size _).grown hgrow (by have := hb.size; simp; omega) (fun g hg => (World.ownsRow.lt hI g hg).1); replace hI := OwnI.snoc hown; clear hown hgrow) | fail)
            go_roundw
            case rel => exact ⟨k + 1, by go_num, by omega, by rw [HS.out, HG.out]; exact hI, hb⟩
            case measure => simp [intOf]; omega
          · have hap2 : (bits BinOp.and .i64 x e != 0) = false := by rw [bneI, hap]; rfl
            have HG : Hid (growOne e x = (membersF e).map (fun c => uni x (one c))) := by show growOne e x = _; unfold growOne apart; rw [hap]; rfl
            have hme : membersF e = membersUpTo e 5 := by unfold membersF; rw [he]; rfl
            rw [hme] at HG
            clear hme
            go_wp2
            go_loopw [5, 7] (fun v i wr => ∃ j : Nat, i = .int .i64 j ∧ j ≤ 5 ∧ OwnI wr w.heap.size v (F ++ (membersUpTo e j).map (fun c => uni x (one c))) ∧ Below w.heap.size w wr) (fun _ i _ => 5 - (intOf i).toNat)
            case atStart => exact ⟨0, rfl, Nat.zero_le _, by simpa [membersUpTo] using hI, hb⟩
            case round =>
              clear hI hc1 hb
              obtain ⟨j, rfl, hj, hI, hb⟩ := hrel
              have hc1 := cell_keep hc0 hb
              by_cases hlj : j < 5
              · have HT : Hid (membersUpTo e (j + 1) = membersUpTo e j ++ (if hasc e j then [(j : Int)] else [])) := membersUpTo_succ e j
                have hml := membersUpTo_le e j
                have hfl2 : (F ++ (membersUpTo e j).map (fun c => uni x (one c))).length ≤ 505 := by rw [List.length_append, List.length_map]; omega
                cases hh : hasc e j
                · have hh2 : (bits BinOp.and IntKind.i64 (e / 2 ^ j) 1 == 1) = false := hh
                  go_wp2
                  go_roundw
                  case rel => exact ⟨j + 1, by go_num, by omega, by rw [HT.out, hh]; simpa using hI, hb⟩
                  case measure => simp [intOf]; omega
                · have hh2 : (bits BinOp.and IntKind.i64 (e / 2 ^ j) 1 == 1) = true := hh
                  have HA : Hid (F ++ (membersUpTo e j).map (fun c => uni x (one c)) ++ [uni x (one j)] = F ++ (membersUpTo e (j + 1)).map (fun c => uni x (one c))) := by
                    show F ++ (membersUpTo e j).map (fun c => uni x (one c)) ++ [uni x (one j)] = F ++ (membersUpTo e (j + 1)).map (fun c => uni x (one c))
                    rw [HT.out, hh, List.append_assoc]; simp
                  have HW : Hid (uni x (one (j : Int)) = bits BinOp.or IntKind.i64 x (IntKind.i64.wrap (2 ^ j))) := (by show uni x (one (j : Int)) = bits BinOp.or IntKind.i64 x (IntKind.i64.wrap (2 ^ j)); unfold uni; rw [one_wrap j hlj])
                  clear HT
                  generalize F ++ (membersUpTo e j).map (fun c => uni x (one c)) = F2 at *
                  go_wp2_with fail
                  go_region_held3 (fun w' => Below w.heap.size w w' ∧ OwnI w' w.heap.size u5 F2 ∧ w'.cell? ⟨b, off + k, none⟩ = some (.int .i64 x))
                    (first | exact hS2 | (rename_i hS _ _; exact ⟨hS.1.alloc hS.1.size _, World.ownsRow.alloc hS.2.1 _, cell_keep hS.2.2 ((Below.refl _ _).alloc (Nat.le_refl _) _)⟩) | exact ⟨hb.drew, hI.keep (Below.refl _ _).drew, cell_keep hc1 (Below.refl _ _).drew⟩ | exact ⟨(hb.alloc hb.size _).drew, (OwnI.keep (World.ownsRow.alloc hI _) (Below.refl _ _).drew), cell_keep (cell_keep hc1 ((Below.refl _ _).alloc (Nat.le_refl _) _)) (Below.refl _ _).drew⟩)
                    (first
                      | (rename_i hS _ _; go_loud (refine step_append_held _ (by rfl) _ _ 69 (by rfl) w.heap.size 3 i0 (.int .i64 0) 1 8 Try.underlying69 hi hz0 hz1 hz2 rfl (by decide) u5 _ _ (by rfl) hS.2.1 _ 1 1 [.int .i64 (bits BinOp.or .i64 x (IntKind.i64.wrap (2 ^ j)))] (by rfl) rfl (by intro j u hj; match j, hj with | 0, hj => simp at hj; subst hj; simp [Addr.add]) (by intro u hu; simp at hu; subst hu; rfl) (by unfold maxLen; omega) (by omega) hS.1.size ?_); intro v2 w2 hown hold hgrow hfr; have hS2 := (show _ ∧ _ ∧ _ from ⟨hS.1.grown hgrow hS.1.size (fun g hg => (World.ownsRow.lt hS.2.1 g hg).1), hold, hgrow.cell hS.2.2 (fun e => absurd (World.ownsRow.lt hS.2.1 _ e.symm).1 (by simp; omega))⟩); have hO := OwnI.snoc hown; clear hown hold hgrow hfr)
                      | fail)
                  rename_i hS
                  replace hb := hS.1
                  have HI := (show Hid _ from hO)
                  clear hO hS
                  go_wp2
                  go_roundw
                  case rel => exact ⟨j + 1, by go_num, by omega, by rw [← HA.out, HW.out]; exact HI.out, hb⟩
                  case measure => simp [intOf]; omega
              · have hjj : j = 5 := by omega
                have HA : Hid (F ++ (membersUpTo e j).map (fun c => uni x (one c)) = F ++ (membersUpTo e 5).map (fun c => uni x (one c))) := by
                  show F ++ (membersUpTo e j).map (fun c => uni x (one c)) = F ++ (membersUpTo e 5).map (fun c => uni x (one c))
                  rw [hjj]
                have HJ : Hid (j = 5) := hjj
                clear hjj
                go_wp2
                go_roundw
                case rel => exact ⟨k + 1, by go_num, by omega, by rw [HS.out, HG.out, ← HA.out]; exact hI, hb⟩
                case measure => simp [intOf]; omega
        · have hkk : k = L.length := by omega
          have HF : Hid (grownF (L.take k) e = grownF L e) := by show grownF (L.take k) e = grownF L e; rw [hkk, List.take_length]
          have hfl : (grownF (L.take k) e).length ≤ 500 := by
            have := grown_len e (L.take k)
            rw [List.length_take] at this
            omega
          have hgs : ∀ y ∈ grownF (L.take k) e, St y := by rw [HF.out]; exact grown_st hsm
          have HD : Hid (distinctF (grownF (L.take k) e) = flt (inB' (grownF (L.take k) e)) 32) := distinctF_flt hgs
          rw [← HF.out] at HM
          clear hkk HF
          generalize grownF (L.take k) e = G at *
          obtain ⟨oG, cG, rfl⟩ := hI.shape
          have hGr : G.length ≤ Room := by unfold Room; omega
          go_wp2
          go_loopw [8, 9] (fun v i wr => ∃ j : Nat, i = .int .i64 j ∧ j ≤ G.length ∧ OwnI wr w.heap.size v (flt (inB' (G.take j)) 32) ∧ OwnI wr w.heap.size (.slice oG G.length cG) G ∧ Below w.heap.size w wr) (fun _ i _ => G.length - (intOf i).toNat)
          case atStart =>
            have e0 : flt (inB' (G.take 0)) 32 = [] := by unfold flt inB'; simp
            exact ⟨0, rfl, Nat.zero_le _, by rw [e0]; exact (OwnI.empty _ _ (Nat.le_refl _)).based hb.size, World.ownsRow.alloc hI _, hb.alloc hb.size _⟩
          case round =>
            clear hI hb
            obtain ⟨j, rfl, hj, hP, hI, hb⟩ := hrel
            have hfl3 := flt_le (inB' (G.take j)) 32
            by_cases hlj : j < G.length
            · have HT : Hid (flt (inB' (G.take (j + 1))) 32 = putF (flt (inB' (G.take j)) 32) (nth G j)) := putF_take hgs hlj
              obtain ⟨b2, off2, rfl, hbs2, hca⟩ := (hI.ints rfl hGr).at_ (by omega)
              have hc2 := hca j hlj
              clear hca
              generalize nth G j = y at *
              generalize flt (inB' (G.take j)) 32 = P at *
              obtain ⟨oP, cP, rfl⟩ := hP.shape
              go_wp2_with fail
              refine (c_l4Put _ _ _ _ _ _ (by omega) hP hb.size).mono ?_
              rintro en w1 ⟨v1, rfl, hP1, hbn⟩
              replace hb := bel_to hb hbn
              replace hI := hI.keep hbn
              clear hbn hP
              go_wp2
              go_roundw
              case rel => exact ⟨j + 1, by go_num, by omega, by rw [HT.out]; exact hP1, hI, hb⟩
              case measure => simp [intOf]; omega
            · have hjj : j = G.length := by omega
              have HE : Hid (flt (inB' (G.take j)) 32 = distinctF G) := by show flt (inB' (G.take j)) 32 = distinctF G; rw [HD.out, hjj, List.take_length]
              clear hjj
              obtain ⟨oP, cP, rfl⟩ := hP.shape
              have hPr : (flt (inB' (G.take j)) 32).length ≤ Room := by unfold Room; omega
              go_wp2_with fail
              refine (c_specMinimalSets _ _ _ _ (hP.ints rfl hPr)).mono ?_
              rintro en w1 ⟨v1, rfl, hR, hbn⟩
              replace hR := hR.based hb.size
              replace hb := bel_to hb hbn
              go_wp2
              go_ret
              exact ⟨_, rfl, by rw [HM.out, ← HE.out]; exact hR, hb⟩
end Go.Proofs.Ytkanbnbofoabeaa
