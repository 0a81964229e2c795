/- Contracts and lemmas for FnArmstrong, part 5 of 7. -/
import Derived.Test.YtjbmpnbfiahdhaaQFnArmstrong1
import Derived.Test.YtjbmpnbfiahdhaaQFnArmstrong2
import Derived.Test.YtjbmpnbfiahdhaaQFnArmstrong3
import Derived.Test.YtjbmpnbfiahdhaaQFnArmstrong4
import Derived.Deep.CutRange
import Derived.Deep.AppendLies
import Derived.ProofKit
import Derived.OpenShut
import Derived.Lib.SmallJoins
import Derived.BigRegion
import Derived.RegionTactic
import Derived.Outline
namespace Go.Proofs.Ytjbmpnbfiahdhaa
open Go.RowKit
set_option linter.unusedVariables false
set_option maxRecDepth 100000

theorem ArmI.keep {N : Nat} {L : List Int} {vL : Value} {k6 : Nat} {w : World} {k : Nat} {wr w' : World} (h : ArmI N L vL k6 w k wr) (hb : Below wr.heap.size wr w') : ArmI N L vL k6 w k w' := by
  obtain ⟨o, c, xs, h1, h2, h3, h4, h5, h6, h7⟩ := h
  exact ⟨o, c, xs, h1.keep hb, h2.keep hb, h3, h4.keep hb, h5, h6.keep hb, bel_to h7 hb⟩
theorem c_specArmstrongTable_no (n : Int) (oa) (cap : Nat) (D : List (Int × Int)) (w : World) (hD : DepsAt w oa D) (ha : areDepsF n D = false) :
    Ans Try.prog 11 #[.int .i64 n, .slice oa D.length cap] w (.tuple #[.agg #[.int .i64 0, .slice none 0 0], .bool false]) := by
  unfold Ans
  have hb := (Below.refl w.heap.size w).alloc (Nat.le_refl _) (.cells #[.int .i64 0, .slice none 0 0] 26)
  have kZ := Blk.new w #[.int .i64 0, .slice none 0 0] 26
  go_enter Try.func11, Try.ntmps11
  go_wp2_with fail
  refine Calls.mono (Ans.eqb (c_specAreDeps _ _ _ _ _ (hD.keep hb)) ha) ?_
  rintro e w1 ⟨rfl, hbn⟩
  replace kZ := kZ.keep hbn
  replace hb := bel_to hb hbn
  clear hbn
  have z0 := kZ.cell 0 (.int .i64 0) rfl
  have z1 := kZ.cell 1 (.slice none 0 0) rfl
  have f0 := kZ.free 0
  have f1 := kZ.free 1
  go_wp2
  exact bodyPost_ret (v := .tuple #[.agg #[.int .i64 0, .slice none 0 0], .bool false]) (by simp [results, Try.results11, go_sem, z0, z1]) rfl ⟨rfl, bel_set2 hb (Nat.le_refl _) _ _⟩
set_option maxHeartbeats 1600000 in
theorem c_specArmstrongTable_ok (N : Nat) (oa) (cap : Nat) (D : List (Int × Int)) (w : World) (hD : DepsAt w oa D) (ha : areDepsF N D = true) :
    Calls Try.prog 11 #[.int .i64 N, .slice oa D.length cap] w fun e w' => ∃ o c xs, e = .returned (.tuple #[.agg #[.int .i64 N, .slice o (armUpTo N (closedSetsF N D) (closedSetsF N D).length).length c], .bool true]) ∧ OwnRows w' w.heap.size (.slice o (armUpTo N (closedSetsF N D) (closedSetsF N D).length).length c) xs (armUpTo N (closedSetsF N D) (closedSetsF N D).length) ∧ Below w.heap.size w w' := by
  have hb := (Below.refl w.heap.size w).alloc (Nat.le_refl _) (.cells #[.int .i64 0, .slice none 0 0] 26)
  have kZ := Blk.new w #[.int .i64 0, .slice none 0 0] 26
  obtain ⟨hv, hn1, hn5, _⟩ := areDepsF_val ha
  have hN : N ≤ 5 := by omega
  obtain ⟨i0, hi, hz0, hz1, hz2⟩ := info_parts info_int
  obtain ⟨j0, hj, hy0, hy1, hy2⟩ := info_parts info_ints
  have hp := pow_wrap (n := (N : Int)) (by omega) hn5
  simp only [Int.toNat_natCast] at hp
  have hp1 := hp.1
  have hp2 := hp.2.1
  have hp3 := hp.2.2
  clear hp
  go_enter Try.func11, Try.ntmps11
  go_wp2_with fail
  refine Calls.mono (Ans.eqb (c_specAreDeps _ _ _ _ _ (hD.keep hb)) ha) ?_
  rintro e w1 ⟨rfl, hbn⟩
  replace kZ := kZ.keep hbn
  replace hb := bel_to hb hbn
  clear hbn
  have hz := kZ.lt
  have kT := Blk.new w1 #[.int .i64 N, .slice none 0 0] 26
  have hba := (Below.refl w1.heap.size w1).alloc (Nat.le_refl _) (.cells #[.int .i64 N, .slice none 0 0] 26)
  replace kZ := kZ.keep hba
  replace hb := bel_to hb hba
  clear hba
  have hmk : ∀ w' : World, (Instr.makeSlice 68 (.int .i64 N) (.int .i64 N)).run Try.prog w' = .ok (.slice (some ⟨w'.heap.size, 0, none⟩) N N) (w'.alloc (.cells (madeCells #[Value.int .i64 0] N) 3)) := fun w' => by
    have := run_make w' 68 3 i0 (.int .i64 0) Try.underlying68 hi hz0 .i64 .i64 N N (by omega) (by omega) (by rw [hz2]; omega) (by omega)
    rw [hz1] at this; simpa [Value.cells] using this
  go_upto_region 4 with fail
  generalize hwb : w1.alloc (.cells #[.int .i64 N, .slice none 0 0] 26) = wb at *
  have hkb : w1.heap.size < wb.heap.size := kT.lt
  clear hwb
  generalize w1.heap.size = k6 at *
  have q1 := kT.cell 1 (.slice none 0 0) rfl
  have q1d := kT.drew.cell 1 (.slice none 0 0) rfl
  have q1m := (kT.alloc (.cells (madeCells #[Value.int .i64 0] N) 3)).drew.cell 1 (.slice none 0 0) rfl
  have q1n := fun cs T => ((kT.alloc (.cells (madeCells #[Value.int .i64 0] N) 3)).alloc (.cells cs T)).drew.cell 1 (.slice none 0 0) rfl
  have hM := ctr_made wb N hN
  go_cut [] from 18 to 24 (fun wx => ∃ (o : Option Addr) (c : Nat) (xs : List Value), Blk wx k6 #[.int .i64 N, .slice o 1 c] 26 ∧ OwnRows wx (w.heap.size + 1) (.slice o 1 c) xs [List.replicate N 0] ∧ Avoid k6 (.slice o 1 c) xs ∧ Blk wx w.heap.size #[.int .i64 0, .slice none 0 0] 26 ∧ Below w.heap.size w wx)
  case first =>
    go_region_law (first
    | (refine step_append_held _ (by rfl) _ _ 24 (by rfl) (w.heap.size + 1) 68 j0 (.slice none 0 0) 1 24 Try.underlying24 hj hy0 hy1 hy2 rfl (by decide) (.slice none 0 0) 0 [] (by rfl) (World.ownsRow_nil _ _ _ _) _ 1 1 [.slice (some ⟨wb.heap.size, 0, none⟩) N N] (by rfl) rfl (World.news_of_block (cs := #[.slice (some ⟨wb.heap.size, 0, none⟩) N N]) (t := 68) (fr := (0, 0)) (by first | exact heap_two wb _ _ | exact heap_alloc_new _ _)) (by intro u hu; simp at hu; subst hu; rfl) (by unfold maxLen; omega) (by omega) (by simp; omega) ?_; intro v7 w7 hown _ hgrow hfr; obtain ⟨⟨o7, c7, rfl⟩, s7, t7, kT7, hO7, av7, hb7, hoth, hblk⟩ := tab_snoc (w := w) (w5 := wb.alloc (.cells (madeCells #[Value.int .i64 0] N) 3)) (P := []) (o := none) (c := 0) (xs := []) (C := List.replicate N 0) (nC := N) (by simp) (OwnRows.none _ _) (hM.based (show w.heap.size + 1 ≤ wb.heap.size by omega)) ⟨.inl rfl, fun y hy => absurd hy (by simp)⟩ (kT.alloc _) (fun y hy e => by rcases hy with rfl | hy; cases e; cases hy) (fun e => by simp [Value.ownBlock] at e; omega) (hb.alloc hb.size _) (Nat.le_succ _) (show w.heap.size ≤ k6 by omega) hown (drew_grown hgrow) (drew_fresh hfr); clear hown hgrow hfr)
    | fail)
    all_goals
      go_wp2_with fail
      go_meet
      exact ⟨o7, c7, _, kT7, hO7, av7, hblk _ _ _ (kZ.alloc _) (by omega) (by simp [Value.ownBlock]), hb7⟩
  case rest =>
    clear q1 q1d q1m q1n hM hmk kT kZ hb
    obtain ⟨o, c, xs, kT, hO, av, kZ, hb⟩ := hcut
    go_wp2_with fail
    refine (c_specClosedSets N oa cap D _ (hD.keep hb)).mono ?_
    rintro e w3 ⟨vL, rfl, hL, hbn⟩
    have hk6 : w.heap.size < k6 := by omega
    have avL : vL.ownBlock ≠ some k6 := fun e => by have := (World.ownsRow.lt hL _ e).1; have := kT.lt; omega
    have apL := (apart_old hO.outer hL).symm
    replace hL := hL.based (show w.heap.size + 1 ≤ _ by have := kT.lt; omega)
    replace hO := hO.keep hbn
    replace kT := kT.keep hbn
    replace kZ := kZ.keep hbn
    replace hb := bel_to hb hbn
    obtain ⟨oL, cL, rfl⟩ := hL.shape
    have hLl := closedSets_le N D
    have HST : Hid (∀ x ∈ closedSetsF N D, St x) := closedSets_st
    clear hbn
    generalize hA : closedSetsF N D = L at *
    have HA : Hid (closedSetsF N D = L) := hA
    clear hA
    go_wp2_with fail
    go_loopw [8] (fun i wr => ∃ (k : Nat), i = .int .i64 k ∧ k ≤ L.length ∧ ArmI N L (.slice oL L.length cL) k6 w k wr) (fun i _ => L.length - (intOf i).toNat)
    case atStart => exact ⟨0, rfl, Nat.zero_le _, _, c, _, kT, hO, av, hL, apL, kZ, hb⟩
    case round =>
      clear kT hO av hL apL kZ hb
      obtain ⟨k, rfl, hk, hArm⟩ := hrel
      have HSame : Hid ((nth L k == 2 ^ N - 1) = true → ArmI N L (.slice oL L.length cL) k6 w (k + 1) wr) := fun h => by
        have e := arm_succ N L k
        rw [h, if_pos rfl, List.append_nil] at e
        unfold ArmI at hArm ⊢
        rw [e]; exact hArm
      obtain ⟨o, c, xs, kT, hO, av, hL, apL, kZ, hb⟩ := hArm
      have HS : Hid (armUpTo N L (k + 1) = armUpTo N L k ++ (if (nth L k == 2 ^ N - 1) then [] else [rowForF N (nth L k) ((k : Int) + 1)])) := arm_succ N L k
      have hPl := arm_len N L k
      have HE : Hid (k = L.length → armUpTo N L k = armUpTo N L L.length) := fun e => by rw [e]
      have hxl := hO.len
      generalize armUpTo N L k = P at *
      have hkt := kT.lt
      by_cases hlt : k < L.length
      · have HX : Hid (St (nth L k)) := HST.out _ (nthI_mem hlt)
        obtain ⟨b, off, rfl, hbs, hcell⟩ := (hL.ints rfl (by unfold Room; omega)).at_ (by omega)
        have hc1 := hcell k hlt
        clear hcell
        generalize nth L k = x at *
        have hsx := HX.out
        by_cases hx : x = 2 ^ N - 1
        · have hxd : (x == 2 ^ N - 1) = true := by simp [hx]
          have hxe : (x == allM N) = true := by unfold allM; simpa using hx
          go_wp2_with fail
          have hA1 := (show Hid _ from HSame.out hxd)
          (refine wp_region_after (by kernel_rfl) (by kernel_rfl) ?_; have q_hc1 := fun (x : After _) => cell_keep hc1 x.bel; (repeat (go_big_quiet_step ((go_at_call 80; exact Ans.after (c_l2All N (by omega) _))))); clear q_hc1; refine wpQuiet_nil ?_; rintro _ ⟨⟨w1, hbn⟩, rfl⟩; (try simp only [After.w]); replace hc1 := cell_keep hc1 hbn; replace hA1 := (show Hid _ from ArmI.keep hA1.out hbn); replace hb := bel_to (w := w) (by first | exact hb | exact hb.alloc hb.size _ | exact (hb.alloc hb.size _).alloc (Nat.le_trans hb.size (by simp)) _ | exact hb.setCell (by simp [hb.size]) _) hbn; clear hbn)
          go_wp2
          go_roundw
          case rel => exact ⟨k + 1, by go_num, by omega, hA1.out⟩
          case measure => simp [intOf]; omega
        · have hxd : (x == 2 ^ N - 1) = false := by simp [hx]
          have hxe : (x == allM N) = false := by unfold allM; simpa using hx
          go_wp2_with fail
          (refine wp_region_after (by kernel_rfl) (by kernel_rfl) ?_; have q_hc1 := fun (x : After _) => cell_keep hc1 x.bel; (repeat (go_big_quiet_step ((go_at_call 80; exact Ans.after (c_l2All N (by omega) _))))); clear q_hc1; refine wpQuiet_nil ?_; rintro _ ⟨⟨w1, hbn⟩, rfl⟩; (try simp only [After.w]); replace hc1 := cell_keep hc1 hbn; replace kT := kT.keep hbn; replace hO := hO.keep hbn; replace hL := OwnI.keep hL hbn; replace kZ := kZ.keep hbn; replace hb := bel_to (w := w) (by first | exact hb | exact hb.alloc hb.size _ | exact (hb.alloc hb.size _).alloc (Nat.le_trans hb.size (by simp)) _ | exact hb.setCell (by simp [hb.size]) _) hbn; clear hbn)
          obtain ⟨wq, hwq⟩ := Blk.world kT
          subst hwq
          have hkq := kT.lt
          go_wp2_with fail
          go_loopw [9, 10] (fun v i wi => ∃ j : Nat, i = .int .i64 j ∧ j ≤ N ∧ OwnI wi wq.heap.size v (rowForF j x ((k : Int) + 1)) ∧ Below wq.heap.size wq wi) (fun _ i _ => N - (intOf i).toNat)
          case atStart => exact ⟨0, rfl, Nat.zero_le _, OwnI.empty _ _ (Nat.le_refl _), (Below.refl _ _).alloc (Nat.le_refl _) _⟩
          case round =>
            obtain ⟨j, rfl, hjN, hI, hbl⟩ := hrel
            have hc2 := cell_keep hc1 hbl
            by_cases hjlt : j < N
            · have HR : Hid (rowForF (j + 1) x ((k : Int) + 1) = rowForF j x ((k : Int) + 1) ++ [if hasc x j then 0 else (k : Int) + 1]) := rowFor_succ j x _
              have hk64 : 0 ≤ (j : Int) ∧ (j : Int) < 64 := by omega
              have hbt := row_bit hsx (show j < 5 by omega)
              have hle := rowFor_len j x ((k : Int) + 1)
              generalize rowForF j x ((k : Int) + 1) = M at *
              cases hh : hasc x j
              · have hbt0 : bits BinOp.and .i64 (x / 2 ^ j) 1 = 0 := by rw [hbt, hh]; rfl
                clear hbt
                go_wp2_with (first | (at_builtin; refine wpList_append_own _ rfl _ _ 68 rfl wq.heap.size 3 i0 (.int .i64 0) 1 8 Try.underlying68 hi hz0 hz1 hz2 rfl (by decide) _ _ _ rfl (World.ownsRow.alloc hI _) _ 1 1 [.int .i64 ((k : Int) + 1)] rfl rfl (by intro j u hj; match j, hj with | 0, hj => simp at hj; subst hj; simp [Addr.add]) (by intro u hu; simp at hu; subst hu; rfl) (by unfold maxLen; omega) (by omega) (by have := hbl.size; simp; omega) ?_; intro v' w1 hown hgrow _; replace hbl := (hbl.alloc hbl.size _).grown hgrow (by have := hbl.size; simp; omega) (fun g hg => (World.ownsRow.lt hI g hg).1); replace hI := OwnI.snoc hown; clear hown hgrow) | fail)
                go_roundw
                case rel => exact ⟨j + 1, by go_num, by omega, by rw [HR.out, hh]; exact hI, hbl⟩
                case measure => simp [intOf]; omega
              · have hbt0 : bits BinOp.and .i64 (x / 2 ^ j) 1 = 1 := by rw [hbt, hh]; rfl
                clear hbt
                go_wp2_with (first | (at_builtin; refine wpList_append_own _ rfl _ _ 68 rfl wq.heap.size 3 i0 (.int .i64 0) 1 8 Try.underlying68 hi hz0 hz1 hz2 rfl (by decide) _ _ _ rfl (World.ownsRow.alloc hI _) _ 1 1 [.int .i64 (0)] rfl rfl (by intro j u hj; match j, hj with | 0, hj => simp at hj; subst hj; simp [Addr.add]) (by intro u hu; simp at hu; subst hu; rfl) (by unfold maxLen; omega) (by omega) (by have := hbl.size; simp; omega) ?_; intro v' w1 hown hgrow _; replace hbl := (hbl.alloc hbl.size _).grown hgrow (by have := hbl.size; simp; omega) (fun g hg => (World.ownsRow.lt hI g hg).1); replace hI := OwnI.snoc hown; clear hown hgrow) | fail)
                go_roundw
                case rel => exact ⟨j + 1, by go_num, by omega, by rw [HR.out, hh]; exact hI, hbl⟩
                case measure => simp [intOf]; omega
            · obtain rfl : j = N := by omega
              obtain ⟨o5, c5, hv5⟩ := hI.shape
              rw [rowFor_len] at hv5
              subst hv5
              have hO5 := hO.keep hbl
              have kT5 := kT.keep hbl
              have q1 := kT5.cell 1 (.slice o P.length c) rfl
              go_wp2_with (first | (at_builtin; refine wpList_append_fresh rfl _ _ 24 rfl (w.heap.size + 1) 68 j0 (.slice none 0 0) 1 24 Try.underlying24 hj hy0 hy1 hy2 rfl (by decide) _ _ _ rfl (World.ownsRow.alloc hO5.outer _) _ 1 1 [.slice o5 j c5] rfl rfl (World.news_of_block (cs := #[.slice o5 j c5]) (t := 68) (fr := (0, 0)) (heap_alloc_new _ _)) (by intro u hu; simp at hu; subst hu; rfl) (by unfold maxLen; omega) (by omega) (by have := hbl.size; simp; omega) ?_; intro v7 w7 hown hgrow hfr; obtain ⟨⟨o7, c7, rfl⟩, s7, t7, kT7, hO7, av7, hb7, hoth, hblk⟩ := tab_snoc (w := w) (rowFor_len j x ((k : Int) + 1)) hO5 (hI.based (show w.heap.size + 1 ≤ wq.heap.size by omega)) (OwnRows.fresh (w := wq) hO hI) kT5 av (fun e => by have := (World.ownsRow.lt hI _ e).1; omega) (bel_to hb hbl) (Nat.le_succ _) (show w.heap.size ≤ k6 by omega) hown hgrow hfr; clear hown hgrow hfr; obtain ⟨hL7, apL7⟩ := hoth _ _ _ _ _ _ (hL.keep hbl) apL avL; have kZ7 := hblk _ _ _ (kZ.keep hbl) (show w.heap.size ≠ k6 by omega) (fun e => by have := (World.ownsRow.lt hO.outer _ e).1; omega); have HR7 := (show Hid _ from ArmI.next (show armUpTo j L (k + 1) = P ++ [rowForF j x ((k : Int) + 1)] by rw [HS.out, hxd]; rfl) kT7 hO7 av7 hL7 apL7 kZ7 hb7); clear hL7 apL7 kZ7 kT7 hO7 av7 hoth hblk hb7) | fail)
              go_roundw
              case rel => exact ⟨k + 1, by go_num, by omega, HR7.out⟩
              case measure => simp [intOf]; omega
      · have hkk : k = L.length := by omega
        have HP := (show Hid _ from HE.out hkk)
        have r0 := kT.cell 0 (.int .i64 N) rfl
        have r1 := kT.cell 1 (.slice o P.length c) rfl
        have z0 := kZ.cell 0 (.int .i64 0) rfl
        have z1 := kZ.cell 1 (.slice none 0 0) rfl
        have f0 := kZ.free 0
        have f1 := kZ.free 1
        have k2 : Blk _ w.heap.size #[.int .i64 N, .slice o P.length c] 26 := (kZ.set 0 (.int .i64 N)).set 1 (.slice o P.length c)
        have q0 := k2.cell 0 (.int .i64 N) rfl
        have q1 := k2.cell 1 (.slice o P.length c) rfl
        clear hkk
        go_wp2
        refine bodyPost_ret (v := .tuple #[.agg #[.int .i64 N, .slice o P.length c], .bool true]) (by simp only [results, Try.results11]; simp [go_sem, q0, q1]) rfl ?_
        rw [HA.out, ← HP.out]
        exact ⟨o, c, xs, rfl, ((hO.far_set 0 (.int .i64 N) (Nat.lt_succ_self _)).far_set 1 (.slice o P.length c) (Nat.lt_succ_self _)).based (Nat.le_succ _), bel_set2 hb (Nat.le_refl _) _ _⟩
end Go.Proofs.Ytjbmpnbfiahdhaa
namespace Go.Proofs.Ytjbmpnbfiahdhaa
open Go.RowKit
set_option linter.unusedVariables false
set_option maxRecDepth 100000

def ctrO (n : Int) (D : List (Int × Int)) (l r : Int) : List (List Int) := if ctrF n D l r then ctrR n.toNat D l else []
def ctrN (n : Int) (D : List (Int × Int)) (l r : Int) : Int := if ctrF n D l r then n else 0
def CtrAns (f : FuncId) (n : Int) (oa : Option Addr) (cap : Nat) (D : List (Int × Int)) (l r : Int) (w : World) : Prop :=
  Calls Try.prog f #[.int .i64 n, .slice oa D.length cap, .agg #[.int .i64 l, .int .i64 r]] w fun e w' => ∃ o c xs, e = .returned (.tuple #[.agg #[.int .i64 (ctrN n D l r), .slice o (ctrO n D l r).length c], .bool (ctrF n D l r)]) ∧ OwnRows w' w.heap.size (.slice o (ctrO n D l r).length c) xs (ctrO n D l r) ∧ Below w.heap.size w w'
theorem ctr_pos {n : Int} {D : List (Int × Int)} {l r : Int} (h : ctrF n D l r = true) : ∃ N : Nat, n = N ∧ N ≤ 5 := by
  unfold ctrF at h
  simp only [Bool.and_eq_true] at h
  have := (areDepsF_val h.1)
  exact ⟨n.toNat, by omega, by omega⟩
theorem ctr_len (n : Int) (D : List (Int × Int)) (l r : Int) : (ctrO n D l r).length ≤ 2 := by unfold ctrO; split <;> simp [ctrR]
theorem ctr_row (n : Int) (D : List (Int × Int)) (l r : Int) {j : Nat} (hj : j < (ctrO n D l r).length) : (row (ctrO n D l r) j).length ≤ 5 := by
  unfold ctrO at hj ⊢
  cases h : ctrF n D l r
  · rw [h] at hj; simp at hj
  · obtain ⟨N, rfl, hN⟩ := ctr_pos h
    rw [h] at hj
    simp only [if_true, ctrR, Int.toNat_natCast] at hj ⊢
    match j, hj with
    | 0, _ => show (List.replicate N (0 : Int)).length ≤ 5; simp; exact hN
    | 1, _ => show (rowForF N _ 1).length ≤ 5; rw [rowFor_len]; exact hN
theorem c_CounterTable (n : Int) (oa) (cap : Nat) (D : List (Int × Int)) (l r : Int) (w : World) (hD : DepsAt w oa D) : CtrAns 34 n oa cap D l r w := by
  unfold CtrAns ctrN ctrO
  cases h : ctrF n D l r
  · refine (c_CounterTable_no n oa cap D l r w hD h).mono ?_
    rintro e w' ⟨rfl, hb⟩
    exact ⟨none, 0, [], rfl, OwnRows.none _ _, hb⟩
  · obtain ⟨N, rfl, hN⟩ := ctr_pos h
    refine (c_CounterTable_ok N oa cap D l r w hD h).mono ?_
    rintro e w' ⟨o, c, xs, rfl, hO, hb⟩
    exact ⟨o, c, xs, rfl, hO, hb⟩
end Go.Proofs.Ytjbmpnbfiahdhaa
namespace Go.Proofs.Ytjbmpnbfiahdhaa
open Go.RowKit
set_option linter.unusedVariables false
set_option maxRecDepth 100000

theorem ctr_sum (R : List (List Int)) (h : R.length ≤ 2) (hr : ∀ j, j < R.length → (row R j).length ≤ 5) : sumL R R.length ≤ 10 := by
  match R, h with
  | [], _ => simp [sumL]
  | [a], _ => have h0 := hr 0 (by simp); simp [sumL, row] at h0 ⊢; omega
  | [a, b], _ => have h0 := hr 0 (by simp); have h1 := hr 1 (by simp); simp [sumL, row] at h0 h1 ⊢; omega
end Go.Proofs.Ytjbmpnbfiahdhaa
namespace Go.Proofs.Ytjbmpnbfiahdhaa
open Go.RowKit
set_option linter.unusedVariables false
set_option maxRecDepth 100000

theorem arm_pos {n : Int} {D : List (Int × Int)} (h : areDepsF n D = true) : ∃ N : Nat, n = N ∧ N ≤ 5 := by
  have := areDepsF_val h
  exact ⟨n.toNat, by omega, by omega⟩
theorem arm_rows_len (n : Int) (D : List (Int × Int)) : (armO n D).length ≤ 33 := by
  unfold armO
  split
  · have := arm_len n.toNat (closedSetsF n D) (closedSetsF n D).length
    have := closedSets_le n D
    omega
  · simp
theorem arm_row (n : Int) (D : List (Int × Int)) {j : Nat} (hj : j < (armO n D).length) : (row (armO n D) j).length ≤ 5 := by
  have hm := row_mem hj
  unfold armO at hm
  split at hm
  · next h =>
    obtain ⟨N, rfl, hN⟩ := arm_pos h
    have e := arm_rows (Int.toNat N) _ _ hm
    unfold armO
    rw [if_pos h, e]
    simpa using hN
  · cases hm
theorem c_ArmstrongTable (n : Int) (oa) (cap : Nat) (D : List (Int × Int)) (w : World) (hD : DepsAt w oa D) : ArmAns 13 n oa cap D w := by
  unfold ArmAns armN armO
  cases h : areDepsF n D
  · refine (c_ArmstrongTable_no n oa cap D w hD h).mono ?_
    rintro e w' ⟨rfl, hb⟩
    exact ⟨none, 0, [], rfl, OwnRows.none _ _, hb⟩
  · obtain ⟨N, rfl, hN⟩ := arm_pos h
    refine (c_ArmstrongTable_ok N oa cap D w hD h).mono ?_
    rintro e w' ⟨o, c, xs, rfl, hO, hb⟩
    exact ⟨o, c, xs, rfl, hO, hb⟩
theorem c_specArmstrongTable (n : Int) (oa) (cap : Nat) (D : List (Int × Int)) (w : World) (hD : DepsAt w oa D) : ArmAns 11 n oa cap D w := by
  unfold ArmAns armN armO
  cases h : areDepsF n D
  · refine (c_specArmstrongTable_no n oa cap D w hD h).mono ?_
    rintro e w' ⟨rfl, hb⟩
    exact ⟨none, 0, [], rfl, OwnRows.none _ _, hb⟩
  · obtain ⟨N, rfl, hN⟩ := arm_pos h
    refine (c_specArmstrongTable_ok N oa cap D w hD h).mono ?_
    rintro e w' ⟨o, c, xs, rfl, hO, hb⟩
    exact ⟨o, c, xs, rfl, hO, hb⟩
end Go.Proofs.Ytjbmpnbfiahdhaa
namespace Go.Proofs.Ytjbmpnbfiahdhaa
open Go.RowKit
set_option linter.unusedVariables false
set_option maxRecDepth 100000

abbrev T3 := Int × Int × Int
def ta (L : List T3) (k : Nat) : Int := (L.getD k (0, 0, 0)).1
def tb (L : List T3) (k : Nat) : Int := (L.getD k (0, 0, 0)).2.1
def tc (L : List T3) (k : Nat) : Int := (L.getD k (0, 0, 0)).2.2
structure DersAt (w : World) (oa : Option Addr) (L : List T3) : Prop where
  len : L.length ≤ Room
  at_ : 0 < L.length → ∃ b off, oa = some ⟨b, off, none⟩ ∧ b < w.heap.size ∧
    ∀ k, k < L.length → w.cell? ⟨b, off + k * 3, none⟩ = some (.int .i64 (ta L k)) ∧ w.cell? ⟨b, off + k * 3 + 1, none⟩ = some (.int .i64 (tb L k)) ∧ w.cell? ⟨b, off + k * 3 + 2, none⟩ = some (.int .i64 (tc L k))
theorem DersAt.keep {w w' : World} {oa : Option Addr} {L : List T3} (h : DersAt w oa L) (hb : Below w.heap.size w w') : DersAt w' oa L :=
  ⟨h.len, fun h0 => by
    obtain ⟨b, off, e, hlt, hc⟩ := h.at_ h0
    exact ⟨b, off, e, Nat.lt_of_lt_of_le hlt hb.size, fun k hk => by
      rw [hb.cell (p := ⟨b, off + k * 3, none⟩) hlt, hb.cell (p := ⟨b, off + k * 3 + 1, none⟩) hlt, hb.cell (p := ⟨b, off + k * 3 + 2, none⟩) hlt]; exact hc k hk⟩⟩
def encT (d : T3) : List Value := [.int .i64 d.1, .int .i64 d.2.1, .int .i64 d.2.2]
def tcells (D : List T3) : List Value := D.flatMap encT
theorem tcells_cons (d : T3) (D : List T3) : tcells (d :: D) = .int .i64 d.1 :: .int .i64 d.2.1 :: .int .i64 d.2.2 :: tcells D := rfl
theorem tcells_length : ∀ D : List T3, (tcells D).length = D.length * 3
  | [] => rfl
  | d :: D => by rw [tcells_cons]; simp [tcells_length D]; omega
theorem tcells_append (D E : List T3) : tcells (D ++ E) = tcells D ++ tcells E := by simp [tcells]
theorem tcells_at : ∀ (D : List T3) (k : Nat), k < D.length → (tcells D)[k * 3]? = some (.int .i64 (ta D k)) ∧ (tcells D)[k * 3 + 1]? = some (.int .i64 (tb D k)) ∧ (tcells D)[k * 3 + 2]? = some (.int .i64 (tc D k))
  | [], k, h => absurd h (by simp)
  | d :: D, 0, _ => ⟨rfl, rfl, rfl⟩
  | d :: D, k + 1, h => by
    have := tcells_at D k (by simpa using h)
    rw [tcells_cons, show (k + 1) * 3 = k * 3 + 1 + 1 + 1 by omega, show k * 3 + 1 + 1 + 1 + 1 = (k * 3 + 1) + 1 + 1 + 1 by omega, show k * 3 + 1 + 1 + 1 + 2 = (k * 3 + 2) + 1 + 1 + 1 by omega]
    simp only [List.getElem?_cons_succ]
    exact this
theorem tcells_set : ∀ (D : List T3) (k : Nat) (d : T3), (((tcells D).set (k * 3) (.int .i64 d.1)).set (k * 3 + 1) (.int .i64 d.2.1)).set (k * 3 + 2) (.int .i64 d.2.2) = tcells (D.set k d)
  | [], k, d => by simp [tcells]
  | e :: D, 0, d => rfl
  | e :: D, k + 1, d => by
    have := tcells_set D k d
    rw [List.set_cons_succ, tcells_cons, tcells_cons, show (k + 1) * 3 = k * 3 + 1 + 1 + 1 by omega, show k * 3 + 1 + 1 + 1 + 1 = (k * 3 + 1) + 1 + 1 + 1 by omega, show k * 3 + 1 + 1 + 1 + 2 = (k * 3 + 2) + 1 + 1 + 1 by omega]
    simp only [List.set_cons_succ]
    rw [this]
theorem t_set {L : List T3} {j k : Nat} {x : T3} (hj : j < L.length) : ta (L.set j x) k = (if k = j then x.1 else ta L k) ∧ tb (L.set j x) k = (if k = j then x.2.1 else tb L k) ∧ tc (L.set j x) k = (if k = j then x.2.2 else tc L k) := by
  unfold ta tb tc List.getD
  rw [List.getElem?_set]
  by_cases h : j = k
  · subst h; simp [hj]
  · rw [if_neg h, if_neg (by omega), if_neg (by omega), if_neg (by omega)]; exact ⟨rfl, rfl, rfl⟩
theorem tnth_eq {L : List T3} {k : Nat} (hk : k < L.length) : L[k]? = some (ta L k, tb L k, tc L k) := by
  simp [ta, tb, tc, List.getD, List.getElem?_eq_getElem hk]
theorem tlist_ext {L M : List T3} (hl : L.length = M.length) (h : ∀ k, k < L.length → ta L k = ta M k ∧ tb L k = tb M k ∧ tc L k = tc M k) : L = M := by
  apply List.ext_getElem?
  intro k
  by_cases hk : k < L.length
  · rw [tnth_eq hk, tnth_eq (by omega), (h k hk).1, (h k hk).2.1, (h k hk).2.2]
  · rw [List.getElem?_eq_none (by omega), List.getElem?_eq_none (by omega)]

def OwnT (w : World) (base : Nat) (v : Value) (D : List T3) : Prop := w.ownsRow base 119 3 v D.length (tcells D)
theorem OwnT.keep {w w' : World} {base : Nat} {v : Value} {D : List T3} (h : OwnT w base v D) (hb : Below w.heap.size w w') : OwnT w' base v D := owns_keep h hb
theorem OwnT.reads {w : World} {base : Nat} {v : Value} {D : List T3} (h : OwnT w base v D) (hl : D.length ≤ Room) :
    ∃ oa cap, v = .slice oa D.length cap ∧ DersAt w oa D := by
  obtain ⟨oa, cap, hv, hc⟩ := owns_cells h
  refine ⟨oa, cap, hv, hl, fun h0 => ?_⟩
  obtain ⟨g, ha, hbg, hlt, _, hcell, _⟩ := hc h0
  refine ⟨g, 0, ha, hlt, fun k hk => ?_⟩
  rw [Nat.zero_add, hcell (k * 3) (by omega), hcell (k * 3 + 1) (by omega), hcell (k * 3 + 2) (by omega)]
  exact tcells_at D k hk
theorem OwnT.ders {w : World} {base : Nat} {oa : Option Addr} {n cap : Nat} {L : List T3} (h : OwnT w base (.slice oa n cap) L) (hn : n = L.length) (hl : L.length ≤ Room) : DersAt w oa L := by
  obtain ⟨oa', cap', hv, hI⟩ := h.reads hl
  simp only [Value.slice.injEq] at hv
  rw [hv.1]; exact hI
theorem OwnT.shape {w : World} {base : Nat} {v : Value} {L : List T3} (h : OwnT w base v L) : ∃ oa cap, v = .slice oa L.length cap := by
  obtain ⟨oa, cap, hv, _⟩ := owns_cells h; exact ⟨oa, cap, hv⟩
theorem OwnT.cell {w : World} {base g : Nat} {n cap : Nat} {D : List T3} (h : OwnT w base (.slice (some ⟨g, 0, none⟩) n cap) D) (hn : n = D.length) (k : Nat) (hk : k < n) :
    (w.cell? ⟨g, k * 3, none⟩ = some (.int .i64 (ta D k)) ∧ w.cell? ⟨g, k * 3 + 1, none⟩ = some (.int .i64 (tb D k)) ∧ w.cell? ⟨g, k * 3 + 2, none⟩ = some (.int .i64 (tc D k))) ∧ w.frozen? ⟨g, k * 3, none⟩ = false ∧ w.frozen? ⟨g, k * 3 + 1, none⟩ = false ∧ w.frozen? ⟨g, k * 3 + 2, none⟩ = false := by
  subst hn
  refine ⟨?_, h.frozenAt _, h.frozenAt _, h.frozenAt _⟩
  rw [h.cellAt (k * 3) (by omega), h.cellAt (k * 3 + 1) (by omega), h.cellAt (k * 3 + 2) (by omega)]
  exact tcells_at D k hk
theorem OwnT.store {w : World} {base g : Nat} {n cap : Nat} {D : List T3} (h : OwnT w base (.slice (some ⟨g, 0, none⟩) n cap) D) (hn : n = D.length) (k : Nat) (l r s : Int) :
    OwnT (((w.setCell ⟨g, k * 3, none⟩ (.int .i64 l)).setCell ⟨g, k * 3 + 1, none⟩ (.int .i64 r)).setCell ⟨g, k * 3 + 2, none⟩ (.int .i64 s)) base (.slice (some ⟨g, 0, none⟩) n cap) (D.set k (l, r, s)) := by
  subst hn
  have := (((h.stored (k * 3) (.int .i64 l)).1.stored (k * 3 + 1) (.int .i64 r)).1.stored (k * 3 + 2) (.int .i64 s)).1
  unfold OwnT
  rw [List.length_set, ← tcells_set]
  exact this
theorem madeT (n : Nat) : (madeCells (Value.cells (.agg #[.int .i64 0, .int .i64 0, .int .i64 0])) (n * 3)).toList = tcells (List.replicate n (0, 0, 0)) := by
  apply List.ext_getElem?
  intro j
  have hl : (tcells (List.replicate n (0, 0, 0))).length = n * 3 := by rw [tcells_length]; simp
  by_cases hj : j < n * 3
  · have h2 : j / 3 < (List.replicate n ((0, 0, 0) : T3)).length := by simp; omega
    have hd := tcells_at _ _ h2
    have z : ta (List.replicate n (0, 0, 0)) (j / 3) = 0 ∧ tb (List.replicate n (0, 0, 0)) (j / 3) = 0 ∧ tc (List.replicate n (0, 0, 0)) (j / 3) = 0 := by
      simp only [List.length_replicate] at h2
      unfold ta tb tc List.getD
      rw [List.getElem?_replicate, if_pos h2]; exact ⟨rfl, rfl, rfl⟩
    rw [z.1, z.2.1, z.2.2] at hd
    have h3 : j % 3 = 0 ∨ j % 3 = 1 ∨ j % 3 = 2 := by omega
    rcases h3 with h | h | h
    · have e : j = j / 3 * 3 := by omega
      have := hd.1
      rw [← e] at this
      rw [this]
      simp [madeCells, Value.cells, hj, h]
    · have e : j = j / 3 * 3 + 1 := by omega
      have := hd.2.1
      rw [← e] at this
      rw [this]
      simp [madeCells, Value.cells, hj, h]
    · have e : j = j / 3 * 3 + 2 := by omega
      have := hd.2.2
      rw [← e] at this
      rw [this]
      simp [madeCells, Value.cells, hj, h]
  · have h1 : (madeCells (Value.cells (.agg #[.int .i64 0, .int .i64 0, .int .i64 0])) (n * 3)).toList.length ≤ j := by
      rw [Array.length_toList, size_madeCells]; omega
    rw [List.getElem?_eq_none h1, List.getElem?_eq_none (by rw [hl]; omega)]
theorem info_derived : (Try.prog.info? 119).map (fun i => (i.zero, i.size, i.bytes)) = some (some (.agg #[.int .i64 0, .int .i64 0, .int .i64 0]), 3, 24) := by kernel_rfl
def derEqB (a b c a' b' c' : Int) : Bool := decide (a = a' ∧ b = b' ∧ c = c')
end Go.Proofs.Ytjbmpnbfiahdhaa
namespace Go.Proofs.Ytjbmpnbfiahdhaa
open Go.RowKit
set_option linter.unusedVariables false
set_option maxRecDepth 100000

/-- L is what a derivation lays down from the set x on, looking from place i on. -/
inductive Drv (D : List (Int × Int)) (r : Int) : Int → Nat → List T3 → Prop
  | done {x i} (h : hasc x r = true) : Drv D r x i []
  | stop {x i} (h : hasc x r = false) (hi : D.length ≤ i) : Drv D r x i []
  | take {x i L} (h : hasc x r = false) (hi : i < D.length) (ha : ins (nl D i) x = true) (hb : hasc x (nr D i) = false) (hL : Drv D r (uni x (one (nr D i))) 0 L) : Drv D r x i (((i : Int), x, uni x (one (nr D i))) :: L)
  | skip {x i L} (h : hasc x r = false) (hi : i < D.length) (ha : (ins (nl D i) x && !hasc x (nr D i)) = false) (hL : Drv D r x (i + 1) L) : Drv D r x i L
theorem Drv.same {D : List (Int × Int)} {r x : Int} {i : Nat} {L : List T3} (h : Drv D r x i L) : ∀ {M : List T3}, Drv D r x i M → L = M := by
  induction h with
  | done h => intro M hM; cases hM with
    | done => rfl
    | stop => rfl
    | take h' => rw [h] at h'; cases h'
    | skip h' => rw [h] at h'; cases h'
  | stop h hi => intro M hM; cases hM with
    | done => rfl
    | stop => rfl
    | take _ hi' => omega
    | skip _ hi' => omega
  | take h hi ha hb hL ih => intro M hM; cases hM with
    | done h' => rw [h] at h'; cases h'
    | stop _ hi' => omega
    | take _ _ _ _ hL' => rw [ih hL']
    | skip _ _ ha' => rw [ha, hb] at ha'; cases ha'
  | skip h hi ha hL ih => intro M hM; cases hM with
    | done h' => rw [h] at h'; cases h'
    | stop _ hi' => omega
    | take _ _ ha' hb' => rw [ha', hb'] at ha; cases ha
    | skip _ _ _ hL' => exact ih hL'
def Derives (n : Int) (D : List (Int × Int)) (l r : Int) (L : List T3) : Prop := (impliesDepF n D l r = true → Drv D r l 0 L) ∧ (impliesDepF n D l r = false → L = []) ∧ L.length ≤ 31
theorem Derives.same {n : Int} {D : List (Int × Int)} {l r : Int} {L M : List T3} (h : Derives n D l r L) (k : Derives n D l r M) : L = M := by
  cases e : impliesDepF n D l r with
  | false => rw [h.2.1 e, k.2.1 e]
  | true => exact (h.1 e).same (k.1 e)
theorem OwnT.joined {w : World} {base : Nat} {v : Value} {A B : List T3} (h : w.ownsRow base 119 3 v (A.length + B.length) (tcells A ++ tcells B)) : OwnT w base v (A ++ B) := by
  unfold OwnT
  rw [List.length_append, tcells_append]
  exact h
theorem OwnT.snoc {w : World} {base : Nat} {v : Value} {A : List T3} {a b c : Int} (h : w.ownsRow base 119 3 v (A.length + 1) (tcells A ++ [.int .i64 a, .int .i64 b, .int .i64 c])) : OwnT w base v (A ++ [(a, b, c)]) := OwnT.joined (B := [(a, b, c)]) h
theorem OwnT.nil (w : World) (base : Nat) : OwnT w base (.slice none 0 0) [] := ⟨rfl, Or.inl ⟨rfl, rfl⟩⟩
theorem OwnT.empty (w : World) (base : Nat) (hb : base ≤ w.heap.size) : OwnT (w.alloc (.cells #[] 119)) base (.slice (some ⟨w.heap.size, 0, none⟩) 0 0) [] := World.ownsRow_lit w #[] 0 hb (Nat.zero_le _) rfl
theorem OwnT.based {w : World} {base base' : Nat} {v : Value} {L : List T3} (h : OwnT w base v L) (hb : base' ≤ base) : OwnT w base' v L := owns_base h hb
theorem cell_alloc {w : World} {a : Addr} {v : Value} (h : w.cell? a = some v) (o : Obj) : (w.alloc o).cell? a = some v := cell_keep h ((Below.refl w.heap.size w).alloc (Nat.le_refl _) o)
theorem cell_grow {a b : World} {B base j e size n : Nat} {u v : Value} {xs : List Value} (hc : a.cell? ⟨B, j, none⟩ = some u) (hI : a.ownsRow base e size v n xs) (hB : B < base) (hg : a.grownBy b v.ownBlock) : b.cell? ⟨B, j, none⟩ = some u :=
  (hg.cell_far ⟨B, j, none⟩ (World.block_lt_of_cell? a _ hc) (fun e => by
    have := (World.ownsRow.lt hI B e.symm).1
    omega)).trans hc
end Go.Proofs.Ytjbmpnbfiahdhaa
namespace Go.Proofs.Ytjbmpnbfiahdhaa
open Go.RowKit
set_option linter.unusedVariables false
set_option maxRecDepth 100000

def stepOk (D : List (Int × Int)) (x : Int) (s : T3) : Bool := inB s.1 0 ((D.length : Int) - 1) && (s.2.1 == x && (insA (nl D s.1.toNat) x && s.2.2 == uni x (one (nr D s.1.toNat))))
def chk (D : List (Int × Int)) (r : Int) : List T3 → Int → Bool
  | [], x => hasc x r
  | s :: S, x => stepOk D x s && chk D r S s.2.2
def checkF (n : Int) (D : List (Int × Int)) (l r : Int) (S : List T3) : Bool := areDepsF n D && (isDepF n l r && chk D r S l)
theorem chk_step {D : List (Int × Int)} {r : Int} {S : List T3} {k : Nat} (hk : k < S.length) (x : Int) : chk D r (S.drop k) x = (stepOk D x (ta S k, tb S k, tc S k) && chk D r (S.drop (k + 1)) (tc S k)) := by
  have e : S.drop k = (ta S k, tb S k, tc S k) :: S.drop (k + 1) := by
    rw [List.drop_eq_getElem_cons hk]
    congr 1
    have := tnth_eq hk
    rw [List.getElem?_eq_getElem hk] at this
    exact Option.some.inj this
  rw [e]; rfl

set_option maxHeartbeats 3200000 in
theorem c_specCheckDerivation (n : Int) (oa) (cap : Nat) (D : List (Int × Int)) (l r : Int) (ob) (cbp : Nat) (S : List T3) (w : World) (hD : DepsAt w oa D) (hS : DersAt w ob S) :
    Ans Try.prog 50 #[.int .i64 n, .slice oa D.length cap, .agg #[.int .i64 l, .int .i64 r], .slice ob S.length cbp] w (.bool (checkF n D l r S)) := by
  unfold Ans
  have hnD : D.length ≤ 1073741824 := hD.len
  have hnS : S.length ≤ 1073741824 := hS.len
  have hb := (Below.refl w.heap.size w).alloc (Nat.le_refl _) (.cells #[.int .i64 l, .int .i64 r] 55)
  have b0 := box_at w #[.int .i64 l, .int .i64 r] 55 0 _ rfl
  have b1 := box_at w #[.int .i64 l, .int .i64 r] 55 1 _ rfl
  cases ha : areDepsF n D
  · go_enter Try.func50, Try.ntmps50
    go_wp2_with (first | (go_at_call 37; refine Calls.mono (Ans.eqb (c_specAreDeps _ _ _ _ _ (hD.keep hb)) ha) ?_; rintro e w1 ⟨rfl, hbn⟩; replace hb := bel_to (w := w) (by first | exact hb | exact hb.alloc hb.size _ | exact (hb.alloc hb.size _).alloc (Nat.le_trans hb.size (by simp)) _ | exact hb.setCell (by simp [hb.size]) _) hbn; clear hbn))
    go_ret
    exact ⟨ret_bool (by simp [checkF, ha]), hb⟩
  · have hv := (areDepsF_val ha).1
    have hD20 := (areDepsF_val ha).2.2.2
    cases hi : isDepF n l r
    · go_enter Try.func50, Try.ntmps50
      go_wp2_with (first | (go_at_call 37; refine Calls.mono (Ans.eqb (c_specAreDeps _ _ _ _ _ (hD.keep hb)) ha) ?_; rintro e w1 ⟨rfl, hbn⟩; replace b0 := cell_keep b0 hbn; replace b1 := cell_keep b1 hbn; replace hb := bel_to (w := w) (by first | exact hb | exact hb.alloc hb.size _ | exact (hb.alloc hb.size _).alloc (Nat.le_trans hb.size (by simp)) _ | exact hb.setCell (by simp [hb.size]) _) hbn; clear hbn) | (go_at_call 38; refine Calls.mono (Ans.eqb (c_specIsDep _ _ _ _) hi) ?_; rintro e w1 ⟨rfl, hbn⟩; replace hb := bel_to (w := w) (by first | exact hb | exact hb.alloc hb.size _ | exact (hb.alloc hb.size _).alloc (Nat.le_trans hb.size (by simp)) _ | exact hb.setCell (by simp [hb.size]) _) hbn; clear hbn))
      go_ret
      exact ⟨ret_bool (by simp [checkF, ha, hi]), hb⟩
    · obtain ⟨⟨hl, hr⟩, h15⟩ := isDepF_val hi
      have hr0 : 0 ≤ r := hr.1
      have hr1 : r < 5 := hr.2
      have HM : Hid (checkF n D l r S = chk D r S l) := by unfold checkF; rw [ha, hi]; rfl
      go_enter Try.func50, Try.ntmps50
      go_wp2_with (first | (go_at_call 37; refine Calls.mono (Ans.eqb (c_specAreDeps _ _ _ _ _ (hD.keep hb)) ha) ?_; rintro e w1 ⟨rfl, hbn⟩; replace b0 := cell_keep b0 hbn; replace b1 := cell_keep b1 hbn; replace hb := bel_to (w := w) (by first | exact hb | exact hb.alloc hb.size _ | exact (hb.alloc hb.size _).alloc (Nat.le_trans hb.size (by simp)) _ | exact hb.setCell (by simp [hb.size]) _) hbn; clear hbn) | (go_at_call 38; refine Calls.mono (Ans.eqb (c_specIsDep _ _ _ _) hi) ?_; rintro e w1 ⟨rfl, hbn⟩; replace b0 := cell_keep b0 hbn; replace b1 := cell_keep b1 hbn; replace hb := bel_to (w := w) (by first | exact hb | exact hb.alloc hb.size _ | exact (hb.alloc hb.size _).alloc (Nat.le_trans hb.size (by simp)) _ | exact hb.setCell (by simp [hb.size]) _) hbn; clear hbn))
      go_loopw [9, 10] (fun t i wr => ∃ (x : Int) (k : Nat), t = .int .i64 x ∧ i = .int .i64 k ∧ k ≤ S.length ∧ St x ∧ chk D r (S.drop k) x = chk D r S l ∧ wr.cell? ⟨w.heap.size, 0, none⟩ = some (.int .i64 l) ∧ wr.cell? ⟨w.heap.size, 1, none⟩ = some (.int .i64 r) ∧ Below w.heap.size w wr) (fun _ i _ => S.length - (intOf i).toNat)
      case atStart => exact ⟨l, 0, rfl, rfl, Nat.zero_le _, hl, rfl, b0, b1, hb⟩
      case round =>
        clear b0 b1 hb
        obtain ⟨x, k, rfl, rfl, hk, hx, hro, b0, b1, hb⟩ := hrel
        have HR : Hid (chk D r (S.drop k) x = chk D r S l) := hro
        clear hro
        by_cases hlt : k < S.length
        · obtain ⟨bs, offs, rfl, hbs, hcs⟩ := hS.at_ (by omega)
          have s0 := cell_keep (hcs k hlt).1 hb
          have s1 := cell_keep (hcs k hlt).2.1 hb
          have s2 := cell_keep (hcs k hlt).2.2 hb
          have HC : Hid (chk D r (S.drop k) x = (stepOk D x (ta S k, tb S k, tc S k) && chk D r (S.drop (k + 1)) (tc S k))) := chk_step hlt x
          clear hcs
          generalize ta S k = a at *
          generalize tb S k = b at *
          generalize tc S k = c at *
          have hb2 := hb.alloc hb.size (.cells #[.int .i64 a, .int .i64 b, .int .i64 c] 119)
          have hbx := (Below.refl wr.heap.size wr).alloc (Nat.le_refl _) (.cells #[.int .i64 a, .int .i64 b, .int .i64 c] 119)
          have c0 := box_at wr #[.int .i64 a, .int .i64 b, .int .i64 c] 119 0 _ rfl
          have c1 := box_at wr #[.int .i64 a, .int .i64 b, .int .i64 c] 119 1 _ rfl
          have c2 := box_at wr #[.int .i64 a, .int .i64 b, .int .i64 c] 119 2 _ rfl
          replace b0 := cell_keep b0 hbx
          replace b1 := cell_keep b1 hbx
          clear hbx
          cases h1 : inB a 0 ((D.length : Int) - 1)
          · have HE : Hid (chk D r S l = false) := by rw [← HR.out, HC.out]; unfold stepOk; rw [h1]; rfl
            clear HR HC
            replace hb := hb2
            clear hb2
            go_wp2_with fail
            (refine wp_region_after (by kernel_rfl) (by kernel_rfl) ?_; have q_c0 := fun (x : After _) => cell_keep c0 x.bel; have q_c1 := fun (x : After _) => cell_keep c1 x.bel; have q_c2 := fun (x : After _) => cell_keep c2 x.bel; (repeat (go_big_quiet_step ((first | (go_at_call 109; exact Ans.after (Ans.eqb (c_l1In _ _ _ _) h1)))))); clear q_c0; clear q_c1; clear q_c2; refine wpQuiet_nil ?_; rintro _ ⟨⟨w1, hbn⟩, rfl⟩; (try simp only [After.w]); replace c0 := cell_keep c0 hbn; replace c1 := cell_keep c1 hbn; replace c2 := cell_keep c2 hbn; replace hb := bel_to (w := w) (by first | exact hb | exact hb.alloc hb.size _ | exact (hb.alloc hb.size _).alloc (Nat.le_trans hb.size (by simp)) _ | exact hb.setCell (by simp [hb.size]) _) hbn; clear hbn)
            go_wp2
            go_ret
            exact ⟨ret_bool (by rw [HM.out, HE.out]), hb⟩
          · cases e1 : (b == x)
            · have e1' : (b != x) = true := by simp [bne, e1]
              have HE : Hid (chk D r S l = false) := by rw [← HR.out, HC.out]; unfold stepOk; rw [h1]; simp only [e1]; rfl
              clear HR HC
              replace hb := hb2
              clear hb2
              go_wp2_with fail
              (refine wp_region_after (by kernel_rfl) (by kernel_rfl) ?_; have q_c0 := fun (x : After _) => cell_keep c0 x.bel; have q_c1 := fun (x : After _) => cell_keep c1 x.bel; have q_c2 := fun (x : After _) => cell_keep c2 x.bel; (repeat (go_big_quiet_step ((first | (go_at_call 109; exact Ans.after (Ans.eqb (c_l1In _ _ _ _) h1)))))); clear q_c0; clear q_c1; clear q_c2; refine wpQuiet_nil ?_; rintro _ ⟨⟨w1, hbn⟩, rfl⟩; (try simp only [After.w]); replace c0 := cell_keep c0 hbn; replace c1 := cell_keep c1 hbn; replace c2 := cell_keep c2 hbn; replace hb := bel_to (w := w) (by first | exact hb | exact hb.alloc hb.size _ | exact (hb.alloc hb.size _).alloc (Nat.le_trans hb.size (by simp)) _ | exact hb.setCell (by simp [hb.size]) _) hbn; clear hbn)
              go_wp2
              go_ret
              exact ⟨ret_bool (by rw [HM.out, HE.out]), hb⟩
            · have e1' : (b != x) = false := by simp [bne, e1]
              have ha1 : 0 ≤ a ∧ a ≤ (D.length : Int) - 1 := by simpa [inB] using h1
              obtain ⟨j, rfl⟩ := Int.eq_ofNat_of_zero_le ha1.1
              have hjl : j < D.length := by omega
              obtain ⟨bD, offD, rfl, hbD, hcD⟩ := hD.at_ (by omega)
              have d0 := cell_keep (hcD j hjl).1 hb2
              have d1 := cell_keep (hcD j hjl).2 hb2
              obtain ⟨hvl, hvr⟩ := hv.at_ hjl
              have hr0 : 0 ≤ nr D j := hvr.1
              have hr1 : nr D j < 5 := hvr.2
              have q1 : (0 : Int) ≤ (j : Int) := ha1.1
              have q2 : (j : Int) < (D.length : Int) := by omega
              clear ha1 hcD
              cases h3 : insA (nl D j) x
              · have h3' : (bits BinOp.and IntKind.i64 (nl D j) x == nl D j) = false := h3
                have h3'' : (bits BinOp.and IntKind.i64 (nl D j) x != nl D j) = true := by simp [bne, h3']
                have HE : Hid (chk D r S l = false) := by rw [← HR.out, HC.out]; unfold stepOk; rw [h1]; simp only [e1, Int.toNat_natCast, h3]; rfl
                clear HR HC h3
                replace hb := hb2
                clear hb2
                go_wp2_with fail
                (refine wp_region_after (by kernel_rfl) (by kernel_rfl) ?_; have q_c0 := fun (x : After _) => cell_keep c0 x.bel; have q_c1 := fun (x : After _) => cell_keep c1 x.bel; have q_c2 := fun (x : After _) => cell_keep c2 x.bel; have q_d0 := fun (x : After _) => cell_keep d0 x.bel; have q_d1 := fun (x : After _) => cell_keep d1 x.bel; (repeat (go_big_quiet_step ((first | (go_at_call 109; exact Ans.after (Ans.eqb (c_l1In _ _ _ _) h1)))))); clear q_c0; clear q_c1; clear q_c2; clear q_d0; clear q_d1; refine wpQuiet_nil ?_; rintro _ ⟨⟨w1, hbn⟩, rfl⟩; (try simp only [After.w]); replace c0 := cell_keep c0 hbn; replace c1 := cell_keep c1 hbn; replace c2 := cell_keep c2 hbn; replace d0 := cell_keep d0 hbn; replace d1 := cell_keep d1 hbn; replace hb := bel_to (w := w) (by first | exact hb | exact hb.alloc hb.size _ | exact (hb.alloc hb.size _).alloc (Nat.le_trans hb.size (by simp)) _ | exact hb.setCell (by simp [hb.size]) _) hbn; clear hbn)
                go_wp2
                go_ret
                exact ⟨ret_bool (by rw [HM.out, HE.out]), hb⟩
              · have h3' : (bits BinOp.and IntKind.i64 (nl D j) x == nl D j) = true := h3
                have h3'' : (bits BinOp.and IntKind.i64 (nl D j) x != nl D j) = false := by simp [bne, h3']
                cases h4 : (c == uni x (one (nr D j)))
                · have h4' : (c == bits BinOp.or IntKind.i64 x (wrap64 (2 ^ (nr D j).toNat))) = false := h4
                  have h4'' : (c != bits BinOp.or IntKind.i64 x (wrap64 (2 ^ (nr D j).toNat))) = true := by simp [bne, h4']
                  have HE : Hid (chk D r S l = false) := by rw [← HR.out, HC.out]; unfold stepOk; rw [h1]; simp only [e1, Int.toNat_natCast, h3, h4]; rfl
                  clear HR HC h3 h4
                  replace hb := hb2
                  clear hb2
                  go_wp2_with fail
                  (refine wp_region_after (by kernel_rfl) (by kernel_rfl) ?_; have q_c0 := fun (x : After _) => cell_keep c0 x.bel; have q_c1 := fun (x : After _) => cell_keep c1 x.bel; have q_c2 := fun (x : After _) => cell_keep c2 x.bel; have q_d0 := fun (x : After _) => cell_keep d0 x.bel; have q_d1 := fun (x : After _) => cell_keep d1 x.bel; (repeat (go_big_quiet_step ((first | (go_at_call 109; exact Ans.after (Ans.eqb (c_l1In _ _ _ _) h1)))))); clear q_c0; clear q_c1; clear q_c2; clear q_d0; clear q_d1; refine wpQuiet_nil ?_; rintro _ ⟨⟨w1, hbn⟩, rfl⟩; (try simp only [After.w]); replace c0 := cell_keep c0 hbn; replace c1 := cell_keep c1 hbn; replace c2 := cell_keep c2 hbn; replace d0 := cell_keep d0 hbn; replace d1 := cell_keep d1 hbn; replace hb := bel_to (w := w) (by first | exact hb | exact hb.alloc hb.size _ | exact (hb.alloc hb.size _).alloc (Nat.le_trans hb.size (by simp)) _ | exact hb.setCell (by simp [hb.size]) _) hbn; clear hbn)
                  go_wp2
                  go_ret
                  exact ⟨ret_bool (by rw [HM.out, HE.out]), hb⟩
                · have h4' : (c == bits BinOp.or IntKind.i64 x (wrap64 (2 ^ (nr D j).toNat))) = true := h4
                  have h4'' : (c != bits BinOp.or IntKind.i64 x (wrap64 (2 ^ (nr D j).toNat))) = false := by simp [bne, h4']
                  have HE : Hid (chk D r (S.drop (k + 1)) c = chk D r S l) := by rw [← HR.out, HC.out]; unfold stepOk; rw [h1]; simp only [e1, Int.toNat_natCast, h3, h4]; rfl
                  have HST : Hid (St c) := by rw [show c = uni x (one (nr D j)) by simpa using h4]; exact uni_st hx (one_st hvr)
                  clear HR HC h3 h4
                  replace hb := hb2
                  clear hb2
                  go_wp2_with fail
                  (refine wp_region_after (by kernel_rfl) (by kernel_rfl) ?_; have q_c0 := fun (x : After _) => cell_keep c0 x.bel; have q_c1 := fun (x : After _) => cell_keep c1 x.bel; have q_c2 := fun (x : After _) => cell_keep c2 x.bel; have q_d0 := fun (x : After _) => cell_keep d0 x.bel; have q_d1 := fun (x : After _) => cell_keep d1 x.bel; have q_b0 := fun (x : After _) => cell_keep b0 x.bel; have q_b1 := fun (x : After _) => cell_keep b1 x.bel; (repeat (go_big_quiet_step ((first | (go_at_call 109; exact Ans.after (Ans.eqb (c_l1In _ _ _ _) h1)))))); clear q_c0; clear q_c1; clear q_c2; clear q_d0; clear q_d1; clear q_b0; clear q_b1; refine wpQuiet_nil ?_; rintro _ ⟨⟨w1, hbn⟩, rfl⟩; (try simp only [After.w]); replace c0 := cell_keep c0 hbn; replace c1 := cell_keep c1 hbn; replace c2 := cell_keep c2 hbn; replace d0 := cell_keep d0 hbn; replace d1 := cell_keep d1 hbn; replace b0 := cell_keep b0 hbn; replace b1 := cell_keep b1 hbn; replace hb := bel_to (w := w) (by first | exact hb | exact hb.alloc hb.size _ | exact (hb.alloc hb.size _).alloc (Nat.le_trans hb.size (by simp)) _ | exact hb.setCell (by simp [hb.size]) _) hbn; clear hbn)
                  go_wp2
                  go_roundw
                  case rel => exact ⟨c, k + 1, rfl, by go_num, by omega, HST.out, HE.out, b0, b1, hb⟩
                  case measure => simp [intOf]; omega
        · have hkk : k = S.length := by omega
          have HE : Hid (hasc x r = chk D r S l) := by rw [← HR.out, hkk, List.drop_length]; rfl
          clear hkk HR
          go_wp2
          go_ret
          exact ⟨ret_bool (by rw [HM.out, ← HE.out]; rfl), hb⟩
end Go.Proofs.Ytjbmpnbfiahdhaa
namespace Go.Proofs.Ytjbmpnbfiahdhaa
open Go.RowKit
set_option linter.unusedVariables false
set_option maxRecDepth 100000

theorem cap_le {x y : Int} (hx : St x) (hy : St y) : 0 ≤ cap x y ∧ cap x y ≤ x := by
  obtain ⟨n, hn, rfl⟩ := st_nat hx; obtain ⟨m, hm, rfl⟩ := st_nat hy
  have h : ∀ n < 32, ∀ m < 32, 0 ≤ cap ((n : Nat) : Int) ((m : Nat) : Int) ∧ cap ((n : Nat) : Int) ((m : Nat) : Int) ≤ ((n : Nat) : Int) := by decide +kernel
  exact h n hn m hm
theorem cap_ins_left {x y : Int} (hx : St x) (hy : St y) : ins (cap x y) x = true :=
  (ins_iff (cap_st hx hy) hx).2 fun c hc h => by rw [hasc_cap hx hy hc, Bool.and_eq_true] at h; exact h.1
theorem cap_ins_right {x y : Int} (hx : St x) (hy : St y) : ins (cap x y) y = true :=
  (ins_iff (cap_st hx hy) hy).2 fun c hc h => by rw [hasc_cap hx hy hc, Bool.and_eq_true] at h; exact h.2
theorem closed_iff {D : List (Int × Int)} {x : Int} (hv : Val D) (hx : St x) : (cloF D x == x) = true ↔ Closed D x := by
  constructor
  · intro h
    have e : cloF D x = x := by simpa using h
    have := cloF_closed hv hx
    rw [e] at this; exact this
  · intro h; rw [cloF_same hv hx h]; simp
theorem closed_cap {D : List (Int × Int)} {x y : Int} (hv : Val D) (hx : St x) (hy : St y) (h : Closed D x) (h' : Closed D y) : Closed D (cap x y) := by
  intro d hd hi
  obtain ⟨h1, h2⟩ := hv d hd
  rw [hasc_cap hx hy h2, h d hd (ins_trans h1 (cap_st hx hy) hx hi (cap_ins_left hx hy)), h' d hd (ins_trans h1 (cap_st hx hy) hy hi (cap_ins_right hx hy))]
  rfl
theorem closedSets_mem {n x : Int} {D : List (Int × Int)} (h : areDepsF n D = true) : x ∈ closedSetsF n D ↔ 0 ≤ x ∧ x < 2 ^ n.toNat ∧ St x ∧ Closed D x := by
  obtain ⟨hv, h1, h5, _⟩ := areDepsF_val h
  have hp := pow_nat (n := n) (by omega) h5
  unfold closedSetsF
  rw [if_pos h, flt_mem, hp.1]
  constructor
  · rintro ⟨⟨h0, h2⟩, h3⟩
    have hs : St x := ⟨h0, by omega⟩
    exact ⟨h0, h2, hs, (closed_iff hv hs).1 h3⟩
  · rintro ⟨h0, h2, h3, h4⟩
    exact ⟨⟨h0, h2⟩, (closed_iff hv h3).2 h4⟩
theorem closedSets_cap {n x y : Int} {D : List (Int × Int)} (hx : x ∈ closedSetsF n D) (hy : y ∈ closedSetsF n D) : cap x y ∈ closedSetsF n D := by
  cases h : areDepsF n D with
  | false => unfold closedSetsF at hx; rw [h] at hx; simp at hx
  | true =>
    have hv := (areDepsF_val h).1
    rw [closedSets_mem h] at hx hy ⊢
    obtain ⟨x0, x1, x2, x3⟩ := hx
    obtain ⟨y0, y1, y2, y3⟩ := hy
    have := cap_le x2 y2
    exact ⟨this.1, by omega, cap_st x2 y2, closed_cap hv x2 y2 x3 y3⟩
theorem implies_closed {D : List (Int × Int)} {l r c : Int} (hv : Val D) (hl : St l) (hr : Co r) (hc : St c) (h : impF D l r = true) (hcl : Closed D c) (hi : ins l c = true) : hasc c r = true :=
  (ins_iff (cloF_st hv hl) hc).1 (cloF_min hv hl hc hi hcl) r hr h
theorem closedSets_impl {n l r c : Int} {D : List (Int × Int)} (h : impliesDepF n D l r = true) (hc : c ∈ closedSetsF n D) (hi : ins l c = true) : hasc c r = true := by
  unfold impliesDepF at h
  simp only [Bool.and_eq_true] at h
  obtain ⟨ha, hd, hp⟩ := h
  obtain ⟨⟨hl, hr⟩, _⟩ := isDepF_val hd
  rw [closedSets_mem ha] at hc
  exact implies_closed (areDepsF_val ha).1 hl hr hc.2.2.1 hp hc.2.2.2 hi
theorem cloF_mono {D : List (Int × Int)} {x y : Int} (hv : Val D) (hx : St x) (hy : St y) (h : ins x y = true) : ins (cloF D x) (cloF D y) = true :=
  cloF_min hv hx (cloF_st hv hy) (ins_trans hx hy (cloF_st hv hy) h (cloF_up hv hy)) (cloF_closed hv hy)
theorem bits_below : ∀ N < 6, ∀ x < 32, ∀ c < 5, ((x : Nat) : Int) < 2 ^ N → hasc ((x : Nat) : Int) ((c : Nat) : Int) = true → c < N := by decide +kernel
theorem bit_below {N : Nat} {x c : Int} (hN : N ≤ 5) (hx : St x) (hc : Co c) (hlt : x < 2 ^ N) (h : hasc x c = true) : c < N := by
  obtain ⟨a, ha, rfl⟩ := st_nat hx; obtain ⟨k, hk, rfl⟩ := co_nat hc
  have := bits_below N (by omega) a ha k hk hlt h
  omega
theorem full_bits : ∀ N < 6, ∀ x < 32, (∀ c < 5, hasc ((x : Nat) : Int) ((c : Nat) : Int) = true → c < N) → ((x : Nat) : Int) < 2 ^ N := by decide +kernel
theorem below_of_bits {N : Nat} {x : Int} (hN : N ≤ 5) (hx : St x) (h : ∀ c, Co c → hasc x c = true → c < N) : x < 2 ^ N := by
  obtain ⟨a, ha, rfl⟩ := st_nat hx
  exact full_bits N (by omega) a ha fun c hc hh => by have := h c (by unfold Co; omega) hh; omega
theorem allN_bits : ∀ N < 6, ∀ c < 5, hasc (2 ^ N - 1) ((c : Nat) : Int) = decide (c < N) := by decide +kernel
theorem allN_st : ∀ N < 6, (0 : Int) ≤ 2 ^ N - 1 ∧ (2 : Int) ^ N - 1 < 32 := by decide +kernel
/-- The closure under dependencies on n columns stays among these. -/
theorem clo_below {N : Nat} {D : List (Int × Int)} {s : Int} (hN : N ≤ 5) (hv : Val D) (hD : ∀ d ∈ D, d.2 < N) (hs : St s) (hlt : s < 2 ^ N) : cloF D s < 2 ^ N := by
  have hz : St (2 ^ N - 1) := allN_st N (by omega)
  have hb : ∀ c, Co c → hasc (2 ^ N - 1) c = decide (c < N) := fun c hc => by
    obtain ⟨k, hk, rfl⟩ := co_nat hc
    rw [allN_bits N (by omega) k hk, decide_eq_decide]; omega
  have hi : ins s (2 ^ N - 1) = true := (ins_iff hs hz).2 fun c hc h => by rw [hb c hc]; exact decide_eq_true (bit_below hN hs hc hlt h)
  have := cloF_min hv hs hz hi (fun d hd _ => by rw [hb _ (hv d hd).2]; exact decide_eq_true (hD d hd))
  exact below_of_bits hN (cloF_st hv hs) fun c hc h => by
    have h2 := (ins_iff (cloF_st hv hs) hz).1 this c hc h
    rw [hb c hc] at h2
    exact of_decide_eq_true h2
end Go.Proofs.Ytjbmpnbfiahdhaa
namespace Go.Proofs.Ytjbmpnbfiahdhaa
open Go.RowKit
set_option linter.unusedVariables false
set_option maxRecDepth 100000

def sameB (R : List (List Int)) (m s : Int) (i k : Nat) : Bool := ins s (agreeF m (row R i) (row R k))
def tkQ (q : Nat → Nat → Bool) (i k : Nat) : Bool := (List.range i).any fun j => decide (j < k) && q j k
def clsTo (q : Nat → Nat → Bool) (i t : Nat) : List Int := (i : Int) :: (((List.range t).filter fun k => decide (i < k) && q i k).map fun (k : Nat) => (k : Int))
def headQ (q : Nat → Nat → Bool) (N j : Nat) : Bool := !tkQ q j j && decide (1 < (clsTo q j N).length)
def ptnQ (q : Nat → Nat → Bool) (N i : Nat) : List (List Int) := ((List.range i).filter (headQ q N)).map fun j => clsTo q j N
/-- What lies in one class with the same row lies in one class. -/
structure Per (q : Nat → Nat → Bool) (N : Nat) : Prop where
  tr : ∀ i j k, i < N → j < N → q i j = true → q j k = true → q i k = true
  eu : ∀ i j k, i < N → j < N → q j k = true → q i k = true → q j i = true
def ptnOk (n : Int) (R : List (List Int)) (m s : Int) : Bool := (isTabF n R && modeF m) && isAttr n s
def ptnF (n : Int) (R : List (List Int)) (m s : Int) : List (List Int) := if ptnOk n R m s then ptnQ (sameB R m s) R.length R.length else []

theorem eqCell_iff {m a b : Int} : eqCellF m a b = true ↔ modeF m = true ∧ a = b ∧ (m = 0 ∨ a ≠ -1) := by
  unfold eqCellF; simp
theorem eqCell_trans {m a b c : Int} (h : eqCellF m a b = true) (k : eqCellF m b c = true) : eqCellF m a c = true := by
  rw [eqCell_iff] at *
  obtain ⟨h1, rfl, h3⟩ := h
  exact ⟨h1, k.2.1, h3⟩
theorem eqCell_symm {m a b : Int} (h : eqCellF m a b = true) : eqCellF m b a = true := by
  rw [eqCell_iff] at *
  obtain ⟨h1, rfl, h3⟩ := h
  exact ⟨h1, rfl, h3⟩
theorem eqCell_euc {m a b c : Int} (h : eqCellF m a b = true) (k : eqCellF m c b = true) : eqCellF m a c = true := eqCell_trans h (eqCell_symm k)
theorem hasc_agreeTo {m : Int} {A B : List Int} {c : Int} (hc : Co c) : ∀ k, k ≤ 5 → hasc ((List.range k).foldl (agreeStep m A B) 0) c = (decide (c.toNat < k) && eqCellF m (nth A c.toNat) (nth B c.toNat))
  | 0, _ => by
    obtain ⟨j, hj, rfl⟩ := co_nat hc
    have h : ∀ j < 5, hasc 0 ((j : Nat) : Int) = false := by decide +kernel
    simp [h j hj]
  | k + 1, hk => by
    have ih := hasc_agreeTo (m := m) (A := A) (B := B) hc k (by omega)
    have hst : ∀ k, k ≤ 5 → St ((List.range k).foldl (agreeStep m A B) 0) := by
      intro k
      induction k with
      | zero => intro _; exact ⟨by simp, by simp⟩
      | succ k ih => intro hk; rw [range_succ_fold]; exact agreeStep_st (ih (by omega)) (by omega)
    rw [range_succ_fold]
    generalize hx : (List.range k).foldl (agreeStep m A B) 0 = x at *
    have hs : St x := by rw [← hx]; exact hst k (by omega)
    have hck : Co (k : Int) := ⟨by omega, by omega⟩
    have hc0 := hc.1
    unfold agreeStep
    by_cases e : c.toNat = k
    · have ec : c = (k : Int) := by omega
      subst ec
      cases he : eqCellF m (nth A k) (nth B k)
      · simp [ih, he]
      · simp only [if_true]
        rw [hasc_uni hs (one_st hck) hck, hasc_one hck hck]
        simp [he]
    · have e1 : decide (c.toNat < k + 1) = decide (c.toNat < k) := by rw [decide_eq_decide]; omega
      rw [e1, ← ih]
      split
      · rw [hasc_uni hs (one_st hck) hc, hasc_one hck hc]
        have : ((k : Int) == c) = false := by simp; omega
        rw [this, Bool.or_false]
      · rfl
theorem hasc_agree {m : Int} {A B : List Int} {c : Int} (hc : Co c) (h : A.length ≤ 5) : hasc (agreeF m A B) c = (decide (c.toNat < A.length) && eqCellF m (nth A c.toNat) (nth B c.toNat)) := hasc_agreeTo hc _ h
theorem same_iff {n : Int} {R : List (List Int)} {m s : Int} {i k : Nat} (ht : isTabF n R = true) (hs : St s) (hi : i < R.length) :
    sameB R m s i k = true ↔ ∀ c, Co c → hasc s c = true → c.toNat < n.toNat ∧ eqCellF m (nth (row R i) c.toNat) (nth (row R k) c.toNat) = true := by
  obtain ⟨hn1, hn5, _, hl⟩ := isTab_of ht
  have li := hl i hi
  have hA : (row R i).length ≤ 5 := by omega
  unfold sameB
  rw [ins_iff hs (agreeF_st hA)]
  refine ⟨fun h c hc h1 => ?_, fun h c hc h1 => ?_⟩
  · have h2 := h c hc h1
    rw [hasc_agree hc hA] at h2
    simp only [Bool.and_eq_true, decide_eq_true_eq] at h2
    exact ⟨by omega, h2.2⟩
  · obtain ⟨h2, h3⟩ := h c hc h1
    rw [hasc_agree hc hA, h3, decide_eq_true (show c.toNat < (row R i).length by omega)]; rfl
theorem same_trans {n : Int} {R : List (List Int)} {m s : Int} {i j k : Nat} (ht : isTabF n R = true) (hs : St s) (hi : i < R.length) (hj : j < R.length) (h1 : sameB R m s i j = true) (h2 : sameB R m s j k = true) : sameB R m s i k = true := by
  have q1 := (same_iff ht hs hi).1 h1
  have q2 := (same_iff ht hs hj).1 h2
  refine (same_iff ht hs hi).2 fun c hc h => ?_
  exact ⟨(q1 c hc h).1, eqCell_trans (q1 c hc h).2 (q2 c hc h).2⟩
theorem same_euc {n : Int} {R : List (List Int)} {m s : Int} {i j k : Nat} (ht : isTabF n R = true) (hs : St s) (hi : i < R.length) (hj : j < R.length) (h1 : sameB R m s j k = true) (h2 : sameB R m s i k = true) : sameB R m s j i = true := by
  have q1 := (same_iff ht hs hj).1 h1
  have q2 := (same_iff ht hs hi).1 h2
  refine (same_iff ht hs hj).2 fun c hc h => ?_
  exact ⟨(q1 c hc h).1, eqCell_euc (q1 c hc h).2 (q2 c hc h).2⟩
theorem same_per {n : Int} {R : List (List Int)} {m s : Int} (ht : isTabF n R = true) (hs : St s) : Per (sameB R m s) R.length :=
  ⟨fun _ _ _ hi hj => same_trans ht hs hi hj, fun _ _ _ hi hj => same_euc ht hs hi hj⟩
theorem tk_succ (q : Nat → Nat → Bool) (i k : Nat) : tkQ q (i + 1) k = (tkQ q i k || (decide (i < k) && q i k)) := by
  unfold tkQ; rw [List.range_succ, List.any_append]; simp
theorem tk_iff {q : Nat → Nat → Bool} {i k : Nat} : tkQ q i k = true ↔ ∃ j, j < i ∧ j < k ∧ q j k = true := by
  unfold tkQ
  rw [List.any_eq_true]
  simp only [List.mem_range, Bool.and_eq_true, decide_eq_true_eq]
theorem tk_taken {q : Nat → Nat → Bool} {N i : Nat} (hp : Per q N) (hi : i < N) (h : tkQ q i i = true) (k : Nat) : tkQ q (i + 1) k = tkQ q i k := by
  rw [tk_succ]
  cases e : (decide (i < k) && q i k)
  · simp
  · simp only [Bool.and_eq_true, decide_eq_true_eq] at e
    obtain ⟨j, hj, _, h1⟩ := tk_iff.1 h
    have : tkQ q i k = true := tk_iff.2 ⟨j, hj, by omega, hp.tr _ _ _ (by omega) hi h1 e.2⟩
    rw [this]; rfl
theorem tk_free {q : Nat → Nat → Bool} {N i k : Nat} (hp : Per q N) (hi : i < N) (h : tkQ q i i = false) (hk : q i k = true) : tkQ q i k = false := by
  cases e : tkQ q i k
  · rfl
  · obtain ⟨j, hj, _, h1⟩ := tk_iff.1 e
    have : tkQ q i i = true := tk_iff.2 ⟨j, hj, hj, hp.eu _ _ _ hi (by omega) h1 hk⟩
    rw [h] at this; cases this
theorem cls_succ (q : Nat → Nat → Bool) (i t : Nat) : clsTo q i (t + 1) = clsTo q i t ++ (if decide (i < t) && q i t then [(t : Int)] else []) := by
  unfold clsTo
  rw [List.range_succ, List.filter_append, List.map_append, List.cons_append]
  congr 2
  cases h : (decide (i < t) && q i t) <;> simp [h]
theorem cls_first (q : Nat → Nat → Bool) (i : Nat) : clsTo q i (i + 1) = [(i : Int)] := by
  unfold clsTo
  have : (List.range (i + 1)).filter (fun k => decide (i < k) && q i k) = [] := by
    rw [List.filter_eq_nil_iff]
    intro k hk
    have := List.mem_range.1 hk
    rw [decide_eq_false (show ¬ i < k by omega)]; simp
  rw [this]; rfl
theorem cls_len (q : Nat → Nat → Bool) (i t : Nat) : (clsTo q i t).length ≤ t + 1 := by
  unfold clsTo
  rw [List.length_cons, List.length_map]
  have := List.length_filter_le (fun k => decide (i < k) && q i k) (List.range t)
  rw [List.length_range] at this
  omega
theorem cls_mem {q : Nat → Nat → Bool} {i t : Nat} {x : Int} : x ∈ clsTo q i t ↔ x = i ∨ ∃ k : Nat, x = k ∧ k < t ∧ i < k ∧ q i k = true := by
  unfold clsTo
  rw [List.mem_cons, List.mem_map]
  simp only [List.mem_filter, List.mem_range, Bool.and_eq_true, decide_eq_true_eq]
  constructor
  · rintro (h | ⟨k, ⟨h1, h2, h3⟩, rfl⟩)
    · exact .inl h
    · exact .inr ⟨k, rfl, h1, h2, h3⟩
  · rintro (h | ⟨k, rfl, h1, h2, h3⟩)
    · exact .inl h
    · exact .inr ⟨k, ⟨h1, h2, h3⟩, rfl⟩
theorem ptn_succ (q : Nat → Nat → Bool) (N i : Nat) : ptnQ q N (i + 1) = ptnQ q N i ++ (if headQ q N i then [clsTo q i N] else []) := by
  unfold ptnQ
  rw [List.range_succ, List.filter_append, List.map_append]
  cases h : headQ q N i <;> simp [h]
theorem ptn_len (q : Nat → Nat → Bool) (N i : Nat) : (ptnQ q N i).length ≤ i := by
  unfold ptnQ
  rw [List.length_map]
  have := List.length_filter_le (headQ q N) (List.range i)
  rw [List.length_range] at this
  omega
theorem ptn_mem {q : Nat → Nat → Bool} {N i : Nat} {C : List Int} : C ∈ ptnQ q N i ↔ ∃ j, j < i ∧ headQ q N j = true ∧ C = clsTo q j N := by
  unfold ptnQ
  rw [List.mem_map]
  simp only [List.mem_filter, List.mem_range]
  constructor
  · rintro ⟨j, ⟨h1, h2⟩, rfl⟩; exact ⟨j, h1, h2, rfl⟩
  · rintro ⟨j, h1, h2, rfl⟩; exact ⟨j, ⟨h1, h2⟩, rfl⟩
theorem ptn_row {q : Nat → Nat → Bool} {N i j : Nat} (hj : j < (ptnQ q N i).length) : (row (ptnQ q N i) j).length ≤ N + 1 := by
  obtain ⟨k, _, _, e⟩ := ptn_mem.1 (row_mem hj)
  rw [e]; exact cls_len ..
theorem ptn_flat {q : Nat → Nat → Bool} {N : Nat} (hp : Per q N) {i k : Nat} (hik : i ≤ k) (hk : k < N) : (k : Int) ∈ (ptnQ q N i).flatten ↔ tkQ q i k = true := by
  rw [List.mem_flatten]
  constructor
  · rintro ⟨C, hC, hx⟩
    obtain ⟨j, hj, _, rfl⟩ := ptn_mem.1 hC
    rcases cls_mem.1 hx with e | ⟨t, e, _, h2, h3⟩
    · omega
    · have : t = k := by omega
      subst this
      exact tk_iff.2 ⟨j, hj, h2, h3⟩
  · intro h
    have hex : ∃ j, j < i ∧ j < k ∧ q j k = true := tk_iff.1 h
    have hmin : ∃ j, (j < i ∧ j < k ∧ q j k = true) ∧ ∀ t, t < j → ¬ (t < i ∧ t < k ∧ q t k = true) := by
      obtain ⟨j, hj⟩ := hex
      induction j using Nat.strongRecOn with
      | _ j ih =>
        by_cases hq : ∃ t, t < j ∧ (t < i ∧ t < k ∧ q t k = true)
        · obtain ⟨t, h1, h2⟩ := hq; exact ih t h1 h2
        · exact ⟨j, hj, fun t h1 h2 => hq ⟨t, h1, h2⟩⟩
    obtain ⟨j, ⟨h1, h2, h3⟩, hlow⟩ := hmin
    have hm : (k : Int) ∈ clsTo q j N := cls_mem.2 (.inr ⟨k, rfl, hk, h2, h3⟩)
    refine ⟨clsTo q j N, ptn_mem.2 ⟨j, h1, ?_, rfl⟩, hm⟩
    unfold headQ
    have e1 : tkQ q j j = false := by
      cases e : tkQ q j j
      · rfl
      · obtain ⟨t, h4, _, h5⟩ := tk_iff.1 e
        exact absurd ⟨by omega, by omega, hp.tr _ _ _ (by omega) (by omega) h5 h3⟩ (hlow t h4)
    rw [e1]
    have : 1 < (clsTo q j N).length := by
      have hm2 := hm
      unfold clsTo at hm2 ⊢
      rw [List.mem_cons] at hm2
      rcases hm2 with e | hm2
      · omega
      · rw [List.length_cons]
        have := List.length_pos_of_mem hm2
        omega
    simp [this]
theorem flat_len {q : Nat → Nat → Bool} {N : Nat} (hN : N ≤ 40) (i : Nat) : ((ptnQ q N i).flatten).length ≤ 41 * i := by
  induction i with
  | zero => simp [ptnQ]
  | succ i ih =>
    rw [ptn_succ, List.flatten_append, List.length_append]
    have h2 := cls_len q i N
    have h3 : ((if headQ q N i then [clsTo q i N] else []).flatten).length ≤ 41 := by
      split
      · simp only [List.flatten_cons, List.flatten_nil, List.append_nil]; omega
      · simp
    omega
end Go.Proofs.Ytjbmpnbfiahdhaa
namespace Go.Proofs.Ytjbmpnbfiahdhaa
open Go.RowKit
set_option linter.unusedVariables false
set_option maxRecDepth 100000

def heldF (n : Int) (R : List (List Int)) (m : Int) (d : Int × Int) : Bool := askF n R m d.1 d.2 && holdsF R m d.1 d.2
def satF (n : Int) (R : List (List Int)) (m : Int) (D : List (Int × Int)) : Bool := D.all (heldF n R m) && (isTabF n R && modeF m)

set_option maxHeartbeats 400000 in
theorem c_SatisfiesAll (n : Int) (oa) (cap : Nat) (R : List (List Int)) (m : Int) (ob) (cb : Nat) (D : List (Int × Int)) (w : World) (hR : RowsAt w oa R) (hD : DepsAt w ob D) :
    Ans Try.prog 68 #[.agg #[.int .i64 n, .slice oa R.length cap], .int .i64 m, .slice ob D.length cb] w (.bool (satF n R m D)) := by
  unfold Ans
  have hn : D.length ≤ 1073741824 := hD.len
  have hb := (Below.refl w.heap.size w).alloc (Nat.le_refl _) (.cells #[.int .i64 n, .slice oa R.length cap] 26)
  have a0 := box_at w #[.int .i64 n, .slice oa R.length cap] 26 0 _ rfl
  have a1 := box_at w #[.int .i64 n, .slice oa R.length cap] 26 1 _ rfl
  cases ht : isTabF n R
  · have HM : Hid (satF n R m D = false) := by show satF n R m D = false; unfold satF; rw [ht]; simp
    go_enter Try.func68, Try.ntmps68
    go_wp2_with (first | (go_at_call 67; refine Calls.mono (Ans.eqb (c_IsTable _ _ _ _ _ (hR.keep hb)) ht) ?_; rintro e w1 ⟨rfl, hbn⟩; replace a0 := cell_keep a0 hbn; replace a1 := cell_keep a1 hbn; replace hb := bel_to (w := w) (by first | exact hb | exact hb.alloc hb.size _ | exact (hb.alloc hb.size _).alloc (Nat.le_trans hb.size (by simp)) _ | exact hb.setCell (by simp [hb.size]) _) hbn; clear hbn))
    go_ret
    exact ⟨ret_bool HM.out.symm, hb⟩
  cases hm : modeF m
  · have HM : Hid (satF n R m D = false) := by show satF n R m D = false; unfold satF; rw [ht, hm]; simp
    go_enter Try.func68, Try.ntmps68
    go_wp2_with (first | (go_at_call 67; refine Calls.mono (Ans.eqb (c_IsTable _ _ _ _ _ (hR.keep hb)) ht) ?_; rintro e w1 ⟨rfl, hbn⟩; replace a0 := cell_keep a0 hbn; replace a1 := cell_keep a1 hbn; replace hb := bel_to (w := w) (by first | exact hb | exact hb.alloc hb.size _ | exact (hb.alloc hb.size _).alloc (Nat.le_trans hb.size (by simp)) _ | exact hb.setCell (by simp [hb.size]) _) hbn; clear hbn) | (go_at_call 92; refine Calls.mono (Ans.eqb (c_isMode _ _) hm) ?_; rintro e w1 ⟨rfl, hbn⟩; replace a0 := cell_keep a0 hbn; replace a1 := cell_keep a1 hbn; replace hb := bel_to (w := w) (by first | exact hb | exact hb.alloc hb.size _ | exact (hb.alloc hb.size _).alloc (Nat.le_trans hb.size (by simp)) _ | exact hb.setCell (by simp [hb.size]) _) hbn; clear hbn))
    go_ret
    exact ⟨ret_bool HM.out.symm, hb⟩
  have HM : Hid (satF n R m D = D.all (heldF n R m)) := by show satF n R m D = _; unfold satF; rw [ht, hm]; simp
  go_enter Try.func68, Try.ntmps68
  go_wp2_with (first | (go_at_call 67; refine Calls.mono (Ans.eqb (c_IsTable _ _ _ _ _ (hR.keep hb)) ht) ?_; rintro e w1 ⟨rfl, hbn⟩; replace a0 := cell_keep a0 hbn; replace a1 := cell_keep a1 hbn; replace hb := bel_to (w := w) (by first | exact hb | exact hb.alloc hb.size _ | exact (hb.alloc hb.size _).alloc (Nat.le_trans hb.size (by simp)) _ | exact hb.setCell (by simp [hb.size]) _) hbn; clear hbn) | (go_at_call 92; refine Calls.mono (Ans.eqb (c_isMode _ _) hm) ?_; rintro e w1 ⟨rfl, hbn⟩; replace a0 := cell_keep a0 hbn; replace a1 := cell_keep a1 hbn; replace hb := bel_to (w := w) (by first | exact hb | exact hb.alloc hb.size _ | exact (hb.alloc hb.size _).alloc (Nat.le_trans hb.size (by simp)) _ | exact hb.setCell (by simp [hb.size]) _) hbn; clear hbn))
  go_loopw [19] (fun i wr => ∃ k : Nat, i = .int .i64 k ∧ k ≤ D.length ∧ (D.take k).all (heldF n R m) = true ∧ wr.cell? ⟨w.heap.size, 0, none⟩ = some (.int .i64 n) ∧ wr.cell? ⟨w.heap.size, 1, none⟩ = some (.slice oa R.length cap) ∧ Below w.heap.size w wr) (fun i _ => D.length - (intOf i).toNat)
  case atStart => exact ⟨0, rfl, Nat.zero_le _, by simp, a0, a1, hb⟩
  case round =>
    clear a0 a1 hb
    obtain ⟨k, rfl, hk, hall, a0, a1, hb⟩ := hrel
    have HA : Hid ((D.take k).all (heldF n R m) = true) := hall
    clear hall
    by_cases hlt : k < D.length
    · obtain ⟨b, off, rfl, hbs, hc⟩ := hD.at_ (by omega)
      have hc1 := cell_keep (hc k hlt).1 hb
      have hc2 := cell_keep (hc k hlt).2 hb
      have HT : Hid ((D.take (k + 1)).all (heldF n R m) = ((D.take k).all (heldF n R m) && heldF n R m (nl D k, nr D k))) := dall_take_succ _ D k hlt
      have HF : Hid (heldF n R m (nl D k, nr D k) = false → D.all (heldF n R m) = false) := dall_false _ D k hlt
      clear hc
      generalize nl D k = l at *
      generalize nr D k = r at *
      replace a0 := cell_keep a0 ((Below.refl _ _).alloc (Nat.le_refl _) (.cells #[.int .i64 l, .int .i64 r] 55))
      replace a1 := cell_keep a1 ((Below.refl _ _).alloc (Nat.le_refl _) (.cells #[.int .i64 l, .int .i64 r] 55))
      cases hh : (askF n R m l r && holdsF R m l r)
      · go_wp2_with (first | (go_at_call 52; refine Calls.mono (Ans.eqb (c_HoldsDep _ _ _ _ _ _ _ _ (hR.keep (hb.alloc hb.size _))) hh) ?_; rintro e w1 ⟨rfl, hbn⟩; replace a0 := cell_keep a0 hbn; replace a1 := cell_keep a1 hbn; replace hb := bel_to (w := w) (by first | exact hb | exact hb.alloc hb.size _ | exact (hb.alloc hb.size _).alloc (Nat.le_trans hb.size (by simp)) _ | exact hb.setCell (by simp [hb.size]) _) hbn; clear hbn))
        go_ret
        exact ⟨ret_bool (by rw [HM.out, HF.out hh]), hb⟩
      · go_wp2_with (first | (go_at_call 52; refine Calls.mono (Ans.eqb (c_HoldsDep _ _ _ _ _ _ _ _ (hR.keep (hb.alloc hb.size _))) hh) ?_; rintro e w1 ⟨rfl, hbn⟩; replace a0 := cell_keep a0 hbn; replace a1 := cell_keep a1 hbn; replace hb := bel_to (w := w) (by first | exact hb | exact hb.alloc hb.size _ | exact (hb.alloc hb.size _).alloc (Nat.le_trans hb.size (by simp)) _ | exact hb.setCell (by simp [hb.size]) _) hbn; clear hbn))
        go_roundw
        case rel => exact ⟨k + 1, by go_num, by omega, by rw [HT.out, HA.out]; exact hh, a0, a1, hb⟩
        case measure => simp [intOf]; omega
    · have hkk : k = D.length := by omega
      have HS : Hid (D.all (heldF n R m) = true) := by have := HA.out; rw [hkk, List.take_length] at this; exact this
      clear hkk
      go_wp2
      go_ret
      exact ⟨ret_bool (by rw [HM.out, HS.out]), hb⟩
set_option maxHeartbeats 400000 in
theorem c_specSatisfiesAll (n : Int) (oa) (cap : Nat) (R : List (List Int)) (m : Int) (ob) (cb : Nat) (D : List (Int × Int)) (w : World) (hR : RowsAt w oa R) (hD : DepsAt w ob D) :
    Ans Try.prog 39 #[.agg #[.int .i64 n, .slice oa R.length cap], .int .i64 m, .slice ob D.length cb] w (.bool (satF n R m D)) := by
  unfold Ans
  have hn : D.length ≤ 1073741824 := hD.len
  have hb := (Below.refl w.heap.size w).alloc (Nat.le_refl _) (.cells #[.int .i64 n, .slice oa R.length cap] 26)
  have a0 := box_at w #[.int .i64 n, .slice oa R.length cap] 26 0 _ rfl
  have a1 := box_at w #[.int .i64 n, .slice oa R.length cap] 26 1 _ rfl
  go_enter Try.func39, Try.ntmps39
  go_wp2
  go_loopw [7] (fun i wr => ∃ k : Nat, i = .int .i64 k ∧ k ≤ D.length ∧ (D.take k).all (heldF n R m) = true ∧ wr.cell? ⟨w.heap.size, 0, none⟩ = some (.int .i64 n) ∧ wr.cell? ⟨w.heap.size, 1, none⟩ = some (.slice oa R.length cap) ∧ Below w.heap.size w wr) (fun i _ => D.length - (intOf i).toNat)
  case atStart => exact ⟨0, rfl, Nat.zero_le _, by simp, a0, a1, hb⟩
  case round =>
    clear a0 a1 hb
    obtain ⟨k, rfl, hk, hall, a0, a1, hb⟩ := hrel
    have HA : Hid ((D.take k).all (heldF n R m) = true) := hall
    clear hall
    by_cases hlt : k < D.length
    · obtain ⟨b, off, rfl, hbs, hc⟩ := hD.at_ (by omega)
      have hc1 := cell_keep (hc k hlt).1 hb
      have hc2 := cell_keep (hc k hlt).2 hb
      have hx := fun (x : After wr) => (hR.keep hb).keep x.bel
      have HT : Hid ((D.take (k + 1)).all (heldF n R m) = ((D.take k).all (heldF n R m) && heldF n R m (nl D k, nr D k))) := dall_take_succ _ D k hlt
      have HF : Hid (heldF n R m (nl D k, nr D k) = false → D.all (heldF n R m) = false) := dall_false _ D k hlt
      clear hc
      generalize nl D k = l at *
      generalize nr D k = r at *
      cases hh : (askF n R m l r && holdsF R m l r)
      · go_wp2_with fail
        (refine wp_region_after (by kernel_rfl) (by kernel_rfl) ?_; have q_a0 := fun (x : After _) => cell_keep a0 x.bel; have q_a1 := fun (x : After _) => cell_keep a1 x.bel; have q_hc1 := fun (x : After _) => cell_keep hc1 x.bel; have q_hc2 := fun (x : After _) => cell_keep hc2 x.bel; (repeat (go_big_quiet_step ((first | (go_at_call 40; exact Ans.after (Ans.eqb (b' := false) (c_specHoldsDep _ _ _ _ _ _ _ _ (hx _)) hh)))))); clear q_a0; clear q_a1; clear q_hc1; clear q_hc2; refine wpQuiet_nil ?_; rintro _ ⟨⟨w1, hbn⟩, rfl⟩; (try simp only [After.w]); replace a0 := cell_keep a0 hbn; replace a1 := cell_keep a1 hbn; replace hc1 := cell_keep hc1 hbn; replace hc2 := cell_keep hc2 hbn; replace hb := bel_to (w := w) (by first | exact hb | exact hb.alloc hb.size _ | exact (hb.alloc hb.size _).alloc (Nat.le_trans hb.size (by simp)) _ | exact hb.setCell (by simp [hb.size]) _) hbn; clear hbn)
        go_wp2
        go_ret
        exact ⟨ret_bool (by unfold satF; rw [HF.out hh]; rfl), hb⟩
      · go_wp2_with fail
        (refine wp_region_after (by kernel_rfl) (by kernel_rfl) ?_; have q_a0 := fun (x : After _) => cell_keep a0 x.bel; have q_a1 := fun (x : After _) => cell_keep a1 x.bel; have q_hc1 := fun (x : After _) => cell_keep hc1 x.bel; have q_hc2 := fun (x : After _) => cell_keep hc2 x.bel; (repeat (go_big_quiet_step ((first | (go_at_call 40; exact Ans.after (Ans.eqb (b' := true) (c_specHoldsDep _ _ _ _ _ _ _ _ (hx _)) hh)))))); clear q_a0; clear q_a1; clear q_hc1; clear q_hc2; refine wpQuiet_nil ?_; rintro _ ⟨⟨w1, hbn⟩, rfl⟩; (try simp only [After.w]); replace a0 := cell_keep a0 hbn; replace a1 := cell_keep a1 hbn; replace hc1 := cell_keep hc1 hbn; replace hc2 := cell_keep hc2 hbn; replace hb := bel_to (w := w) (by first | exact hb | exact hb.alloc hb.size _ | exact (hb.alloc hb.size _).alloc (Nat.le_trans hb.size (by simp)) _ | exact hb.setCell (by simp [hb.size]) _) hbn; clear hbn)
        go_wp2
        go_roundw
        case rel => exact ⟨k + 1, by go_num, by omega, by rw [HT.out, HA.out]; exact hh, a0, a1, hb⟩
        case measure => simp [intOf]; omega
    · have hkk : k = D.length := by omega
      have HS : Hid (D.all (heldF n R m) = true) := by have := HA.out; rw [hkk, List.take_length] at this; exact this
      clear hkk
      go_wp2_with (first | (go_at_call 89; refine Calls.mono (c_l4Fine _ _ _ _ _ _ (hR.keep hb)) ?_; rintro e w1 ⟨rfl, hbn⟩; replace a0 := cell_keep a0 hbn; replace a1 := cell_keep a1 hbn; replace hb := bel_to (w := w) (by first | exact hb | exact hb.alloc hb.size _ | exact (hb.alloc hb.size _).alloc (Nat.le_trans hb.size (by simp)) _ | exact hb.setCell (by simp [hb.size]) _) hbn; clear hbn))
      go_ret
      exact ⟨ret_bool (by unfold satF; rw [HS.out]; rfl), hb⟩
end Go.Proofs.Ytjbmpnbfiahdhaa
namespace Go.Proofs.Ytjbmpnbfiahdhaa
open Go.RowKit
set_option linter.unusedVariables false
set_option maxRecDepth 100000

theorem drv_chk {D : List (Int × Int)} {r x : Int} {i : Nat} {L : List T3} (hv : Val D) (hr : Co r) (h : Drv D r x i L) : St x → (∀ j, j < i → ins (nl D j) x = true → hasc x (nr D j) = true) → hasc (cloF D x) r = true → chk D r L x = true ∧ L.length + card x ≤ 5 := by
  induction h with
  | done h => intro hx _ _; exact ⟨h, by have := card_le; simpa using this _⟩
  | @stop x i h hi =>
    intro hx hall hc
    rw [cloF_same hv hx (closed_of fun j hj => hall j (by omega)), h] at hc
    cases hc
  | @take x i L h hi ha hb hL ih =>
    intro hx hall hc
    obtain ⟨h1, h2⟩ := hv.at_ hi
    have hu := uni_st hx (one_st h2)
    have hup := ins_uni_left hx (one_st h2)
    obtain ⟨k1, k2⟩ := ih hu (fun j hj => absurd hj (by omega)) ((ins_iff (cloF_st hv hx) (cloF_st hv hu)).1 (cloF_mono hv hx hu hup) r hr hc)
    have hlt := card_lt hx hu hup (by have := uni_lt hx h2 hb; omega)
    refine ⟨?_, by simp; omega⟩
    show (stepOk D x ((i : Int), x, uni x (one (nr D i))) && chk D r L (uni x (one (nr D i)))) = true
    rw [k1]
    unfold stepOk inB
    simp only [Int.toNat_natCast]
    rw [insA_eq h1 hx, ha]
    simp
    omega
  | @skip x i L h hi ha hL ih =>
    intro hx hall hc
    exact ih hx (lt_step (p := fun j => ins (nl D j) x = true → hasc x (nr D j) = true) hall (fun hi => by rw [hi] at ha; simpa using ha)) hc
theorem derives_ok {n l r : Int} {D : List (Int × Int)} {L : List T3} (h : Derives n D l r L) : (impliesDepF n D l r = true → checkF n D l r L = true) ∧ L.length ≤ 5 := by
  cases e : impliesDepF n D l r with
  | false => rw [h.2.1 e]; exact ⟨fun h => (by cases h), by simp⟩
  | true =>
    have e' := e
    unfold impliesDepF at e'
    simp only [Bool.and_eq_true] at e'
    obtain ⟨ha, hd, hp⟩ := e'
    obtain ⟨⟨hl, hr⟩, _⟩ := isDepF_val hd
    obtain ⟨k1, k2⟩ := drv_chk (areDepsF_val ha).1 hr (h.1 e) hl (fun j hj => absurd hj (by omega)) hp
    exact ⟨fun _ => by unfold checkF; rw [ha, hd, k1]; rfl, by omega⟩
theorem nth_rep {N k : Nat} (h : k < N) : nth (List.replicate N 0) k = 0 := by simp [nth, List.getD, h]
/-- The columns in which the two rows of the counterexample agree. -/
theorem ctr_agree {N : Nat} {x c v : Int} (hN : N ≤ 5) (hv : v ≠ 0) (hc : Co c) : hasc (agreeF 0 (List.replicate N 0) (rowForF N x v)) c = (decide (c < N) && hasc x c) := by
  have hc0 := hc.1
  rw [hasc_agree hc (by simpa using hN)]
  simp only [List.length_replicate]
  by_cases h : c.toNat < N
  · have h' : c < N := by omega
    have e : ((c.toNat : Nat) : Int) = c := by omega
    rw [decide_eq_true h, decide_eq_true h', nth_rep h, rowFor_nth h, e]
    unfold eqCellF modeF
    cases hh : hasc x c
    · simp; exact fun e => hv e.symm
    · simp
  · have h' : ¬ c < N := by omega
    rw [decide_eq_false h, decide_eq_false h']; rfl
theorem holdsF_two {A B : List Int} {m l r : Int} : holdsF [A, B] m l r = !(ins l (agreeF m A B) && !hasc (agreeF m A B) r) := by
  have e : (∀ i, i < [A, B].length → ∀ k, k < [A, B].length → i < k → violF [A, B] m l r i k = false) ↔ violF [A, B] m l r 0 1 = false := by
    constructor
    · intro h; exact h 0 (by simp) 1 (by simp) (by omega)
    · intro h i hi k hk hik
      simp at hi hk
      have h1 : i = 0 := by omega
      have h2 : k = 1 := by omega
      subst h1 h2; exact h
  unfold holdsF
  rw [decide_eq_decide.2 e]
  show decide ((ins l (agreeF m A B) && !hasc (agreeF m A B) r) = false) = _
  cases (ins l (agreeF m A B) && !hasc (agreeF m A B) r) <;> rfl
theorem rowFor_ok {N : Nat} {x v : Int} (h0 : 0 ≤ v) (h40 : v ≤ 40) : rowOk N (rowForF N x v) = true := by
  unfold rowOk
  rw [rowFor_len, Bool.and_eq_true]
  refine ⟨List.all_eq_true.2 fun y hy => ?_, by simp⟩
  unfold rowForF at hy
  obtain ⟨c, _, rfl⟩ := List.mem_map.1 hy
  unfold inB
  split <;> simp <;> omega
theorem rep_ok0 (N : Nat) : rowOk N (List.replicate N 0) = true := by
  unfold rowOk
  rw [Bool.and_eq_true]
  refine ⟨List.all_eq_true.2 fun y hy => ?_, by simp⟩
  have := List.eq_of_mem_replicate hy
  subst this; rfl
theorem ctr_law {n l r : Int} {D : List (Int × Int)} (h : ctrF n D l r = true) : satF (ctrN n D l r) (ctrO n D l r) 0 D = true ∧ heldF (ctrN n D l r) (ctrO n D l r) 0 (l, r) = false ∧ (ctrO n D l r).length = 2 := by
  obtain ⟨N, rfl, hN⟩ := ctr_pos h
  unfold ctrN ctrO
  rw [if_pos h, if_pos h]
  unfold ctrF at h
  simp only [Bool.and_eq_true, Bool.not_eq_true'] at h
  obtain ⟨ha, hd, hp⟩ := h
  obtain ⟨hv, hn1, hn5, _⟩ := areDepsF_val ha
  obtain ⟨⟨hl, hr⟩, _⟩ := isDepF_val hd
  have hcl := cloF_st hv hl
  have htab : isTabF N [List.replicate N 0, rowForF N (cloF D l) 1] = true := by
    unfold isTabF
    simp only [List.all_cons, List.all_nil, rep_ok0, rowFor_ok (by omega : (0 : Int) ≤ 1) (by omega), Bool.and_self, Bool.true_and, List.length_cons, List.length_nil]
    simp; omega
  have hag := fun {c} (hc : Co c) => ctr_agree (N := N) (x := cloF D l) (v := 1) hN (by decide) hc
  have hst : St (agreeF 0 (List.replicate N 0) (rowForF N (cloF D l) 1)) := agreeF_st (by simpa using hN)
  simp only [Int.toNat_natCast]
  unfold ctrR
  refine ⟨?_, ?_, by simp⟩
  · unfold satF
    rw [htab]
    show (D.all _ && true) = true
    rw [Bool.and_true]
    refine List.all_eq_true.2 fun d hdm => ?_
    have hdd : isDepF N d.1 d.2 = true := by
      unfold areDepsF at ha
      rw [Bool.and_eq_true] at ha
      exact List.all_eq_true.1 ha.1 d hdm
    obtain ⟨⟨h1, h2⟩, _⟩ := isDepF_val hdd
    have hlt : d.2 < N := by unfold isDepF at hdd; simp at hdd; exact hdd.2
    unfold heldF askF
    rw [htab, hdd, holdsF_two]
    show (!(_ && !_)) = true
    cases hi : ins d.1 (agreeF 0 (List.replicate N 0) (rowForF N (cloF D l) 1))
    · rfl
    · have hi2 : ins d.1 (cloF D l) = true := (ins_iff h1 hcl).2 fun c hc hh => by
        have := (ins_iff h1 hst).1 hi c hc hh
        rw [hag hc, Bool.and_eq_true] at this; exact this.2
      rw [hag h2, cloF_closed hv hl d hdm hi2, decide_eq_true hlt]; rfl
  · have hln : l < 2 ^ N := by unfold isDepF isAttr at hd; simp at hd; exact hd.1.1.2.2
    have hi : ins l (agreeF 0 (List.replicate N 0) (rowForF N (cloF D l) 1)) = true := (ins_iff hl hst).2 fun c hc hh => by
      rw [hag hc, (ins_iff hl hcl).1 (cloF_up hv hl) c hc hh, decide_eq_true (bit_below hN hl hc hln hh)]; rfl
    have hp' : hasc (cloF D l) r = false := hp
    unfold heldF
    rw [holdsF_two, hi, hag hr, hp']
    simp
end Go.Proofs.Ytjbmpnbfiahdhaa
namespace Go.Proofs.Ytjbmpnbfiahdhaa
open Go.RowKit
set_option linter.unusedVariables false
set_option maxRecDepth 100000

/-- The rows' sets and numbers. -/
def tagsF (N : Nat) (L : List Int) (k : Nat) : List (Int × Int) := (2 ^ N - 1, 0) :: ((List.range k).filter fun i => !(nth L i == 2 ^ N - 1)).map fun (i : Nat) => (nth L i, (i : Int) + 1)
theorem rowFor_zero (N : Nat) (x : Int) : rowForF N x 0 = List.replicate N 0 := by
  unfold rowForF
  refine List.ext_getElem (by simp) fun i h1 h2 => ?_
  simp
theorem arm_tags (N : Nat) (L : List Int) (k : Nat) : armUpTo N L k = (tagsF N L k).map fun t => rowForF N t.1 t.2 := by
  unfold armUpTo tagsF
  rw [List.map_cons, List.map_map, rowFor_zero]; rfl
theorem tags_up (N : Nat) (L : List Int) (k : Nat) : (tagsF N L k).Pairwise fun a b => a.2 < b.2 := by
  unfold tagsF
  rw [List.pairwise_cons]
  refine ⟨fun t ht => ?_, ?_⟩
  · obtain ⟨i, _, rfl⟩ := List.mem_map.1 ht
    show (0 : Int) < (i : Int) + 1; omega
  · rw [List.pairwise_map]
    exact (List.Pairwise.filter _ List.pairwise_lt_range).imp fun h => by dsimp only; omega
theorem tags_mem {N : Nat} {L : List Int} {k : Nat} {t : Int × Int} (h : t ∈ tagsF N L k) : (t = (2 ^ N - 1, 0)) ∨ (∃ i : Nat, i < k ∧ t = (nth L i, (i : Int) + 1)) := by
  unfold tagsF at h
  rcases List.mem_cons.1 h with h | h
  · exact .inl h
  · obtain ⟨i, hi, e⟩ := List.mem_map.1 h
    exact .inr ⟨i, List.mem_range.1 (List.mem_filter.1 hi).1, e.symm⟩
/-- Where two rows of different numbers agree. -/
theorem arm_agree {N : Nat} {x y v u c : Int} (hN : N ≤ 5) (h0 : 0 ≤ v) (hvu : v < u) (hx : v = 0 → ∀ c, Co c → c < N → hasc x c = true) (hc : Co c) : hasc (agreeF 0 (rowForF N x v) (rowForF N y u)) c = (decide (c < N) && (hasc x c && hasc y c)) := by
  have hc0 := hc.1
  rw [hasc_agree hc (by rw [rowFor_len]; exact hN), rowFor_len]
  by_cases h : c.toNat < N
  · have h' : c < N := by omega
    have e : ((c.toNat : Nat) : Int) = c := by omega
    rw [decide_eq_true h, decide_eq_true h', rowFor_nth h, rowFor_nth h, e]
    unfold eqCellF modeF
    have hxc := fun e => hx e c hc h'
    cases hh : hasc x c
    · have : v ≠ 0 := fun e => by rw [hxc e] at hh; cases hh
      cases hy : hasc y c
      · simp; omega
      · simp; omega
    · cases hy : hasc y c
      · simp; omega
      · simp
  · have h' : ¬ c < N := by omega
    rw [decide_eq_false h, decide_eq_false h']; rfl
theorem all_closed {N : Nat} {D : List (Int × Int)} (ha : areDepsF N D = true) : (2 ^ N - 1 : Int) ∈ closedSetsF N D ∧ ∀ c, Co c → hasc (2 ^ N - 1) c = decide (c < N) := by
  obtain ⟨hv, h1, h5, _⟩ := areDepsF_val ha
  have hN : N ≤ 5 := by omega
  have hz : St (2 ^ N - 1) := allN_st N (by omega)
  have hb : ∀ c, Co c → hasc (2 ^ N - 1) c = decide (c < N) := fun c hc => by
    obtain ⟨k, hk, rfl⟩ := co_nat hc
    rw [allN_bits N (by omega) k hk, decide_eq_decide]; omega
  refine ⟨(closedSets_mem ha).2 ⟨hz.1, by simp only [Int.toNat_natCast]; omega, hz, fun d hd _ => ?_⟩, hb⟩
  rw [hb _ (hv d hd).2]
  unfold areDepsF at ha
  rw [Bool.and_eq_true] at ha
  have := List.all_eq_true.1 ha.1 d hd
  unfold isDepF at this; simp at this; exact decide_eq_true this.2
theorem arm_pair {N : Nat} {D : List (Int × Int)} (ha : areDepsF N D = true) {a b : Int × Int} (hA : a ∈ tagsF N (closedSetsF N D) (closedSetsF N D).length) (hB : b ∈ tagsF N (closedSetsF N D) (closedSetsF N D).length) (hab : a.2 < b.2) :
    a.1 ∈ closedSetsF N D ∧ b.1 ∈ closedSetsF N D ∧ agreeF 0 (rowForF N a.1 a.2) (rowForF N b.1 b.2) = cap a.1 b.1 := by
  obtain ⟨hv, h1, h5, _⟩ := areDepsF_val ha
  have hN : N ≤ 5 := by omega
  obtain ⟨hall, hbits⟩ := all_closed ha
  have mem : ∀ t ∈ tagsF N (closedSetsF N D) (closedSetsF N D).length, t.1 ∈ closedSetsF N D ∧ 0 ≤ t.2 ∧ (t.2 = 0 → t.1 = 2 ^ N - 1) := fun t ht => by
    rcases tags_mem ht with rfl | ⟨i, hi, rfl⟩
    · exact ⟨hall, Int.le_refl _, fun _ => rfl⟩
    · refine ⟨List.mem_iff_getElem?.2 ⟨i, nth_eq hi⟩, by show (0 : Int) ≤ (i : Int) + 1; omega, fun h => ?_⟩
      have h : (i : Int) + 1 = 0 := h
      omega
  obtain ⟨ma, a0, az⟩ := mem a hA
  obtain ⟨mb, b0, _⟩ := mem b hB
  obtain ⟨_, la, sa, _⟩ := (closedSets_mem ha).1 ma
  obtain ⟨_, lb, sb, _⟩ := (closedSets_mem ha).1 mb
  simp only [Int.toNat_natCast] at la lb
  refine ⟨ma, mb, set_ext (agreeF_st (by rw [rowFor_len]; exact hN)) (cap_st sa sb) fun c hc => ?_⟩
  rw [arm_agree hN a0 hab (fun e c hc h => by rw [az e, hbits c hc]; exact decide_eq_true h) hc, hasc_cap sa sb hc]
  cases hh : hasc a.1 c
  · simp
  · rw [decide_eq_true (bit_below hN sa hc la hh)]; rfl
theorem arm_rowAt {N : Nat} {L : List Int} {k j : Nat} (h : j < (tagsF N L k).length) : row (armUpTo N L k) j = rowForF N (tagsF N L k)[j].1 (tagsF N L k)[j].2 := by
  rw [arm_tags]
  unfold row List.getD
  rw [List.getElem?_map, List.getElem?_eq_getElem h]; rfl
/-- In the table holds what follows, and no more. -/
theorem arm_holds {N : Nat} {D : List (Int × Int)} (ha : areDepsF N D = true) {l r : Int} (hl0 : 0 ≤ l) (hl : l < 2 ^ N) (hr0 : 0 ≤ r) (hr : r < N) : holdsF (armUpTo N (closedSetsF N D) (closedSetsF N D).length) 0 l r = impF D l r := by
  obtain ⟨hv, h1, h5, _⟩ := areDepsF_val ha
  have hN : N ≤ 5 := by omega
  have hp := (pow_nat (n := (N : Int)) (by omega) h5)
  simp only [Int.toNat_natCast] at hp
  have sl : St l := ⟨hl0, by omega⟩
  have cr : Co r := ⟨hr0, by omega⟩
  have hlen : (armUpTo N (closedSetsF N D) (closedSetsF N D).length).length = (tagsF N (closedSetsF N D) (closedSetsF N D).length).length := by rw [arm_tags, List.length_map]
  cases hi : impF D l r
  · -- the row of the closure of l
    have scl := cloF_st hv sl
    have hnr : hasc (cloF D l) r = false := hi
    have hD2 : ∀ d ∈ D, d.2 < N := fun d hd => by
      unfold areDepsF at ha
      rw [Bool.and_eq_true] at ha
      have := List.all_eq_true.1 ha.1 d hd
      unfold isDepF at this; simp at this; exact this.2
    have hcb := clo_below hN hv hD2 sl hl
    have hcm : cloF D l ∈ closedSetsF N D := (closedSets_mem ha).2 ⟨scl.1, by simpa using hcb, scl, cloF_closed hv sl⟩
    obtain ⟨hall, hbits⟩ := all_closed ha
    obtain ⟨i, hiL⟩ := List.mem_iff_getElem?.1 hcm
    have hil := (List.getElem?_eq_some_iff.1 hiL).1
    have hni : nth (closedSetsF N D) i = cloF D l := by have := nth_eq hil; rw [hiL] at this; injection this with this; exact this.symm
    have hne : cloF D l ≠ 2 ^ N - 1 := fun e => by
      rw [e, hbits r cr, decide_eq_true hr] at hnr; cases hnr
    have hmem : (cloF D l, (i : Int) + 1) ∈ tagsF N (closedSetsF N D) (closedSetsF N D).length := by
      unfold tagsF
      refine List.mem_cons_of_mem _ (List.mem_map.2 ⟨i, List.mem_filter.2 ⟨List.mem_range.2 hil, by rw [hni]; simpa using hne⟩, by rw [hni]⟩)
    obtain ⟨j, hj, ej⟩ := List.mem_iff_getElem.1 hmem
    have h0 : 0 < (tagsF N (closedSetsF N D) (closedSetsF N D).length).length := by omega
    have e0 : (tagsF N (closedSetsF N D) (closedSetsF N D).length)[0] = (2 ^ N - 1, 0) := rfl
    have hj0 : 0 < j := by
      rcases Nat.eq_zero_or_pos j with h | h
      · subst h
        rw [e0] at ej
        have := congrArg Prod.snd ej
        have : (0 : Int) = (i : Int) + 1 := this
        omega
      · exact h
    refine holdsF_no hj0 (by rw [hlen]; exact hj) ?_
    unfold violF
    rw [arm_rowAt h0, arm_rowAt hj]
    obtain ⟨_, _, hag⟩ := arm_pair ha (List.getElem_mem h0) (List.getElem_mem hj) (by rw [e0, ej]; show (0 : Int) < (i : Int) + 1; omega)
    rw [hag, e0, ej]
    have hcap : cap (2 ^ N - 1) (cloF D l) = cloF D l := by
      have hz : St ((2 : Int) ^ N - 1) := allN_st N (by omega)
      refine set_ext (cap_st hz scl) scl fun c hc => ?_
      rw [hasc_cap hz scl hc, hbits c hc]
      cases hh : hasc (cloF D l) c
      · simp
      · rw [decide_eq_true (bit_below hN scl hc hcb hh)]; rfl
    rw [hcap, cloF_up hv sl, hnr]; rfl
  · unfold holdsF
    refine decide_eq_true fun i hi' k hk hik => ?_
    rw [hlen] at hi' hk
    have hlt := List.pairwise_iff_getElem.1 (tags_up N (closedSetsF N D) (closedSetsF N D).length) i k hi' hk hik
    obtain ⟨ma, mb, hag⟩ := arm_pair ha (List.getElem_mem hi') (List.getElem_mem hk) hlt
    unfold violF
    rw [arm_rowAt hi', arm_rowAt hk, hag]
    have hm := closedSets_cap ma mb
    obtain ⟨_, _, sc, hcl⟩ := (closedSets_mem ha).1 hm
    cases hh : ins l (cap (tagsF N (closedSetsF N D) (closedSetsF N D).length)[i].1 (tagsF N (closedSetsF N D) (closedSetsF N D).length)[k].1)
    · rfl
    · rw [implies_closed hv sl cr sc hi hcl hh]; rfl
theorem arm_tab {N : Nat} {D : List (Int × Int)} (ha : areDepsF N D = true) : isTabF N (armUpTo N (closedSetsF N D) (closedSetsF N D).length) = true := by
  obtain ⟨hv, h1, h5, _⟩ := areDepsF_val ha
  have hl := closedSets_le (N : Int) D
  have hL := arm_len N (closedSetsF N D) (closedSetsF N D).length
  unfold isTabF
  simp only [Bool.and_eq_true, decide_eq_true_eq, List.all_eq_true]
  refine ⟨fun R hR => ?_, ⟨h1, h5⟩, by omega⟩
  rw [arm_tags] at hR
  obtain ⟨t, ht, rfl⟩ := List.mem_map.1 hR
  rcases tags_mem ht with rfl | ⟨i, hi, rfl⟩
  · exact rowFor_ok (Int.le_refl _) (by show (0 : Int) ≤ 40; decide)
  · exact rowFor_ok (by show (0 : Int) ≤ (i : Int) + 1; omega) (by show (i : Int) + 1 ≤ 40; omega)
theorem arm_law {n : Int} {D : List (Int × Int)} (ha : areDepsF n D = true) : satF (armN n D) (armO n D) 0 D = true ∧ isTabF (armN n D) (armO n D) = true ∧ ∀ x r, 0 ≤ x → x < 2 ^ n.toNat → 0 ≤ r → r < n → (askF (armN n D) (armO n D) 0 x r && holdsF (armO n D) 0 x r) = impliesDepF n D x r := by
  obtain ⟨hv, h1, h5, _⟩ := areDepsF_val ha
  obtain ⟨N, rfl⟩ := Int.eq_ofNat_of_zero_le (show 0 ≤ n by omega)
  have ht := arm_tab ha
  have e1 : armN (N : Int) D = N := by unfold armN; rw [ha]; rfl
  have e2 : armO (N : Int) D = armUpTo N (closedSetsF N D) (closedSetsF N D).length := by unfold armO; rw [ha]; simp only [if_true, Int.toNat_natCast]
  rw [e1, e2]
  have hask : ∀ x r, askF (N : Int) (armUpTo N (closedSetsF N D) (closedSetsF N D).length) 0 x r = isDepF N x r := fun x r => by
    unfold askF; rw [ht]; rfl
  refine ⟨?_, ht, fun x r hx0 hx hr0 hr => ?_⟩
  · unfold satF
    rw [ht]
    simp only [Bool.and_eq_true, List.all_eq_true]
    refine ⟨fun d hd => ?_, by decide⟩
    have hdp : isDepF N d.1 d.2 = true := by
      unfold areDepsF at ha
      rw [Bool.and_eq_true] at ha
      exact List.all_eq_true.1 ha.1 d hd
    have hb := hdp
    unfold isDepF isAttr at hb
    simp only [Bool.and_eq_true, decide_eq_true_eq, Int.toNat_natCast] at hb
    unfold heldF
    rw [hask, hdp, arm_holds ha hb.1.1.2.1.2 hb.1.1.2.2 hb.1.2 hb.2]
    have := cloF_closed hv (hv d hd).1 d hd (cloF_up hv (hv d hd).1)
    unfold impF
    rw [this]; rfl
  · simp only [Int.toNat_natCast] at hx
    rw [hask, arm_holds ha hx0 hx hr0 hr]
    unfold impliesDepF
    rw [ha]; rfl
end Go.Proofs.Ytjbmpnbfiahdhaa
namespace Go.Proofs.Ytjbmpnbfiahdhaa
open Go.ChangeShapes Go.WideShapes Go.ChangeAt Go.RowKit
set_option linter.unusedVariables false
set_option maxRecDepth 100000

/-- n bytes that can be read. -/
structure BytesAt (w : World) (oa : Option Addr) (n : Nat) : Prop where
  at_ : 0 < n → ∃ b off, oa = some ⟨b, off, none⟩ ∧ b < w.heap.size ∧ ∀ k, k < n → ∃ x : Int, w.cell? ⟨b, off + k, none⟩ = some (.int .u8 x) ∧ 0 ≤ x ∧ x < 256
theorem BytesAt.keep {w w' : World} {oa : Option Addr} {n : Nat} (h : BytesAt w oa n) (hb : Below w.heap.size w w') : BytesAt w' oa n :=
  ⟨fun h0 => by
    obtain ⟨b, off, e, hlt, hc⟩ := h.at_ h0
    exact ⟨b, off, e, Nat.lt_of_lt_of_le hlt hb.size, fun k hk => by rw [hb.cell (p := ⟨b, off + k, none⟩) hlt]; exact hc k hk⟩⟩
def InBytes (w : World) (v : Value) : Prop := ∃ (oa : Option Addr) (len cap : Nat), v = .slice oa len cap ∧ len ≤ maxLen ∧ BytesAt w oa len
theorem open_bytes {H : Type} {enc : TypeId × Value → H} {W : World} {base : Nat} {held : Bool} {v : Value} {d : DataW H} {ps : List MemPlace} (hok : Value.okWide Try.prog W .any base 52 v)
    (h : DataW.Trod enc Try.prog W 0 (fun _ => true) held 52 v d ps) : InBytes W v := by
  obtain ⟨a0, len0, cap0, rfl⟩ := okWide_slice Try.underlying52 hok
  obtain ⟨fuel, hf⟩ := h
  rcases Go.ChangeShapes.open_ints Try.underlying52 Try.underlying5 (by kernel_rfl) hf with ⟨hcs, _⟩ | ⟨x, l, c, zs, hcs, _, hl, hm, hz, _, hcell, hwz⟩
  · simp [Value.cells] at hcs
    obtain ⟨rfl, rfl, rfl⟩ := hcs
    exact ⟨_, _, _, rfl, Nat.zero_le _, ⟨fun h => absurd h (by simp)⟩⟩
  · simp [Value.cells] at hcs
    obtain ⟨rfl, rfl, rfl⟩ := hcs
    refine ⟨_, _, _, rfl, Nat.le_trans hl hm, ⟨fun h0 => ?_⟩⟩
    have hz' : zs.length = cap0 := by simpa using hz
    obtain ⟨b, off, spot⟩ := x
    have hc := hcell 0 (by omega)
    have hspot : spot = none := by simpa [Addr.add] using World.cell?_spot hc
    subst hspot
    refine ⟨b, off, rfl, World.block_lt_of_cell? W ⟨b, off, none⟩ (by simpa [Addr.add] using hc), fun k hk => ?_⟩
    have hk' : k < zs.length := by omega
    have := hcell k hk'
    have e : (⟨b, off, none⟩ : Addr).add k = ⟨b, off + k, none⟩ := by unfold Addr.add; split <;> simp_all
    rw [e] at this
    have hw := hwz (zs.getD k 0) (by rw [List.getD_eq_getElem?_getD, List.getElem?_eq_getElem hk']; exact List.getElem_mem hk')
    refine ⟨_, this, ?_⟩
    generalize zs.getD k 0 = z at *
    have hw' : (decide (IntKind.u8.min ≤ z) && decide (z ≤ IntKind.u8.max)) = true := hw
    rw [show IntKind.u8.min = 0 from rfl, show IntKind.u8.max = 255 from rfl, Bool.and_eq_true, decide_eq_true_eq, decide_eq_true_eq] at hw'
    omega
end Go.Proofs.Ytjbmpnbfiahdhaa
namespace Go.Proofs.Ytjbmpnbfiahdhaa
open Go.RowKit
set_option linter.unusedVariables false
set_option maxRecDepth 100000

/-- Block g is a cursor. -/
def Cur (w : World) (g : Nat) : Prop := ∃ (oa : Option Addr) (n cap i : Nat) (h : Int), Blk w g #[.slice oa n cap, .int .i64 i, .int .i64 h] 156 ∧ i ≤ n ∧ n ≤ 1048576 ∧ BytesAt w oa n ∧ (0 < n → ∀ a, oa = some a → a.block < g)
theorem Cur.lt {w : World} {g : Nat} (h : Cur w g) : g < w.heap.size := by obtain ⟨_, _, _, _, _, h, _⟩ := h; exact h.lt
theorem BytesAt.grown {w w' : World} {oa : Option Addr} {n : Nat} {row : Option Nat} (h : BytesAt w oa n) (hg : w.grownBy w' row) (hne : 0 < n → ∀ a, oa = some a → some a.block ≠ row) : BytesAt w' oa n :=
  ⟨fun h0 => by
    obtain ⟨b, off, e, hlt, hc⟩ := h.at_ h0
    exact ⟨b, off, e, Nat.lt_of_lt_of_le hlt hg.size, fun k hk => by rw [World.cell?_of_block (hg.block b hlt (hne h0 _ e))]; exact hc k hk⟩⟩
theorem Cur.keep {w w' : World} {g : Nat} (h : Cur w g) (hb : Below w.heap.size w w') : Cur w' g := by
  obtain ⟨oa, n, cap, i, x, h1, h2, h3, h4, h5⟩ := h
  exact ⟨oa, n, cap, i, x, h1.keep hb, h2, h3, h4.keep hb, h5⟩
theorem Blk.gr {a b : World} {g : Nat} {c : Array Value} {T : TypeId} {row : Option Nat} (h : Blk a g c T) (hg : a.grownBy b row) (hne : some g ≠ row) : Blk b g c T := (hg.block g h.lt hne).trans h
/-- What the call made behind the cursor may turn. -/
theorem Cur.grown {w w' : World} {g : Nat} {row : Option Nat} (h : Cur w g) (hg : w.grownBy w' row) (hr : ∀ k, row = some k → g < k) : Cur w' g := by
  obtain ⟨oa, n, cap, i, x, h1, h2, h3, h4, h5⟩ := h
  refine ⟨oa, n, cap, i, x, h1.gr hg (fun e => by have := hr g e.symm; omega), h2, h3, h4.grown hg (fun h0 a e e' => ?_), h5⟩
  have := h5 h0 a e
  have := hr _ e'.symm
  omega
theorem and255 (x : Int) : 0 ≤ bits BinOp.and .i64 x 255 ∧ bits BinOp.and .i64 x 255 < 256 := by
  unfold bits
  have h : ∀ b : BitVec 64, (b &&& BitVec.ofInt 64 255).toNat < 256 := fun b => by
    rw [BitVec.toNat_and]
    exact Nat.lt_of_le_of_lt Nat.and_le_right (by decide)
  have := h (BitVec.ofInt 64 x)
  have e : ∀ n : Nat, n < 256 → IntKind.i64.wrap (n : Int) = n := fun n hn => by
    unfold IntKind.wrap
    simp [IntKind.bits, IntKind.signed]
    omega
  show 0 ≤ IntKind.i64.wrap ((BitVec.ofInt 64 x &&& BitVec.ofInt 64 255).toNat : Int) ∧ IntKind.i64.wrap ((BitVec.ofInt 64 x &&& BitVec.ofInt 64 255).toNat : Int) < 256
  rw [e _ this]
  omega
set_option maxHeartbeats 800000 in
theorem c_l1Byte (g : Nat) (w : World) (hc : Cur w g) :
    Calls Try.prog 170 #[.pointer (some ⟨g, 0, none⟩)] w fun e w' => ∃ x : Int, e = .returned (.int .i64 x) ∧ 0 ≤ x ∧ x < 256 ∧ Cur w' g ∧ w.grownBy w' (some g) := by
  obtain ⟨oa, n, cap, i, h, k, hi, hn, hB, hlo⟩ := hc
  have k2 := k.cell 2 (.int .i64 h) rfl
  have f2 := k.free 2
  have HI : Hid (i ≤ n) := hi
  clear hi
  go_enter Try.func170, Try.ntmps170
  go_wp2_with fail
  have kk : Blk _ g #[.slice oa n cap, .int .i64 i, .int .i64 (wrap64 (wrap64 (h * 6364136223846793005) + 1442695040888963407))] 156 := k.set 2 (.int .i64 (wrap64 (wrap64 (h * 6364136223846793005) + 1442695040888963407)))
  have hg := grown_set w g 2 (.int .i64 (wrap64 (wrap64 (h * 6364136223846793005) + 1442695040888963407)))
  clear k k2 f2
  generalize wrap64 (wrap64 (h * 6364136223846793005) + 1442695040888963407) = h2 at *
  have s2 := kk.cell 2 (.int .i64 h2) rfl
  (refine wp_region_after (by kernel_rfl) (by kernel_rfl) ?_; have q_s2 := fun (x : After _) => cell_keep s2 x.bel; (repeat (go_big_quiet_step (fail))); clear q_s2; refine wpQuiet_nil ?_; rintro _ ⟨⟨w1, hbn⟩, rfl⟩; (try simp only [After.w]))
  replace kk := kk.keep hbn
  replace hg := grown_trans hg (grown_of_below hbn _)
  clear hbn s2
  have hx := and255 (bits BinOp.xor IntKind.i64 (h2 / 8589934592) (h2 / 35184372088832))
  generalize bits BinOp.and IntKind.i64 (bits BinOp.xor IntKind.i64 (h2 / 8589934592) (h2 / 35184372088832)) 255 = x at *
  obtain ⟨hx0, hx1⟩ := hx
  go_wp2_with fail
  have s0 := kk.cell 0 (.slice oa n cap) rfl
  have s1 := kk.cell 1 (.int .i64 i) rfl
  (refine wp_region_after (by kernel_rfl) (by kernel_rfl) ?_; have q_s0 := fun (x : After _) => cell_keep s0 x.bel; have q_s1 := fun (x : After _) => cell_keep s1 x.bel; (repeat (go_big_quiet_step (fail))); clear q_s0; clear q_s1; refine wpQuiet_nil ?_; rintro _ ⟨⟨w1, hbn⟩, rfl⟩; (try simp only [After.w]))
  replace kk := kk.keep hbn
  replace hg := grown_trans hg (grown_of_below hbn _)
  clear hbn s0 s1
  by_cases hlt : i < n
  · have hB' := hB.grown hg (fun h0 a e e' => by injection e' with e'; have := hlo h0 a e; omega)
    obtain ⟨b, off, rfl, hbs, hcell⟩ := hB'.at_ (by omega)
    obtain ⟨y, hy, hy0, hy1⟩ := hcell i hlt
    have s0 := kk.cell 0 (.slice (some ⟨b, off, none⟩) n cap) rfl
    have s1 := kk.cell 1 (.int .i64 i) rfl
    clear hcell
    go_wp2_with fail
    (refine wp_region_after (by kernel_rfl) (by kernel_rfl) ?_; have q_s0 := fun (x : After _) => cell_keep s0 x.bel; have q_s1 := fun (x : After _) => cell_keep s1 x.bel; have q_hy := fun (x : After _) => cell_keep hy x.bel; (repeat (go_big_quiet_step (fail))); clear q_s0; clear q_s1; clear q_hy; refine wpQuiet_nil ?_; rintro _ ⟨⟨w1, hbn⟩, rfl⟩; (try simp only [After.w]))
    replace kk := kk.keep hbn
    replace hg := grown_trans hg (grown_of_below hbn _)
    clear hbn s0 s1 hy
    have hz := and255 (x + y)
    generalize bits BinOp.and IntKind.i64 (x + y) 255 = z at *
    obtain ⟨hz0, hz1⟩ := hz
    have s1 := kk.cell 1 (.int .i64 i) rfl
    have f1 := kk.free 1
    have k2 : Blk _ g #[.slice (some ⟨b, off, none⟩) n cap, .int .i64 ((i : Int) + 1), .int .i64 h2] 156 := kk.set 1 (.int .i64 ((i : Int) + 1))
    have hg2 := grown_trans hg (grown_set _ g 1 (.int .i64 ((i : Int) + 1)))
    have hB2 := hB.grown hg2 (fun h0 a e e' => by injection e' with e'; have := hlo h0 a e; omega)
    clear hB' hg kk
    go_wp2
    go_ret
    exact ⟨z, rfl, hz0, hz1, ⟨_, n, cap, i + 1, h2, k2, by omega, hn, hB2, hlo⟩, hg2⟩
  · have HE : Hid (i = n) := by have := HI.out; show i = n; omega
    go_wp2
    go_ret
    exact ⟨x, rfl, hx0, hx1, ⟨oa, n, cap, i, h2, kk, HI.out, hn, hB.grown hg (fun h0 a e e' => by injection e' with e'; have := hlo h0 a e; omega), hlo⟩, hg⟩
end Go.Proofs.Ytjbmpnbfiahdhaa
namespace Go.Proofs.Ytjbmpnbfiahdhaa
open Go.RowKit
set_option linter.unusedVariables false
set_option maxRecDepth 100000

theorem tmod_in {x n : Int} (h0 : 0 ≤ x) (hn : 0 < n) : 0 ≤ x.tmod n ∧ x.tmod n < n := by
  rw [Int.tmod_eq_emod_of_nonneg h0]
  exact ⟨Int.emod_nonneg _ (by omega), Int.emod_lt_of_pos _ hn⟩
set_option maxHeartbeats 800000 in
theorem c_l1Below (g : Nat) (n : Int) (hn : n ≤ 256) (w : World) (hc : Cur w g) :
    Calls Try.prog 115 #[.pointer (some ⟨g, 0, none⟩), .int .i64 n] w fun e w' => ∃ x : Int, e = .returned (.int .i64 x) ∧ 0 ≤ x ∧ (0 < n → x < n) ∧ (n ≤ 0 → x = 0) ∧ Cur w' g ∧ w.grownBy w' (some g) := by
  by_cases h0 : n ≤ 0
  · go_enter Try.func115, Try.ntmps115
    go_wp2
    go_ret
    exact ⟨0, rfl, by omega, by omega, fun _ => rfl, hc, grown_refl _ _⟩
  · have hne : n ≠ 0 := by omega
    have hne1 : n ≠ -1 := by omega
    go_enter Try.func115, Try.ntmps115
    go_wp2_with fail
    refine (c_l1Byte g _ hc).mono ?_
    rintro e w1 ⟨x, rfl, hx0, hx1, hc1, hg⟩
    have hm0 := Int.emod_nonneg x hne
    have hm1 := Int.emod_lt_of_pos x (show 0 < n by omega)
    clear hc
    go_wp2
    go_ret
    exact ⟨x % n, rfl, hm0, fun _ => hm1, fun h => by omega, hc1, hg⟩
theorem c_l1Once (g : Nat) (n : Int) (hn : n ≤ 256) (w : World) (hc : Cur w g) :
    Calls Try.prog 113 #[.pointer (some ⟨g, 0, none⟩), .int .i64 n] w fun e w' => ∃ b : Bool, e = .returned (.bool b) ∧ Cur w' g ∧ w.grownBy w' (some g) := by
  go_enter Try.func113, Try.ntmps113
  go_wp2_with fail
  refine (c_l1Below g n hn _ hc).mono ?_
  rintro e w1 ⟨x, rfl, _, _, _, hc1, hg⟩
  clear hc
  go_wp2
  go_ret
  exact ⟨_, rfl, hc1, hg⟩
theorem IntsAt.grown {w w' : World} {oa : Option Addr} {L : List Int} {row : Option Nat} (h : IntsAt w oa L) (hg : w.grownBy w' row) (hne : ∀ a, oa = some a → some a.block ≠ row) : IntsAt w' oa L :=
  ⟨h.len, fun h0 => by
    obtain ⟨b, off, e, hlt, hc⟩ := h.at_ h0
    exact ⟨b, off, e, Nat.lt_of_lt_of_le hlt hg.size, fun k hk => by rw [World.cell?_of_block (hg.block b hlt (hne _ e))]; exact hc k hk⟩⟩
theorem c_l1PickInt (g : Nat) (oa) (cap : Nat) (L : List Int) (h0 : 0 < L.length) (hl : L.length ≤ 256) (w : World) (hc : Cur w g) (hL : IntsAt w oa L) (hne : ∀ a, oa = some a → a.block ≠ g) :
    Calls Try.prog 169 #[.pointer (some ⟨g, 0, none⟩), .slice oa L.length cap] w fun e w' => ∃ x : Int, e = .returned (.int .i64 x) ∧ x ∈ L ∧ Cur w' g ∧ w.grownBy w' (some g) := by
  go_enter Try.func169, Try.ntmps169
  go_wp2_with fail
  refine (c_l1Below g L.length (by omega) _ hc).mono ?_
  rintro e w1 ⟨x, rfl, hx0, hx1, _, hc1, hg⟩
  obtain ⟨k, rfl⟩ := Int.eq_ofNat_of_zero_le hx0
  have hk : k < L.length := by have := hx1 (by omega); omega
  replace hL := hL.grown hg (fun a e e' => hne a e (by injection e'))
  obtain ⟨b, off, rfl, hbs, hcell⟩ := hL.at_ (by omega)
  have h1 := hcell k hk
  have HM : Hid (nth L k ∈ L) := List.mem_iff_getElem?.2 ⟨k, nth_eq hk⟩
  clear hcell hx1 hc hne hL
  go_wp2
  go_ret
  exact ⟨_, rfl, HM.out, hc1, hg⟩
/-- A literal list of ints behind the cursor. -/
theorem lit_ints (w : World) (cs : Array Value) (L : List Int) (hl : L.length ≤ 100) (hcs : ∀ k, k < L.length → cs[k]? = some (.int .i64 (nth L k))) (T : TypeId) : IntsAt (w.alloc (.cells cs T)) (some ⟨w.heap.size, 0, none⟩) L :=
  ⟨by unfold Room; omega, fun _ => ⟨w.heap.size, 0, rfl, by simp, fun k hk => by rw [Nat.zero_add]; simp only [World.cell?, heap_alloc_new]; exact hcs k hk⟩⟩
theorem cur_alloc {w : World} {g : Nat} (h : Cur w g) (o : Obj) : Cur (w.alloc o) g := h.keep ((Below.refl _ _).alloc (Nat.le_refl _) o)
theorem grown_alloc {w w' : World} {row : Option Nat} {o : Obj} (h : (w.alloc o).grownBy w' row) : w.grownBy w' row := grown_trans (grown_of_below ((Below.refl _ _).alloc (Nat.le_refl _) o) row) h
theorem c_l2Any (g : Nat) (w : World) (hc : Cur w g) :
    Calls Try.prog 114 #[.pointer (some ⟨g, 0, none⟩)] w fun e w' => ∃ x : Int, e = .returned (.int .i64 x) ∧ -1 ≤ x ∧ x ≤ 33 ∧ Cur w' g ∧ w.grownBy w' (some g) := by
  go_enter Try.func114, Try.ntmps114
  go_wp2_with fail
  refine (c_l1Once g 8 (by omega) _ hc).mono ?_
  rintro e w1 ⟨t, rfl, hc1, hg⟩
  clear hc
  cases t
  · go_wp2_with fail
    refine (c_l1Below g 32 (by omega) _ hc1).mono ?_
    rintro e w2 ⟨x, rfl, hx0, hx1, _, hc2, hg2⟩
    have h32 := hx1 (by omega)
    replace hg := grown_trans hg hg2
    clear hc1 hg2 hx1
    go_wp2
    go_ret
    exact ⟨x, rfl, by omega, by omega, hc2, hg⟩
  · have hL := fun T => lit_ints w1 #[.int .i64 (-1), .int .i64 31, .int .i64 32, .int .i64 33] [-1, 31, 32, 33] (by simp) (fun k hk => by match k, hk with | 0, _ => rfl | 1, _ => rfl | 2, _ => rfl | 3, _ => rfl) T
    have hlt := hc1.lt
    go_wp2_with fail
    refine (c_l1PickInt g _ 4 [-1, 31, 32, 33] (by simp) (by simp) _ (cur_alloc hc1 _) (hL _) (fun a e => by injection e with e; subst e; simp; omega)).mono ?_
    rintro e w2 ⟨x, rfl, hx, hc2, hg2⟩
    replace hg := grown_trans hg (grown_alloc hg2)
    have hx2 : -1 ≤ x ∧ x ≤ 33 := by simp at hx; omega
    clear hc1 hg2 hL hx
    go_wp2
    go_ret
    exact ⟨x, rfl, hx2.1, hx2.2, hc2, hg⟩
end Go.Proofs.Ytjbmpnbfiahdhaa
namespace Go.Proofs.Ytjbmpnbfiahdhaa
open Go.RowKit
set_option linter.unusedVariables false
set_option maxRecDepth 100000

set_option maxHeartbeats 800000 in
theorem c_l1New (oa) (n cap : Nat) (hn : n ≤ 1048576) (w : World) (hB : BytesAt w oa n) :
    Calls Try.prog 111 #[.slice oa n cap] w fun e w' => e = .returned (.pointer (some ⟨w.heap.size, 0, none⟩)) ∧ Cur w' w.heap.size ∧ Below w.heap.size w w' := by
  go_enter Try.func111, Try.ntmps111
  go_wp2
  go_loop [3, 4] (fun h i => ∃ (x : Int) (k : Nat), h = .int .i64 x ∧ i = .int .i64 k ∧ k ≤ n) (fun _ i => n - (intOf i).toNat)
  case atStart => exact ⟨_, 0, rfl, rfl, Nat.zero_le _⟩
  case round =>
    obtain ⟨x, k, rfl, rfl, hk⟩ := hrel
    by_cases hlt : k < n
    · by_cases h4 : (k : Int) < 4000
      · obtain ⟨b, off, rfl, hbs, hc⟩ := hB.at_ (by omega)
        obtain ⟨y, hy, hy0, hy1⟩ := hc k hlt
        clear hc hB
        go_wp2
        go_round
        case rel => exact ⟨_, k + 1, rfl, by go_num, by omega⟩
        case measure => simp [intOf]; omega
      · go_wp2
        go_ret
        exact ⟨rfl, ⟨oa, n, cap, 0, x, Blk.new w _ _, Nat.zero_le _, hn, hB.keep ((Below.refl _ _).alloc (Nat.le_refl _) _), fun h0 a e => by obtain ⟨b, off, e', hlt, _⟩ := hB.at_ h0; rw [e] at e'; injection e' with e'; rw [e']; exact hlt⟩, (Below.refl _ _).alloc (Nat.le_refl _) _⟩
    · have hkk : k = n := by omega
      have HK : Hid (k = n) := hkk
      clear hkk
      go_wp2
      go_ret
      exact ⟨rfl, ⟨oa, n, cap, 0, x, Blk.new w _ _, Nat.zero_le _, hn, hB.keep ((Below.refl _ _).alloc (Nat.le_refl _) _), fun h0 a e => by obtain ⟨b, off, e', hlt, _⟩ := hB.at_ h0; rw [e] at e'; injection e' with e'; rw [e']; exact hlt⟩, (Below.refl _ _).alloc (Nat.le_refl _) _⟩
/-- Whatever was made before the cursor's own turns lies as it lay. -/
theorem Blk.cur {w w' : World} {k g : Nat} {c : Array Value} {T : TypeId} (h : Blk w k c T) (hg : w.grownBy w' (some g)) (hne : k ≠ g) : Blk w' k c T := h.gr hg (fun e => hne (by injection e))
theorem grown_new {w w2 : World} {g k j : Nat} {v : Value} (hG : w.grownBy w2 (some g)) (hk : w.heap.size ≤ k) : w.grownBy (w2.setCell ⟨k, j, none⟩ v) (some g) :=
  ⟨hG.os, hG.tape, hG.output, by have := hG.size; simpa using this, fun i hi hne => (Below.heap_setCell w2 ⟨k, j, none⟩ v i (by show i ≠ k; omega)).trans (hG.block i hi hne)⟩
theorem Cur.set {w : World} {g k j : Nat} {v : Value} (h : Cur w g) (hk : g < k) : Cur (w.setCell ⟨k, j, none⟩ v) g := h.grown (grown_set w k j v) (fun i e => by injection e with e; omega)
set_option maxHeartbeats 800000 in
theorem c_l6Dep (g : Nat) (N : Nat) (h5 : N ≤ 5) (w : World) (hc : Cur w g) :
    Calls Try.prog 177 #[.pointer (some ⟨g, 0, none⟩), .int .i64 N] w fun e w' => ∃ l r : Int, e = .returned (.agg #[.int .i64 l, .int .i64 r]) ∧ Cur w' g ∧ w.grownBy w' (some g) := by
  have hp := pow_wrap (n := (N : Int)) (by omega) (by omega)
  simp only [Int.toNat_natCast] at hp
  have hp1 := hp.1
  have hp2 := hp.2.1
  clear hp
  have hlt := hc.lt
  have kZ := Blk.new w #[.int .i64 0, .int .i64 0] 55
  have hG := grown_of_below ((Below.refl w.heap.size w).alloc (Nat.le_refl _) (.cells #[.int .i64 0, .int .i64 0] 55)) (some g)
  replace hc := cur_alloc hc (.cells #[.int .i64 0, .int .i64 0] 55)
  go_enter Try.func177, Try.ntmps177
  go_wp2_with fail
  refine (c_l1Below g (2 ^ N) (by omega) _ hc).mono ?_
  rintro e w1 ⟨x, rfl, _, _, _, hc1, hg⟩
  replace kZ := kZ.cur hg (by omega)
  replace hG := grown_trans hG hg
  clear hc hg
  go_wp2_with fail
  refine (c_l1Below g N (by omega) _ hc1).mono ?_
  rintro e w2 ⟨y, rfl, _, _, _, hc2, hg⟩
  replace kZ := kZ.cur hg (by omega)
  replace hG := grown_trans hG hg
  clear hc1 hg
  have z0 := kZ.cell 0 (.int .i64 0) rfl
  have z1 := kZ.cell 1 (.int .i64 0) rfl
  have f0 := kZ.free 0
  have f1 := kZ.free 1
  go_wp2
  exact bodyPost_ret (v := .agg #[.int .i64 x, .int .i64 y]) (by simp [results, Try.results177, go_sem, z0, z1]) rfl ⟨x, y, rfl, (hc2.set hlt).set hlt, grown_new (grown_new hG (Nat.le_refl _)) (Nat.le_refl _)⟩
set_option maxHeartbeats 1600000 in
theorem c_l6Any (g : Nat) (n : Int) (w : World) (hc : Cur w g) :
    Calls Try.prog 128 #[.pointer (some ⟨g, 0, none⟩), .int .i64 n] w fun e w' => ∃ l r : Int, e = .returned (.agg #[.int .i64 l, .int .i64 r]) ∧ Cur w' g ∧ w.grownBy w' (some g) := by
  have hlt := hc.lt
  have kZ := Blk.new w #[.int .i64 0, .int .i64 0] 55
  have hG := grown_of_below ((Below.refl w.heap.size w).alloc (Nat.le_refl _) (.cells #[.int .i64 0, .int .i64 0] 55)) (some g)
  replace hc := cur_alloc hc (.cells #[.int .i64 0, .int .i64 0] 55)
  cases hin : inB n 1 5
  · go_enter Try.func128, Try.ntmps128
    go_wp2_with fail
    refine Calls.mono (Ans.eqb (c_l1In _ _ _ _) hin) ?_
    rintro e w1 ⟨rfl, hbn⟩
    replace kZ := kZ.keep hbn
    replace hc := hc.keep hbn
    replace hG := grown_trans hG (grown_of_below hbn _)
    clear hbn
    go_wp2_with fail
    refine (c_l6Dep g 3 (by omega) _ hc).mono ?_
    rintro e w2 ⟨l, r, rfl, hc2, hg⟩
    replace kZ := kZ.cur hg (by omega)
    replace hG := grown_trans hG hg
    clear hc hg
    have kD := Blk.new w2 #[.int .i64 l, .int .i64 r] 55
    have hl2 := kZ.lt
    replace kZ := kZ.alloc (.cells #[.int .i64 l, .int .i64 r] 55)
    replace hc2 := cur_alloc hc2 (.cells #[.int .i64 l, .int .i64 r] 55)
    replace hG := grown_trans hG (grown_of_below ((Below.refl w2.heap.size w2).alloc (Nat.le_refl _) (.cells #[.int .i64 l, .int .i64 r] 55)) (some g))
    go_wp2_with fail
    refine (c_l1Below g 14 (by omega) _ hc2).mono ?_
    rintro e w3 ⟨q, rfl, _, _, _, hc3, hg⟩
    replace kZ := kZ.cur hg (by omega)
    replace kD := kD.cur hg (by omega)
    replace hG := grown_trans hG hg
    clear hc2 hg
    by_cases e0 : q = 0
    · go_wp2_with fail
      refine (c_l2Any g _ hc3).mono ?_
      rintro e w4 ⟨x, rfl, _, _, hc4, hg⟩
      replace kZ := kZ.cur hg (by omega)
      replace kD := kD.cur hg (by omega)
      replace hG := grown_trans hG hg
      clear hc3 hg
      have d0 := kD.cell 0 (.int .i64 l) rfl
      have d1 := kD.cell 1 (.int .i64 r) rfl
      have e0' := kD.free 0
      have z0 := kZ.cell 0 (.int .i64 0) rfl
      have z1 := kZ.cell 1 (.int .i64 0) rfl
      have f0 := kZ.free 0
      have f1 := kZ.free 1
      have kD2 : Blk _ w2.heap.size #[.int .i64 x, .int .i64 r] 55 := kD.set 0 (.int .i64 x)
      have kZ2 := kZ.far ⟨w2.heap.size, 0, none⟩ (.int .i64 x) (by simp; omega)
      have y0 := kD2.cell 0 (.int .i64 x) rfl
      have y1 := kD2.cell 1 (.int .i64 r) rfl
      have v0 := kZ2.cell 0 (.int .i64 0) rfl
      have v1 := kZ2.cell 1 (.int .i64 0) rfl
      have g0 := kZ2.free 0
      have g1 := kZ2.free 1
      have hc5 := Cur.set (j := 0) (v := .int .i64 x) hc4 (show g < w2.heap.size by omega)
      have hG5 := grown_new (j := 0) (v := .int .i64 x) hG (show w.heap.size ≤ w2.heap.size by omega)
      go_wp2
      exact bodyPost_ret (v := .agg #[.int .i64 x, .int .i64 r]) (by simp [results, Try.results128, go_sem, v0, v1]) rfl ⟨x, r, rfl, (hc5.set hlt).set hlt, grown_new (grown_new hG5 (Nat.le_refl _)) (Nat.le_refl _)⟩
    · by_cases e1 : q = 1
      · have hL := fun T => lit_ints w3 #[.int .i64 (-1), .int .i64 4, .int .i64 5] [-1, 4, 5] (by simp) (fun k hk => by match k, hk with | 0, _ => rfl | 1, _ => rfl | 2, _ => rfl) T
        have hlt3 := hc3.lt
        go_wp2_with fail
        refine (c_l1PickInt g _ 3 [-1, 4, 5] (by simp) (by simp) _ (cur_alloc hc3 _) (hL _) (fun a e => by injection e with e; subst e; simp; omega)).mono ?_
        rintro e w4 ⟨x, rfl, _, hc4, hg⟩
        replace hg := grown_alloc hg
        replace kZ := kZ.cur hg (by omega)
        replace kD := kD.cur hg (by omega)
        replace hG := grown_trans hG hg
        clear hc3 hg hL
        have d0 := kD.cell 0 (.int .i64 l) rfl
        have d1 := kD.cell 1 (.int .i64 r) rfl
        have e0' := kD.free 1
        have kD2 : Blk _ w2.heap.size #[.int .i64 l, .int .i64 x] 55 := kD.set 1 (.int .i64 x)
        have kZ2 := kZ.far ⟨w2.heap.size, 1, none⟩ (.int .i64 x) (by simp; omega)
        have y0 := kD2.cell 0 (.int .i64 l) rfl
        have y1 := kD2.cell 1 (.int .i64 x) rfl
        have v0 := kZ2.cell 0 (.int .i64 0) rfl
        have v1 := kZ2.cell 1 (.int .i64 0) rfl
        have g0 := kZ2.free 0
        have g1 := kZ2.free 1
        have hc5 := Cur.set (j := 1) (v := .int .i64 x) hc4 (show g < w2.heap.size by omega)
        have hG5 := grown_new (j := 1) (v := .int .i64 x) hG (show w.heap.size ≤ w2.heap.size by omega)
        go_wp2
        exact bodyPost_ret (v := .agg #[.int .i64 l, .int .i64 x]) (by simp [results, Try.results128, go_sem, v0, v1]) rfl ⟨l, x, rfl, (hc5.set hlt).set hlt, grown_new (grown_new hG5 (Nat.le_refl _)) (Nat.le_refl _)⟩
      · have d0 := kD.cell 0 (.int .i64 l) rfl
        have d1 := kD.cell 1 (.int .i64 r) rfl
        have z0 := kZ.cell 0 (.int .i64 0) rfl
        have z1 := kZ.cell 1 (.int .i64 0) rfl
        have f0 := kZ.free 0
        have f1 := kZ.free 1
        go_wp2
        exact bodyPost_ret (v := .agg #[.int .i64 l, .int .i64 r]) (by simp [results, Try.results128, go_sem, z0, z1]) rfl ⟨l, r, rfl, (hc3.set hlt).set hlt, grown_new (grown_new hG (Nat.le_refl _)) (Nat.le_refl _)⟩
  · obtain ⟨N, rfl⟩ := Int.eq_ofNat_of_zero_le (show 0 ≤ n by unfold inB at hin; simp at hin; omega)
    have hN : N ≤ 5 := by unfold inB at hin; simp at hin; omega
    go_enter Try.func128, Try.ntmps128
    go_wp2_with fail
    refine Calls.mono (Ans.eqb (c_l1In _ _ _ _) hin) ?_
    rintro e w1 ⟨rfl, hbn⟩
    replace kZ := kZ.keep hbn
    replace hc := hc.keep hbn
    replace hG := grown_trans hG (grown_of_below hbn _)
    clear hbn
    go_wp2_with fail
    refine (c_l6Dep g N (by omega) _ hc).mono ?_
    rintro e w2 ⟨l, r, rfl, hc2, hg⟩
    replace kZ := kZ.cur hg (by omega)
    replace hG := grown_trans hG hg
    clear hc hg
    have kD := Blk.new w2 #[.int .i64 l, .int .i64 r] 55
    have hl2 := kZ.lt
    replace kZ := kZ.alloc (.cells #[.int .i64 l, .int .i64 r] 55)
    replace hc2 := cur_alloc hc2 (.cells #[.int .i64 l, .int .i64 r] 55)
    replace hG := grown_trans hG (grown_of_below ((Below.refl w2.heap.size w2).alloc (Nat.le_refl _) (.cells #[.int .i64 l, .int .i64 r] 55)) (some g))
    go_wp2_with fail
    refine (c_l1Below g 14 (by omega) _ hc2).mono ?_
    rintro e w3 ⟨q, rfl, _, _, _, hc3, hg⟩
    replace kZ := kZ.cur hg (by omega)
    replace kD := kD.cur hg (by omega)
    replace hG := grown_trans hG hg
    clear hc2 hg
    by_cases e0 : q = 0
    · go_wp2_with fail
      refine (c_l2Any g _ hc3).mono ?_
      rintro e w4 ⟨x, rfl, _, _, hc4, hg⟩
      replace kZ := kZ.cur hg (by omega)
      replace kD := kD.cur hg (by omega)
      replace hG := grown_trans hG hg
      clear hc3 hg
      have d0 := kD.cell 0 (.int .i64 l) rfl
      have d1 := kD.cell 1 (.int .i64 r) rfl
      have e0' := kD.free 0
      have z0 := kZ.cell 0 (.int .i64 0) rfl
      have z1 := kZ.cell 1 (.int .i64 0) rfl
      have f0 := kZ.free 0
      have f1 := kZ.free 1
      have kD2 : Blk _ w2.heap.size #[.int .i64 x, .int .i64 r] 55 := kD.set 0 (.int .i64 x)
      have kZ2 := kZ.far ⟨w2.heap.size, 0, none⟩ (.int .i64 x) (by simp; omega)
      have y0 := kD2.cell 0 (.int .i64 x) rfl
      have y1 := kD2.cell 1 (.int .i64 r) rfl
      have v0 := kZ2.cell 0 (.int .i64 0) rfl
      have v1 := kZ2.cell 1 (.int .i64 0) rfl
      have g0 := kZ2.free 0
      have g1 := kZ2.free 1
      have hc5 := Cur.set (j := 0) (v := .int .i64 x) hc4 (show g < w2.heap.size by omega)
      have hG5 := grown_new (j := 0) (v := .int .i64 x) hG (show w.heap.size ≤ w2.heap.size by omega)
      go_wp2
      exact bodyPost_ret (v := .agg #[.int .i64 x, .int .i64 r]) (by simp [results, Try.results128, go_sem, v0, v1]) rfl ⟨x, r, rfl, (hc5.set hlt).set hlt, grown_new (grown_new hG5 (Nat.le_refl _)) (Nat.le_refl _)⟩
    · by_cases e1 : q = 1
      · have hL := fun T => lit_ints w3 #[.int .i64 (-1), .int .i64 4, .int .i64 5] [-1, 4, 5] (by simp) (fun k hk => by match k, hk with | 0, _ => rfl | 1, _ => rfl | 2, _ => rfl) T
        have hlt3 := hc3.lt
        go_wp2_with fail
        refine (c_l1PickInt g _ 3 [-1, 4, 5] (by simp) (by simp) _ (cur_alloc hc3 _) (hL _) (fun a e => by injection e with e; subst e; simp; omega)).mono ?_
        rintro e w4 ⟨x, rfl, _, hc4, hg⟩
        replace hg := grown_alloc hg
        replace kZ := kZ.cur hg (by omega)
        replace kD := kD.cur hg (by omega)
        replace hG := grown_trans hG hg
        clear hc3 hg hL
        have d0 := kD.cell 0 (.int .i64 l) rfl
        have d1 := kD.cell 1 (.int .i64 r) rfl
        have e0' := kD.free 1
        have kD2 : Blk _ w2.heap.size #[.int .i64 l, .int .i64 x] 55 := kD.set 1 (.int .i64 x)
        have kZ2 := kZ.far ⟨w2.heap.size, 1, none⟩ (.int .i64 x) (by simp; omega)
        have y0 := kD2.cell 0 (.int .i64 l) rfl
        have y1 := kD2.cell 1 (.int .i64 x) rfl
        have v0 := kZ2.cell 0 (.int .i64 0) rfl
        have v1 := kZ2.cell 1 (.int .i64 0) rfl
        have g0 := kZ2.free 0
        have g1 := kZ2.free 1
        have hc5 := Cur.set (j := 1) (v := .int .i64 x) hc4 (show g < w2.heap.size by omega)
        have hG5 := grown_new (j := 1) (v := .int .i64 x) hG (show w.heap.size ≤ w2.heap.size by omega)
        go_wp2
        exact bodyPost_ret (v := .agg #[.int .i64 l, .int .i64 x]) (by simp [results, Try.results128, go_sem, v0, v1]) rfl ⟨l, x, rfl, (hc5.set hlt).set hlt, grown_new (grown_new hG5 (Nat.le_refl _)) (Nat.le_refl _)⟩
      · have d0 := kD.cell 0 (.int .i64 l) rfl
        have d1 := kD.cell 1 (.int .i64 r) rfl
        have z0 := kZ.cell 0 (.int .i64 0) rfl
        have z1 := kZ.cell 1 (.int .i64 0) rfl
        have f0 := kZ.free 0
        have f1 := kZ.free 1
        go_wp2
        exact bodyPost_ret (v := .agg #[.int .i64 l, .int .i64 r]) (by simp [results, Try.results128, go_sem, z0, z1]) rfl ⟨l, r, rfl, (hc3.set hlt).set hlt, grown_new (grown_new hG (Nat.le_refl _)) (Nat.le_refl _)⟩
end Go.Proofs.Ytjbmpnbfiahdhaa
namespace Go.Proofs.Ytjbmpnbfiahdhaa
open Go.RowKit
set_option linter.unusedVariables false
set_option maxRecDepth 100000

def redStep (D : List (Int × Int)) (r x c : Int) : Int := if dif x (one c) != x && hasc (cloF D (dif x (one c))) r then dif x (one c) else x
def fiveI : List Int := [0, 1, 2, 3, 4]
def redF (D : List (Int × Int)) (l r : Int) : Int := fiveI.foldl (redStep D r) l
def reduceF (n : Int) (D : List (Int × Int)) (l r : Int) : Int := if impliesDepF n D l r then redF D l r else l

theorem redStep_st {D : List (Int × Int)} {r x c : Int} (hx : St x) (hc : Co c) : St (redStep D r x c) := by
  unfold redStep; split
  · exact dif_st hx (one_st hc)
  · exact hx
theorem dif_one_same {x c : Int} (hx : St x) (hc : Co c) : (dif x (one c) != x) = hasc x c := by
  obtain ⟨n, hn, rfl⟩ := st_nat hx; obtain ⟨k, hk, rfl⟩ := co_nat hc
  have h : ∀ n < 32, ∀ k < 5, (dif (n : Nat) (one (k : Nat)) != (n : Nat)) = hasc (n : Nat) (k : Nat) := by decide +kernel
  exact h n hn k hk
theorem redStep_no {D : List (Int × Int)} {r x c : Int} (hx : St x) (hc : Co c) (h : hasc x c = false) : redStep D r x c = x := by
  unfold redStep; rw [dif_one_same hx hc, h]; simp
theorem redStep_other {D : List (Int × Int)} {r x c e : Int} (hx : St x) (hc : Co c) (he : Co e) (hne : c ≠ e) : hasc (redStep D r x c) e = hasc x e := by
  unfold redStep; split
  · rw [hasc_dif hx (one_st hc) he, hasc_one hc he]
    simp [hne]
  · rfl
theorem impliesDepF_val {n : Int} {D : List (Int × Int)} {l r : Int} (h : impliesDepF n D l r = true) : Val D ∧ St l ∧ Co r := by
  simp only [impliesDepF, Bool.and_eq_true] at h
  have := (isDepF_val h.2.1).1
  exact ⟨(areDepsF_val h.1).1, this.1, this.2⟩

theorem five_drop (k : Nat) (hk : k < 5) (f : Int → Int → Int) (x : Int) : (fiveI.drop k).foldl f x = (fiveI.drop (k + 1)).foldl f (f x k) := by
  match k, hk with
  | 0, _ => rfl
  | 1, _ => rfl
  | 2, _ => rfl
  | 3, _ => rfl
  | 4, _ => rfl

end Go.Proofs.Ytjbmpnbfiahdhaa
namespace Go.Proofs.Ytjbmpnbfiahdhaa
open Go.RowKit
set_option linter.unusedVariables false
set_option maxRecDepth 100000

theorem members_mem {x c : Int} (hx : St x) : c ∈ membersF x ↔ Co c ∧ hasc x c = true := by
  have e : stB x = true := by simpa [stB] using hx
  unfold membersF membersUpTo
  rw [e, if_pos rfl, List.mem_filter, List.mem_map]
  constructor
  · rintro ⟨⟨k, hk, rfl⟩, h⟩
    exact ⟨⟨by omega, by have := List.mem_range.1 hk; omega⟩, h⟩
  · rintro ⟨hc, h⟩
    obtain ⟨k, hk, rfl⟩ := co_nat hc
    exact ⟨⟨k, List.mem_range.2 hk, rfl⟩, h⟩
theorem members_nodup (x : Int) : (membersF x).Nodup := by
  unfold membersF membersUpTo
  split
  · apply List.Pairwise.filter
    rw [show ((List.range 5).map fun (c : Nat) => (c : Int)) = fiveI from rfl]
    decide
  · exact List.Pairwise.nil
theorem fold_filter {D : List (Int × Int)} {r l : Int} : ∀ (cs : List Int) (x : Int), St x → (∀ c ∈ cs, Co c) → cs.Nodup → (∀ c ∈ cs, hasc x c = hasc l c) →
    cs.foldl (redStep D r) x = (cs.filter (hasc l)).foldl (redStep D r) x
  | [], _, _, _, _, _ => rfl
  | c :: cs, x, hx, hco, hnd, h => by
    have hc := hco c (List.mem_cons_self ..)
    have hco' : ∀ d ∈ cs, Co d := fun d hd => hco d (List.mem_cons_of_mem _ hd)
    obtain ⟨hn1, hn2⟩ := List.nodup_cons.1 hnd
    have hst := redStep_st (D := D) (r := r) hx hc
    have hs : ∀ d ∈ cs, hasc (redStep D r x c) d = hasc l d := fun d hd => by
      rw [redStep_other hx hc (hco' d hd) (fun e => hn1 (e ▸ hd))]
      exact h d (List.mem_cons_of_mem _ hd)
    have ih := fold_filter (D := D) (r := r) (l := l) cs _ hst hco' hn2 hs
    rw [List.foldl_cons, List.filter_cons]
    cases hl : hasc l c
    · have e : redStep D r x c = x := redStep_no hx hc (by rw [h c (List.mem_cons_self ..), hl])
      rw [e] at ih ⊢
      exact ih
    · simp only [if_true, List.foldl_cons]
      exact ih
theorem redF_members {D : List (Int × Int)} {l r : Int} (hl : St l) : redF D l r = (membersF l).foldl (redStep D r) l := by
  have e : stB l = true := by simpa [stB] using hl
  have hm : membersF l = fiveI.filter (hasc l) := by unfold membersF membersUpTo; rw [e, if_pos rfl]; rfl
  rw [hm]
  exact fold_filter fiveI l hl (by decide) (by decide) (fun _ _ => rfl)
theorem nth_drop {L : List Int} {k : Nat} (hk : k < L.length) : L.drop k = nth L k :: L.drop (k + 1) := by
  rw [List.drop_eq_getElem_cons hk]
  congr 1
  have := nth_eq hk
  rw [List.getElem?_eq_getElem hk] at this
  exact Option.some.inj this

end Go.Proofs.Ytjbmpnbfiahdhaa
namespace Go.Proofs.Ytjbmpnbfiahdhaa
open Go.RowKit
set_option linter.unusedVariables false
set_option maxRecDepth 100000

def coverBad (n : Int) (D : List (Int × Int)) (i : Nat) : Bool := impliesDepF n (eraD D i) (nl D i) (nr D i) || !(reduceF n D (nl D i) (nr D i) == nl D i)
def isCoverF (n : Int) (D : List (Int × Int)) : Bool := areDepsF n D && (List.range D.length).all fun i => !coverBad n D i
theorem OwnD.cap {w : World} {base : Nat} {v : Value} {L : List (Int × Int)} (h : OwnD w base v L) : ∃ oa cap, v = .slice oa L.length cap ∧ L.length ≤ cap ∧ (oa = none → cap = 0) := by
  rcases h.2 with ⟨hv, h0⟩ | ⟨g, cap, cur, hv, hb, hg, hl, _⟩
  · exact ⟨none, 0, by rw [hv, h0], by omega, fun _ => rfl⟩
  · exact ⟨_, cap, hv, hl, fun h => by cases h⟩
theorem range_all_succ (p : Nat → Bool) (k : Nat) : (List.range (k + 1)).all p = ((List.range k).all p && p k) := by
  rw [List.range_succ, List.all_append]; simp
theorem range_all_false (p : Nat → Bool) (k n : Nat) (hk : k < n) (h : p k = false) : (List.range n).all p = false := by
  rw [List.all_eq_false]; exact ⟨k, List.mem_range.2 hk, by simp [h]⟩
theorem eraD_len {D : List (Int × Int)} {i : Nat} (h : i < D.length) : (eraD D i).length = D.length - 1 := by
  unfold eraD; rw [List.length_append, List.length_take, List.length_drop]; omega

theorem mem_eraD {D : List (Int × Int)} {i : Nat} {d : Int × Int} (h : d ∈ eraD D i) : d ∈ D := by
  unfold eraD at h
  rcases List.mem_append.1 h with h | h
  · exact List.mem_of_mem_take h
  · exact List.mem_of_mem_drop h
theorem nth_mem {D : List (Int × Int)} {k : Nat} (h : k < D.length) : (nl D k, nr D k) ∈ D := List.mem_iff_getElem?.2 ⟨k, dnth_eq h⟩
theorem areDepsF_mem {n : Int} {D : List (Int × Int)} (h : areDepsF n D = true) {d : Int × Int} (hd : d ∈ D) : isDepF n d.1 d.2 = true := by
  simp only [areDepsF, Bool.and_eq_true, decide_eq_true_eq, List.all_eq_true] at h
  exact h.1 d hd
theorem areDepsF_sub {n : Int} {D E : List (Int × Int)} (h : areDepsF n D = true) (hs : ∀ d ∈ E, d ∈ D) (hl : E.length ≤ D.length) : areDepsF n E = true := by
  simp only [areDepsF, Bool.and_eq_true, decide_eq_true_eq, List.all_eq_true] at h ⊢
  exact ⟨fun d hd => h.1 d (hs d hd), h.2.1, by omega⟩
theorem areDepsF_era {n : Int} {D : List (Int × Int)} (h : areDepsF n D = true) {i : Nat} (hi : i < D.length) : areDepsF n (eraD D i) = true :=
  areDepsF_sub h (fun _ hd => mem_eraD hd) (by rw [eraD_len hi]; omega)

end Go.Proofs.Ytjbmpnbfiahdhaa
namespace Go.Proofs.Ytjbmpnbfiahdhaa
open Go.RowKit
set_option linter.unusedVariables false
set_option maxRecDepth 100000

def addF (n : Int) (D A : List (Int × Int)) (d : Int × Int) : List (Int × Int) := if A.contains (reduceF n D d.1 d.2, d.2) then A else A ++ [(reduceF n D d.1 d.2, d.2)]
def dstF (n : Int) (D : List (Int × Int)) (k : Nat) : List (Int × Int) := (D.take k).foldl (addF n D) []
def pruneF (n : Int) : Nat → List (Int × Int) → Nat → List (Int × Int)
  | 0, A, _ => A
  | f + 1, A, i => if i < A.length then (if impliesDepF n (eraD A i) (nl A i) (nr A i) then pruneF n f (eraD A i) i else pruneF n f A (i + 1)) else A
def coverOfF (n : Int) (D : List (Int × Int)) : List (Int × Int) := if areDepsF n D then pruneF n (dstF n D D.length).length (dstF n D D.length) 0 else []
theorem dstF_succ {n : Int} {D : List (Int × Int)} {k : Nat} (hk : k < D.length) : dstF n D (k + 1) = addF n D (dstF n D k) (nl D k, nr D k) := by
  unfold dstF; rw [List.take_add_one, dnth_eq hk, List.foldl_append]; rfl
theorem dstF_len (n : Int) (D : List (Int × Int)) : ∀ k, k ≤ D.length → (dstF n D k).length ≤ k
  | 0, _ => by simp [dstF]
  | k + 1, hk => by
    rw [dstF_succ (by omega)]
    have := dstF_len n D k (by omega)
    unfold addF; split
    · omega
    · simp; omega
theorem dif_leC {x c : Int} (hx : St x) (hc : Co c) : dif x (one c) ≤ x := by
  obtain ⟨n, hn, rfl⟩ := st_nat hx; obtain ⟨k, hk, rfl⟩ := co_nat hc
  have h : ∀ n < 32, ∀ k < 5, dif (n : Nat) (one (k : Nat)) ≤ (n : Nat) := by decide +kernel
  exact h n hn k hk
theorem foldl_le {D : List (Int × Int)} {r : Int} : ∀ (C : List Int) (x : Int), (∀ c ∈ C, Co c) → St x → C.foldl (redStep D r) x ≤ x ∧ St (C.foldl (redStep D r) x)
  | [], x, _, hx => ⟨Int.le_refl x, hx⟩
  | c :: C, x, hC, hx => by
    have hc := hC c (List.mem_cons_self ..)
    have h1 : redStep D r x c ≤ x := by
      unfold redStep; split
      · exact dif_leC hx hc
      · exact Int.le_refl x
    have h2 := foldl_le (D := D) (r := r) C (redStep D r x c) (fun d hd => hC d (List.mem_cons_of_mem _ hd)) (redStep_st hx hc)
    exact ⟨Int.le_trans h2.1 h1, h2.2⟩
theorem five_co : ∀ c ∈ fiveI, Co c := by decide
theorem reduceF_dep {n l r : Int} {D : List (Int × Int)} (h : isDepF n l r = true) : isDepF n (reduceF n D l r) r = true := by
  unfold reduceF
  split
  · have hst := (isDepF_val h).1.1
    have := foldl_le (D := D) (r := r) fiveI l five_co hst
    simp only [isDepF, isAttr, Bool.and_eq_true, decide_eq_true_eq] at h ⊢
    unfold redF
    exact ⟨⟨⟨h.1.1.1, ⟨h.1.1.2.1.1, this.2.1⟩, Int.lt_of_le_of_lt this.1 h.1.1.2.2⟩, h.1.2⟩, h.2⟩
  · exact h
theorem dstF_dep {n : Int} {D : List (Int × Int)} (ha : areDepsF n D = true) : ∀ k, k ≤ D.length → ∀ d ∈ dstF n D k, isDepF n d.1 d.2 = true
  | 0, _, d, hd => by simp [dstF] at hd
  | k + 1, hk, d, hd => by
    rw [dstF_succ (by omega)] at hd
    unfold addF at hd
    split at hd
    · exact dstF_dep ha k (by omega) d hd
    · rcases List.mem_append.1 hd with hd | hd
      · exact dstF_dep ha k (by omega) d hd
      · simp at hd; subst hd
        exact reduceF_dep (areDepsF_mem ha (nth_mem (k := k) (by omega)))
theorem pruneF_end {n : Int} {A : List (Int × Int)} {i : Nat} (h : A.length ≤ i) (f : Nat) : pruneF n f A i = A := by
  cases f with
  | zero => rfl
  | succ f => unfold pruneF; rw [if_neg (by omega)]
theorem pruneF_del {n : Int} {A : List (Int × Int)} {i : Nat} (h : i < A.length) (hi : impliesDepF n (eraD A i) (nl A i) (nr A i) = true) : pruneF n (A.length - i) A i = pruneF n ((eraD A i).length - i) (eraD A i) i := by
  have e : A.length - i = ((eraD A i).length - i) + 1 := by rw [eraD_len h]; omega
  rw [e]; conv => lhs; unfold pruneF
  rw [if_pos h, hi]; rfl
theorem pruneF_keep {n : Int} {A : List (Int × Int)} {i : Nat} (h : i < A.length) (hi : impliesDepF n (eraD A i) (nl A i) (nr A i) = false) : pruneF n (A.length - i) A i = pruneF n (A.length - (i + 1)) A (i + 1) := by
  have e : A.length - i = (A.length - (i + 1)) + 1 := by omega
  rw [e]; conv => lhs; unfold pruneF
  rw [if_pos h, hi]; rfl
theorem contains_succ {A : List (Int × Int)} {k : Nat} (h : k < A.length) (d : Int × Int) : (A.take (k + 1)).contains d = ((A.take k).contains d || (nl A k == d.1 && nr A k == d.2)) := by
  rw [List.take_add_one, dnth_eq h, Bool.eq_iff_iff]
  simp only [Option.toList, List.contains_iff_mem, List.mem_append, List.mem_singleton, Bool.or_eq_true, Bool.and_eq_true, beq_iff_eq, Prod.ext_iff]
  constructor
  · rintro (h | ⟨h1, h2⟩)
    · exact .inl h
    · exact .inr ⟨h1.symm, h2.symm⟩
  · rintro (h | ⟨h1, h2⟩)
    · exact .inl h
    · exact .inr ⟨h1.symm, h2.symm⟩
theorem contains_at {A : List (Int × Int)} {k : Nat} (h : k < A.length) {l r : Int} (h1 : nl A k = l) (h2 : nr A k = r) : A.contains (l, r) = true := by
  subst h1; subst h2
  simp only [List.contains_iff_mem]; exact nth_mem h
def slen : Value → Nat
  | .slice _ n _ => n
  | _ => 0

end Go.Proofs.Ytjbmpnbfiahdhaa
namespace Go.Proofs.Ytjbmpnbfiahdhaa
open Go.RowKit
set_option linter.unusedVariables false
set_option maxRecDepth 100000

theorem OwnD.snoc {w : World} {base : Nat} {v : Value} {A : List (Int × Int)} {l r : Int} (h : w.ownsRow base 55 2 v (A.length + 1) (dcells A ++ [.int .i64 l, .int .i64 r])) : OwnD w base v (A ++ [(l, r)]) := OwnD.joined (B := [(l, r)]) h

end Go.Proofs.Ytjbmpnbfiahdhaa
namespace Go.Proofs.Ytjbmpnbfiahdhaa
open Go.RowKit
set_option linter.unusedVariables false
set_option maxRecDepth 100000

theorem grown_more {w a b : World} {g : Nat} {row : Option Nat} (hG : w.grownBy a (some g)) (hg : a.grownBy b row) (hr : ∀ k, row = some k → w.heap.size ≤ k) : w.grownBy b (some g) :=
  ⟨hg.os.trans hG.os, hg.tape.trans hG.tape, hg.output.trans hG.output, Nat.le_trans hG.size hg.size, fun i hi hne => (hg.block i (Nat.lt_of_lt_of_le hi hG.size) (fun e => by have := hr i e.symm; omega)).trans (hG.block i hi hne)⟩
theorem owns_cur {w w' : World} {B size n g : Nat} {e : TypeId} {v : Value} {xs : List Value} (h : w.ownsRow B e size v n xs) (hg : w.grownBy w' (some g)) (hB : g < B) : w'.ownsRow B e size v n xs :=
  World.ownsRow.kept h hg (.inr fun e => by have := (World.ownsRow.lt h g e).1; omega)
theorem OwnD.cur {w w' : World} {B g : Nat} {v : Value} {D : List (Int × Int)} (h : OwnD w B v D) (hg : w.grownBy w' (some g)) (hB : g < B) : OwnD w' B v D := owns_cur h hg hB
/-- What the cursor has turned lies behind the base. -/
theorem below_cur {w a b : World} {g : Nat} (hb : Below w.heap.size w a) (hg : a.grownBy b (some g)) (hB : w.heap.size ≤ g) : Below w.heap.size w b := hb.grown hg hb.size (fun k e => by injection e with e; omega)
set_option maxHeartbeats 1600000 in
theorem c_l6Deps (g : Nat) (N : Nat) (h5 : N ≤ 5) (w : World) (hc : Cur w g) :
    Calls Try.prog 168 #[.pointer (some ⟨g, 0, none⟩), .int .i64 N] w fun e w' => ∃ o c D, e = .returned (.slice o (D.length : Nat) c) ∧ OwnD w' w.heap.size (.slice o D.length c) D ∧ D.length ≤ 4 ∧ Cur w' g ∧ w.grownBy w' (some g) := by
  obtain ⟨i0, hi0, hz0, hz1, hz2⟩ := info_parts info_dep
  have hlt := hc.lt
  have hI := OwnD.empty w w.heap.size (Nat.le_refl _)
  have hG := grown_of_below ((Below.refl w.heap.size w).alloc (Nat.le_refl _) (.cells #[] 55)) (some g)
  replace hc := cur_alloc hc (.cells #[] 55)
  go_enter Try.func168, Try.ntmps168
  go_wp2_with fail
  refine (c_l1Below g 5 (by omega) _ hc).mono ?_
  rintro e w1 ⟨q, rfl, hq0, hq1, _, hc1, hg⟩
  replace hI := hI.cur hg hlt
  replace hG := grown_trans hG hg
  obtain ⟨k0, rfl⟩ := Int.eq_ofNat_of_zero_le hq0
  have hk0 : k0 ≤ 4 := by have := hq1 (by omega); omega
  clear hc hg hq0 hq1
  go_wp2_with fail
  go_loopw [5, 6] (fun v i wr => ∃ (k : Nat) (D : List (Int × Int)), i = .int .i64 k ∧ D.length + k ≤ 4 ∧ OwnD wr w.heap.size v D ∧ Cur wr g ∧ w.grownBy wr (some g)) (fun _ i _ => (intOf i).toNat)
  case atStart => exact ⟨k0, [], rfl, by simpa using hk0, hI, hc1, hG⟩
  case round =>
    clear hI hc1 hG
    obtain ⟨k, D, rfl, hk, hI, hc, hG⟩ := hrel
    have hi := hi0
    have HDL : D.length ≤ 4 := by omega
    by_cases hlt0 : 0 < k
    · go_wp2_with fail
      refine (c_l6Dep g N h5 _ hc).mono ?_
      rintro e w2 ⟨l, r, rfl, hc2, hg⟩
      replace hI := hI.cur hg hlt
      replace hG := grown_trans hG hg
      clear hc hg
      have d0 := box_at w2 #[.int .i64 l, .int .i64 r] 55 0 _ rfl
      have d1 := box_at w2 #[.int .i64 l, .int .i64 r] 55 1 _ rfl
      have hba := (Below.refl w2.heap.size w2).alloc (Nat.le_refl _) (.cells #[.int .i64 l, .int .i64 r] 55)
      replace hI := hI.keep hba
      replace hG := grown_trans hG (grown_of_below hba _)
      replace hc2 := hc2.keep hba
      clear hba
      go_wp2_with (first | (at_builtin; refine wpList_append_own _ rfl _ _ 29 rfl w.heap.size 55 i0 (.agg #[.int .i64 0, .int .i64 0]) 2 16 Try.underlying29 hi hz0 hz1 hz2 rfl (by decide) _ _ _ rfl (World.ownsRow.alloc hI _) _ 1 1 [.int .i64 l, .int .i64 r] rfl rfl (World.news_of_block (cs := #[.int .i64 l, .int .i64 r]) (t := 55) (fr := (0, 0)) (heap_two _ _ _)) (by intro u hu; simp at hu; rcases hu with rfl | rfl <;> rfl) (by unfold maxLen; omega) (by omega) (by have := hG.size; simp at this ⊢; omega) ?_; intro v' w3 hown hgrow _; have hc3 := Cur.grown (cur_alloc hc2 _) hgrow (fun k e => by have := (World.ownsRow.lt hI k e).1; omega); have hG3 := grown_more (grown_trans hG (grown_of_below ((Below.refl _ _).alloc (Nat.le_refl _) _) _)) hgrow (fun k e => (World.ownsRow.lt hI k e).1); replace hI := OwnD.snoc hown; clear hown hgrow hG hc2) | fail)
      go_roundw
      case rel => exact ⟨k - 1, D ++ [(l, r)], by go_num, by simp; omega, hI, hc3, hG3⟩
      case measure => simp [intOf]; omega
    · have HK : Hid (k = 0) := by show k = 0; omega
      obtain ⟨o, c, rfl⟩ := hI.shape
      go_wp2
      go_ret
      exact ⟨o, c, D, rfl, hI, HDL, hc, hG⟩
end Go.Proofs.Ytjbmpnbfiahdhaa
