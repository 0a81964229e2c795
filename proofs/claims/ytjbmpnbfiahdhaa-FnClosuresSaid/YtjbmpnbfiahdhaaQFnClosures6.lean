/- Contracts and lemmas for FnClosures, part 6 of 6. -/
import Derived.Test.YtjbmpnbfiahdhaaQFnClosures1
import Derived.Test.YtjbmpnbfiahdhaaQFnClosures2
import Derived.Test.YtjbmpnbfiahdhaaQFnClosures3
import Derived.Test.YtjbmpnbfiahdhaaQFnClosures4
import Derived.Test.YtjbmpnbfiahdhaaQFnClosures5
import Derived.Deep.CutRange
import Derived.Deep.RegionHeld3
namespace Go.Proofs.Ytjbmpnbfiahdhaa
open Go.RowKit
set_option linter.unusedVariables false
set_option maxRecDepth 100000

theorem ArmI.keep {N : Nat} {L : List Int} {vL : Value} {k6 : Nat} {w : World} {k : Nat} {wr w' : World} (h : ArmI N L vL k6 w k wr) (hb : Below wr.heap.size wr w') : ArmI N L vL k6 w k w' := by
  obtain ⟨o, c, xs, h1, h2, h3, h4, h5, h6, h7⟩ := h
  exact ⟨o, c, xs, h1.keep hb, h2.keep hb, h3, h4.keep hb, h5, h6.keep hb, bel_to h7 hb⟩
theorem Blk.world {w : World} {g : Nat} {c : Array Value} {T : TypeId} (h : Blk w g c T) : ∃ w', w' = w := ⟨w, rfl⟩
theorem drew_grown {w w' : World} {row : Option Nat} (h : w.drew.grownBy w' row) : w.grownBy w' row := ⟨h.os, h.tape, h.output, h.size, h.block⟩
theorem drew_fresh {w : World} {v v' : Value} (h : Fresh w.drew v v') : Fresh w v v' := h
theorem c_specArmstrongTable_no (n : Int) (oa) (cap : Nat) (D : List (Int × Int)) (w : World) (hD : DepsAt w oa D) (ha : areDepsF n D = false) :
    Ans Try.prog 11 #[.int .i64 n, .slice oa D.length cap] w (.tuple #[.agg #[.int .i64 0, .slice none 0 0], .bool false]) := by
  unfold Ans
  have hb := (Below.refl w.heap.size w).alloc (Nat.le_refl _) (.cells #[.int .i64 0, .slice none 0 0] 26)
  have kZ := Blk.new w #[.int .i64 0, .slice none 0 0] 26
  go_enter Try.func11, Try.ntmps11
  go_wp2_with fail
  refine Calls.mono (Ans.eqb (c_specAreDeps _ _ _ _ _ (hD.keep hb)) ha) ?_
  rintro e w1 ⟨rfl, hbn⟩
  replace kZ := kZ.keep hbn
  replace hb := bel_to hb hbn
  clear hbn
  have z0 := kZ.cell 0 (.int .i64 0) rfl
  have z1 := kZ.cell 1 (.slice none 0 0) rfl
  have f0 := kZ.free 0
  have f1 := kZ.free 1
  go_wp2
  exact bodyPost_ret (v := .tuple #[.agg #[.int .i64 0, .slice none 0 0], .bool false]) (by simp [results, Try.results11, go_sem, z0, z1]) rfl ⟨rfl, bel_set2 hb (Nat.le_refl _) _ _⟩
set_option maxHeartbeats 1600000 in
theorem c_specArmstrongTable_ok (N : Nat) (oa) (cap : Nat) (D : List (Int × Int)) (w : World) (hD : DepsAt w oa D) (ha : areDepsF N D = true) :
    Calls Try.prog 11 #[.int .i64 N, .slice oa D.length cap] w fun e w' => ∃ o c xs, e = .returned (.tuple #[.agg #[.int .i64 N, .slice o (armUpTo N (closedSetsF N D) (closedSetsF N D).length).length c], .bool true]) ∧ OwnRows w' w.heap.size (.slice o (armUpTo N (closedSetsF N D) (closedSetsF N D).length).length c) xs (armUpTo N (closedSetsF N D) (closedSetsF N D).length) ∧ Below w.heap.size w w' := by
  have hb := (Below.refl w.heap.size w).alloc (Nat.le_refl _) (.cells #[.int .i64 0, .slice none 0 0] 26)
  have kZ := Blk.new w #[.int .i64 0, .slice none 0 0] 26
  obtain ⟨hv, hn1, hn5, _⟩ := areDepsF_val ha
  have hN : N ≤ 5 := by omega
  obtain ⟨i0, hi, hz0, hz1, hz2⟩ := info_parts info_int
  obtain ⟨j0, hj, hy0, hy1, hy2⟩ := info_parts info_ints
  have hp := pow_wrap (n := (N : Int)) (by omega) hn5
  simp only [Int.toNat_natCast] at hp
  have hp1 := hp.1
  have hp2 := hp.2.1
  have hp3 := hp.2.2
  clear hp
  go_enter Try.func11, Try.ntmps11
  go_wp2_with fail
  refine Calls.mono (Ans.eqb (c_specAreDeps _ _ _ _ _ (hD.keep hb)) ha) ?_
  rintro e w1 ⟨rfl, hbn⟩
  replace kZ := kZ.keep hbn
  replace hb := bel_to hb hbn
  clear hbn
  have hz := kZ.lt
  have kT := Blk.new w1 #[.int .i64 N, .slice none 0 0] 26
  have hba := (Below.refl w1.heap.size w1).alloc (Nat.le_refl _) (.cells #[.int .i64 N, .slice none 0 0] 26)
  replace kZ := kZ.keep hba
  replace hb := bel_to hb hba
  clear hba
  have hmk : ∀ w' : World, (Instr.makeSlice 68 (.int .i64 N) (.int .i64 N)).run Try.prog w' = .ok (.slice (some ⟨w'.heap.size, 0, none⟩) N N) (w'.alloc (.cells (madeCells #[Value.int .i64 0] N) 3)) := fun w' => by
    have := run_make w' 68 3 i0 (.int .i64 0) Try.underlying68 hi hz0 .i64 .i64 N N (by omega) (by omega) (by rw [hz2]; omega) (by omega)
    rw [hz1] at this; simpa [Value.cells] using this
  go_upto_region 4 with fail
  generalize hwb : w1.alloc (.cells #[.int .i64 N, .slice none 0 0] 26) = wb at *
  have hkb : w1.heap.size < wb.heap.size := kT.lt
  clear hwb
  generalize w1.heap.size = k6 at *
  have q1 := kT.cell 1 (.slice none 0 0) rfl
  have q1d := kT.drew.cell 1 (.slice none 0 0) rfl
  have q1m := (kT.alloc (.cells (madeCells #[Value.int .i64 0] N) 3)).drew.cell 1 (.slice none 0 0) rfl
  have q1n := fun cs T => ((kT.alloc (.cells (madeCells #[Value.int .i64 0] N) 3)).alloc (.cells cs T)).drew.cell 1 (.slice none 0 0) rfl
  have hM := ctr_made wb N hN
  go_cut [] from 18 to 24 (fun wx => ∃ (o : Option Addr) (c : Nat) (xs : List Value), Blk wx k6 #[.int .i64 N, .slice o 1 c] 26 ∧ OwnRows wx (w.heap.size + 1) (.slice o 1 c) xs [List.replicate N 0] ∧ Avoid k6 (.slice o 1 c) xs ∧ Blk wx w.heap.size #[.int .i64 0, .slice none 0 0] 26 ∧ Below w.heap.size w wx)
  case first =>
    go_region_law (first
    | (refine step_append_held _ (by rfl) _ _ 24 (by rfl) (w.heap.size + 1) 68 j0 (.slice none 0 0) 1 24 Try.underlying24 hj hy0 hy1 hy2 rfl (by decide) (.slice none 0 0) 0 [] (by rfl) (World.ownsRow_nil _ _ _ _) _ 1 1 [.slice (some ⟨wb.heap.size, 0, none⟩) N N] (by rfl) rfl (World.news_of_block (cs := #[.slice (some ⟨wb.heap.size, 0, none⟩) N N]) (t := 68) (fr := (0, 0)) (by first | exact heap_two wb _ _ | exact heap_alloc_new _ _)) (by intro u hu; simp at hu; subst hu; rfl) (by unfold maxLen; omega) (by omega) (by simp; omega) ?_; intro v7 w7 hown _ hgrow hfr; obtain ⟨⟨o7, c7, rfl⟩, s7, t7, kT7, hO7, av7, hb7, hoth, hblk⟩ := tab_snoc (w := w) (w5 := wb.alloc (.cells (madeCells #[Value.int .i64 0] N) 3)) (P := []) (o := none) (c := 0) (xs := []) (C := List.replicate N 0) (nC := N) (by simp) (OwnRows.none _ _) (hM.based (show w.heap.size + 1 ≤ wb.heap.size by omega)) ⟨.inl rfl, fun y hy => absurd hy (by simp)⟩ (kT.alloc _) (fun y hy e => by rcases hy with rfl | hy; cases e; cases hy) (fun e => by simp [Value.ownBlock] at e; omega) (hb.alloc hb.size _) (Nat.le_succ _) (show w.heap.size ≤ k6 by omega) hown (drew_grown hgrow) (drew_fresh hfr); clear hown hgrow hfr)
    | fail)
    all_goals
      go_wp2_with fail
      go_meet
      exact ⟨o7, c7, _, kT7, hO7, av7, hblk _ _ _ (kZ.alloc _) (by omega) (by simp [Value.ownBlock]), hb7⟩
  case rest =>
    clear q1 q1d q1m q1n hM hmk kT kZ hb
    obtain ⟨o, c, xs, kT, hO, av, kZ, hb⟩ := hcut
    go_wp2_with fail
    refine (c_specClosedSets N oa cap D _ (hD.keep hb)).mono ?_
    rintro e w3 ⟨vL, rfl, hL, hbn⟩
    have hk6 : w.heap.size < k6 := by omega
    have avL : vL.ownBlock ≠ some k6 := fun e => by have := (World.ownsRow.lt hL _ e).1; have := kT.lt; omega
    have apL := (apart_old hO.outer hL).symm
    replace hL := hL.based (show w.heap.size + 1 ≤ _ by have := kT.lt; omega)
    replace hO := hO.keep hbn
    replace kT := kT.keep hbn
    replace kZ := kZ.keep hbn
    replace hb := bel_to hb hbn
    obtain ⟨oL, cL, rfl⟩ := hL.shape
    have hLl := closedSets_le N D
    have HST : Hid (∀ x ∈ closedSetsF N D, St x) := closedSets_st
    clear hbn
    generalize hA : closedSetsF N D = L at *
    have HA : Hid (closedSetsF N D = L) := hA
    clear hA
    go_wp2_with fail
    go_loopw [8] (fun i wr => ∃ (k : Nat), i = .int .i64 k ∧ k ≤ L.length ∧ ArmI N L (.slice oL L.length cL) k6 w k wr) (fun i _ => L.length - (intOf i).toNat)
    case atStart => exact ⟨0, rfl, Nat.zero_le _, _, c, _, kT, hO, av, hL, apL, kZ, hb⟩
    case round =>
      clear kT hO av hL apL kZ hb
      obtain ⟨k, rfl, hk, hArm⟩ := hrel
      have HSame : Hid ((nth L k == 2 ^ N - 1) = true → ArmI N L (.slice oL L.length cL) k6 w (k + 1) wr) := fun h => by
        have e := arm_succ N L k
        rw [h, if_pos rfl, List.append_nil] at e
        unfold ArmI at hArm ⊢
        rw [e]; exact hArm
      obtain ⟨o, c, xs, kT, hO, av, hL, apL, kZ, hb⟩ := hArm
      have HS : Hid (armUpTo N L (k + 1) = armUpTo N L k ++ (if (nth L k == 2 ^ N - 1) then [] else [rowForF N (nth L k) ((k : Int) + 1)])) := arm_succ N L k
      have hPl := arm_len N L k
      have HE : Hid (k = L.length → armUpTo N L k = armUpTo N L L.length) := fun e => by rw [e]
      have hxl := hO.len
      generalize armUpTo N L k = P at *
      have hkt := kT.lt
      by_cases hlt : k < L.length
      · have HX : Hid (St (nth L k)) := HST.out _ (nthI_mem hlt)
        obtain ⟨b, off, rfl, hbs, hcell⟩ := (hL.ints rfl (by unfold Room; omega)).at_ (by omega)
        have hc1 := hcell k hlt
        clear hcell
        generalize nth L k = x at *
        have hsx := HX.out
        by_cases hx : x = 2 ^ N - 1
        · have hxd : (x == 2 ^ N - 1) = true := by simp [hx]
          have hxe : (x == allM N) = true := by unfold allM; simpa using hx
          go_wp2_with fail
          have hA1 := (show Hid _ from HSame.out hxd)
          (refine wp_region_after (by kernel_rfl) (by kernel_rfl) ?_; have q_hc1 := fun (x : After _) => cell_keep hc1 x.bel; (repeat (go_big_quiet_step ((go_at_call 80; exact Ans.after (c_l2All N (by omega) _))))); clear q_hc1; refine wpQuiet_nil ?_; rintro _ ⟨⟨w1, hbn⟩, rfl⟩; (try simp only [After.w]); replace hc1 := cell_keep hc1 hbn; replace hA1 := (show Hid _ from ArmI.keep hA1.out hbn); replace hb := bel_to (w := w) (by first | exact hb | exact hb.alloc hb.size _ | exact (hb.alloc hb.size _).alloc (Nat.le_trans hb.size (by simp)) _ | exact hb.setCell (by simp [hb.size]) _) hbn; clear hbn)
          go_wp2
          go_roundw
          case rel => exact ⟨k + 1, by go_num, by omega, hA1.out⟩
          case measure => simp [intOf]; omega
        · have hxd : (x == 2 ^ N - 1) = false := by simp [hx]
          have hxe : (x == allM N) = false := by unfold allM; simpa using hx
          go_wp2_with fail
          (refine wp_region_after (by kernel_rfl) (by kernel_rfl) ?_; have q_hc1 := fun (x : After _) => cell_keep hc1 x.bel; (repeat (go_big_quiet_step ((go_at_call 80; exact Ans.after (c_l2All N (by omega) _))))); clear q_hc1; refine wpQuiet_nil ?_; rintro _ ⟨⟨w1, hbn⟩, rfl⟩; (try simp only [After.w]); replace hc1 := cell_keep hc1 hbn; replace kT := kT.keep hbn; replace hO := hO.keep hbn; replace hL := OwnI.keep hL hbn; replace kZ := kZ.keep hbn; replace hb := bel_to (w := w) (by first | exact hb | exact hb.alloc hb.size _ | exact (hb.alloc hb.size _).alloc (Nat.le_trans hb.size (by simp)) _ | exact hb.setCell (by simp [hb.size]) _) hbn; clear hbn)
          obtain ⟨wq, hwq⟩ := Blk.world kT
          subst hwq
          have hkq := kT.lt
          go_wp2_with fail
          go_loopw [9, 10] (fun v i wi => ∃ j : Nat, i = .int .i64 j ∧ j ≤ N ∧ OwnI wi wq.heap.size v (rowForF j x ((k : Int) + 1)) ∧ Below wq.heap.size wq wi) (fun _ i _ => N - (intOf i).toNat)
          case atStart => exact ⟨0, rfl, Nat.zero_le _, OwnI.empty _ _ (Nat.le_refl _), (Below.refl _ _).alloc (Nat.le_refl _) _⟩
          case round =>
            obtain ⟨j, rfl, hjN, hI, hbl⟩ := hrel
            have hc2 := cell_keep hc1 hbl
            by_cases hjlt : j < N
            · have HR : Hid (rowForF (j + 1) x ((k : Int) + 1) = rowForF j x ((k : Int) + 1) ++ [if hasc x j then 0 else (k : Int) + 1]) := rowFor_succ j x _
              have hk64 : 0 ≤ (j : Int) ∧ (j : Int) < 64 := by omega
              have hbt := row_bit hsx (show j < 5 by omega)
              have hle := rowFor_len j x ((k : Int) + 1)
              generalize rowForF j x ((k : Int) + 1) = M at *
              cases hh : hasc x j
              · have hbt0 : bits BinOp.and .i64 (x / 2 ^ j) 1 = 0 := by rw [hbt, hh]; rfl
                clear hbt
                go_wp2_with (first | (at_builtin; refine wpList_append_own _ rfl _ _ 68 rfl wq.heap.size 3 i0 (.int .i64 0) 1 8 Try.underlying68 hi hz0 hz1 hz2 rfl (by decide) _ _ _ rfl (World.ownsRow.alloc hI _) _ 1 1 [.int .i64 ((k : Int) + 1)] rfl rfl (by intro j u hj; match j, hj with | 0, hj => simp at hj; subst hj; simp [Addr.add]) (by intro u hu; simp at hu; subst hu; rfl) (by unfold maxLen; omega) (by omega) (by have := hbl.size; simp; omega) ?_; intro v' w1 hown hgrow _; replace hbl := (hbl.alloc hbl.size _).grown hgrow (by have := hbl.size; simp; omega) (fun g hg => (World.ownsRow.lt hI g hg).1); replace hI := OwnI.snoc hown; clear hown hgrow) | fail)
                go_roundw
                case rel => exact ⟨j + 1, by go_num, by omega, by rw [HR.out, hh]; exact hI, hbl⟩
                case measure => simp [intOf]; omega
              · have hbt0 : bits BinOp.and .i64 (x / 2 ^ j) 1 = 1 := by rw [hbt, hh]; rfl
                clear hbt
                go_wp2_with (first | (at_builtin; refine wpList_append_own _ rfl _ _ 68 rfl wq.heap.size 3 i0 (.int .i64 0) 1 8 Try.underlying68 hi hz0 hz1 hz2 rfl (by decide) _ _ _ rfl (World.ownsRow.alloc hI _) _ 1 1 [.int .i64 (0)] rfl rfl (by intro j u hj; match j, hj with | 0, hj => simp at hj; subst hj; simp [Addr.add]) (by intro u hu; simp at hu; subst hu; rfl) (by unfold maxLen; omega) (by omega) (by have := hbl.size; simp; omega) ?_; intro v' w1 hown hgrow _; replace hbl := (hbl.alloc hbl.size _).grown hgrow (by have := hbl.size; simp; omega) (fun g hg => (World.ownsRow.lt hI g hg).1); replace hI := OwnI.snoc hown; clear hown hgrow) | fail)
                go_roundw
                case rel => exact ⟨j + 1, by go_num, by omega, by rw [HR.out, hh]; exact hI, hbl⟩
                case measure => simp [intOf]; omega
            · obtain rfl : j = N := by omega
              obtain ⟨o5, c5, hv5⟩ := hI.shape
              rw [rowFor_len] at hv5
              subst hv5
              have hO5 := hO.keep hbl
              have kT5 := kT.keep hbl
              have q1 := kT5.cell 1 (.slice o P.length c) rfl
              go_wp2_with (first | (at_builtin; refine wpList_append_fresh rfl _ _ 24 rfl (w.heap.size + 1) 68 j0 (.slice none 0 0) 1 24 Try.underlying24 hj hy0 hy1 hy2 rfl (by decide) _ _ _ rfl (World.ownsRow.alloc hO5.outer _) _ 1 1 [.slice o5 j c5] rfl rfl (World.news_of_block (cs := #[.slice o5 j c5]) (t := 68) (fr := (0, 0)) (heap_alloc_new _ _)) (by intro u hu; simp at hu; subst hu; rfl) (by unfold maxLen; omega) (by omega) (by have := hbl.size; simp; omega) ?_; intro v7 w7 hown hgrow hfr; obtain ⟨⟨o7, c7, rfl⟩, s7, t7, kT7, hO7, av7, hb7, hoth, hblk⟩ := tab_snoc (w := w) (rowFor_len j x ((k : Int) + 1)) hO5 (hI.based (show w.heap.size + 1 ≤ wq.heap.size by omega)) (OwnRows.fresh (w := wq) hO hI) kT5 av (fun e => by have := (World.ownsRow.lt hI _ e).1; omega) (bel_to hb hbl) (Nat.le_succ _) (show w.heap.size ≤ k6 by omega) hown hgrow hfr; clear hown hgrow hfr; obtain ⟨hL7, apL7⟩ := hoth _ _ _ _ _ _ (hL.keep hbl) apL avL; have kZ7 := hblk _ _ _ (kZ.keep hbl) (show w.heap.size ≠ k6 by omega) (fun e => by have := (World.ownsRow.lt hO.outer _ e).1; omega); have HR7 := (show Hid _ from ArmI.next (show armUpTo j L (k + 1) = P ++ [rowForF j x ((k : Int) + 1)] by rw [HS.out, hxd]; rfl) kT7 hO7 av7 hL7 apL7 kZ7 hb7); clear hL7 apL7 kZ7 kT7 hO7 av7 hoth hblk hb7) | fail)
              go_roundw
              case rel => exact ⟨k + 1, by go_num, by omega, HR7.out⟩
              case measure => simp [intOf]; omega
      · have hkk : k = L.length := by omega
        have HP := (show Hid _ from HE.out hkk)
        have r0 := kT.cell 0 (.int .i64 N) rfl
        have r1 := kT.cell 1 (.slice o P.length c) rfl
        have z0 := kZ.cell 0 (.int .i64 0) rfl
        have z1 := kZ.cell 1 (.slice none 0 0) rfl
        have f0 := kZ.free 0
        have f1 := kZ.free 1
        have k2 : Blk _ w.heap.size #[.int .i64 N, .slice o P.length c] 26 := (kZ.set 0 (.int .i64 N)).set 1 (.slice o P.length c)
        have q0 := k2.cell 0 (.int .i64 N) rfl
        have q1 := k2.cell 1 (.slice o P.length c) rfl
        clear hkk
        go_wp2
        refine bodyPost_ret (v := .tuple #[.agg #[.int .i64 N, .slice o P.length c], .bool true]) (by simp only [results, Try.results11]; simp [go_sem, q0, q1]) rfl ?_
        rw [HA.out, ← HP.out]
        exact ⟨o, c, xs, rfl, ((hO.far_set 0 (.int .i64 N) (Nat.lt_succ_self _)).far_set 1 (.slice o P.length c) (Nat.lt_succ_self _)).based (Nat.le_succ _), bel_set2 hb (Nat.le_refl _) _ _⟩
end Go.Proofs.Ytjbmpnbfiahdhaa
namespace Go.Proofs.Ytjbmpnbfiahdhaa
open Go.RowKit
set_option linter.unusedVariables false
set_option maxRecDepth 100000

theorem Ans.eqi {P : Program} {f : FuncId} {args : Array Value} {w : World} {b b' : Int} (h : Ans P f args w (.int .i64 b)) (e : b = b') : Ans P f args w (.int .i64 b') := e ▸ h
theorem nthI_mem' {L : List Int} {k : Nat} (h : k < L.length) : nth L k ∈ L := List.mem_iff_getElem?.2 ⟨k, nth_eq h⟩
theorem ctr_tri {n l r : Int} {D : List (Int × Int)} {i t f : Bool} (hi : impliesDepF n D l r = i) (ht : ctrF n D l r = t) (hf : (areDepsF n D && isDepF n l r) = f) : (t = true ∧ i = false ∧ f = true) ∨ (t = false ∧ i = true ∧ f = true) ∨ (t = false ∧ i = false ∧ f = false) := by
  unfold impliesDepF at hi
  unfold ctrF at ht
  subst hi ht hf
  cases areDepsF n D <;> cases isDepF n l r <;> cases impF D l r <;> simp
theorem closed_step {n l r c : Int} {D : List (Int × Int)} (h : impliesDepF n D l r = true) (hc : c ∈ closedSetsF n D) : St l ∧ Co r ∧ St c ∧ (ins l c = true → hasc c r = true) := by
  have h' := h
  unfold impliesDepF at h'
  simp only [Bool.and_eq_true] at h'
  obtain ⟨⟨hl, hr⟩, _⟩ := isDepF_val h'.2.1
  exact ⟨hl, hr, ((closedSets_mem h'.1).1 hc).2.2.1, closedSets_impl h hc⟩
theorem closureOf_law (n : Int) (D : List (Int × Int)) (s : Int) (ha : areDepsF n D = true) (hx : isAttr n s = true) : closureOfF n D (closureOfF n D s) = closureOfF n D s ∧ (bits BinOp.and .i64 (closureOfF n D s) s == s) = true := by
  obtain ⟨hs, h0, h5⟩ := isAttr_st hx
  obtain ⟨hv, _⟩ := areDepsF_val ha
  have e : closureOfF n D s = cloF D s := by unfold closureOfF; rw [ha, hx]; rfl
  have hst := cloF_st hv hs
  have hbd : isAttr n (cloF D s) = true := by
    obtain ⟨N, rfl⟩ := Int.eq_ofNat_of_zero_le h0
    have hlt : cloF D s < 2 ^ N := clo_below (by omega) hv (fun d hd => by
      unfold areDepsF at ha
      rw [Bool.and_eq_true] at ha
      have := List.all_eq_true.1 ha.1 d hd
      unfold isDepF at this; simp at this; exact this.2) hs (by unfold isAttr at hx; simp at hx; exact hx.2)
    unfold isAttr
    simp
    exact ⟨⟨by omega, hst.1⟩, hlt⟩
  rw [e]
  refine ⟨?_, ?_⟩
  · unfold closureOfF
    rw [ha, hbd, cloF_same hv hst (cloF_closed hv hs)]; rfl
  · rw [and_swap hst hs]; exact cloF_up hv hs
set_option maxHeartbeats 100000000 in
theorem w_FnClosures (w : World) {v0 : Value} (w0 : InBytes w v0) :
    Calls Try.prog 6 #[v0] w fun e w' => e = .returned (.bool true) ∧ Below w.heap.size w w' := by
  obtain ⟨oc, mc, capc, rfl, hmm, hB⟩ := w0
  have hb := Below.refl w.heap.size w
  by_cases hbig : (1048576 : Int) < mc
  · go_enter Try.func6, Try.ntmps6
    go_wp2_with fail
    refine Calls.mono (Ans.eqb (b' := true) (c_big _ _ _ _) (by simpa using hbig)) ?_
    rintro e w1 ⟨rfl, hbn⟩
    replace hb := bel_to hb hbn
    go_wp2
    go_ret
    exact ⟨rfl, hb⟩
  have hmc : mc ≤ 1048576 := by omega
  go_enter Try.func6, Try.ntmps6
  go_wp2_with fail
  refine Calls.mono (Ans.eqb (b' := false) (c_big _ _ _ _) (by simp only [decide_eq_false_iff_not]; omega)) ?_
  rintro e w1 ⟨rfl, hbn⟩
  replace hB := hB.keep hbn
  replace hb := bel_to hb hbn
  clear hbn
  clear hbig
  go_wp2_with fail
  have H := c_DrawImpliesDep oc mc capc hmc _ hB
  unfold Draws3 at H
  refine H.mono ?_
  clear H
  rintro e w2 ⟨n, o, c, D, l, r, rfl, hI, hDl, hbn⟩
  replace hB := hB.keep hbn
  replace hb := bel_to hb hbn
  clear hbn
  have hDR : D.length ≤ Room := by unfold Room; omega
  obtain ⟨i, HI⟩ : ∃ i, Hid (impliesDepF n D l r = i) := ⟨_, rfl⟩
  obtain ⟨t, HC⟩ : ∃ t, Hid (ctrF n D l r = t) := ⟨_, rfl⟩
  obtain ⟨f, HF⟩ : ∃ f, Hid ((areDepsF n D && isDepF n l r) = f) := ⟨_, rfl⟩
  have k5 := Blk.new w2 #[.int .i64 l, .int .i64 r] 55
  have hbn := (Below.refl w2.heap.size w2).alloc (Nat.le_refl _) (.cells #[.int .i64 l, .int .i64 r] 55)
  replace hB := hB.keep hbn
  replace hI := hI.keep hbn
  replace hb := bel_to hb hbn
  clear hbn
  have d0 := k5.cell 0 (.int .i64 l) rfl
  have d1 := k5.cell 1 (.int .i64 r) rfl
  go_wp2_with fail
  refine Calls.mono (Ans.eqb (c_ImpliesDep n o c D l r _ (hI.deps rfl hDR)) HI.out) ?_
  rintro e w3 ⟨rfl, hbn⟩
  replace hB := hB.keep hbn
  replace hI := hI.keep hbn
  replace k5 := k5.keep hbn
  replace hb := bel_to hb hbn
  clear hbn
  clear d0 d1
  have d0 := k5.cell 0 (.int .i64 l) rfl
  have d1 := k5.cell 1 (.int .i64 r) rfl
  go_wp2_with fail
  refine (c_DeriveDep n o c D l r _ (hI.deps rfl hDR)).mono ?_
  rintro e w4 ⟨vT, S, rfl, hS, hT, hbn⟩
  replace hB := hB.keep hbn
  replace hI := hI.keep hbn
  replace k5 := k5.keep hbn
  replace hb := bel_to hb hbn
  clear hbn
  rw [HI.out]
  clear d0 d1
  have d0 := k5.cell 0 (.int .i64 l) rfl
  have d1 := k5.cell 1 (.int .i64 r) rfl
  obtain ⟨oT, cT, rfl⟩ := hT.shape
  have HS := (show Hid _ from derives_ok hS)
  clear hS
  have hSR : S.length ≤ Room := by have := HS.out.2; unfold Room; omega
  have hs5 : decide ((5 : Int) < (S.length : Int)) = false := by have := HS.out.2; simp; omega
  go_wp2_with fail
  have H := c_CounterTable n o c D l r _ (hI.deps rfl hDR)
  unfold CtrAns at H
  rw [HC.out] at H
  refine H.mono ?_
  clear H
  rintro e w5 ⟨o8, c8, xs8, rfl, hO, hbn⟩
  replace hB := hB.keep hbn
  replace hI := hI.keep hbn
  replace k5 := k5.keep hbn
  replace hT := hT.keep hbn
  replace hb := bel_to hb hbn
  clear hbn
  clear d0 d1
  have HLW := (show Hid (t = true → satF (ctrN n D l r) (ctrO n D l r) 0 D = true ∧ (askF (ctrN n D l r) (ctrO n D l r) 0 l r && holdsF (ctrO n D l r) 0 l r) = false ∧ (ctrO n D l r).length = 2) from fun h => ctr_law (HC.out.trans h))
  have hRl := ctr_len n D l r
  have HRr : Hid (∀ j, j < (ctrO n D l r).length → (row (ctrO n D l r) j).length ≤ Room) := fun j hj => Nat.le_trans (ctr_row n D l r hj) (by unfold Room; omega)
  generalize ctrO n D l r = R at *
  generalize ctrN n D l r = m9 at *
  have hRR : R.length ≤ Room := by unfold Room; omega
  have k9 := Blk.new w5 #[.int .i64 m9, .slice o8 R.length c8] 26
  have hbn := (Below.refl w5.heap.size w5).alloc (Nat.le_refl _) (.cells #[.int .i64 m9, .slice o8 R.length c8] 26)
  replace hB := hB.keep hbn
  replace hI := hI.keep hbn
  replace k5 := k5.keep hbn
  replace hT := hT.keep hbn
  replace hO := hO.keep hbn
  replace hb := bel_to hb hbn
  clear hbn
  go_upto_region 7 with fail
  generalize w5.alloc (.cells #[.int .i64 m9, .slice o8 R.length c8] 26) = w6 at *
  have hdD := hI.deps rfl hDR
  have hdT := hT.ders rfl hSR
  have hdR := hO.read hRR HRr.out
  go_cut [75] from 49 to 75 (fun x wx => x = .bool false ∧ Below w6.heap.size w6 wx)
  case first =>
    have d0 := k5.cell 0 (.int .i64 l) rfl
    have d1 := k5.cell 1 (.int .i64 r) rfl
    have hbw := Below.refl w6.heap.size w6
    have hii : (i != i) = false := by simp
    cases i
    · go_wp2_with (first | (go_at_call 35; refine Calls.mono (Ans.eqb (c_specImpliesDep n o c D l r _ (hdD.keep hbw)) HI.out) ?_; rintro e wz ⟨rfl, hbn⟩; replace d0 := cell_keep d0 hbn; replace d1 := cell_keep d1 hbn; replace hbw := bel_to hbw hbn; clear hbn) | (go_at_call 36; refine Calls.mono (Ans.eqb (c_CheckDerivation n o c D l r oT cT S _ (hdD.keep hbw) (hdT.keep hbw)) (HS.out.1 HI.out)) ?_; rintro e wz ⟨rfl, hbn⟩; replace d0 := cell_keep d0 hbn; replace d1 := cell_keep d1 hbn; replace hbw := bel_to hbw hbn; clear hbn) | fail)
      go_meet
      exact ⟨by first | rfl | rw [hs5] | simp [hs5], hbw⟩
    · go_wp2_with (first | (go_at_call 35; refine Calls.mono (Ans.eqb (c_specImpliesDep n o c D l r _ (hdD.keep hbw)) HI.out) ?_; rintro e wz ⟨rfl, hbn⟩; replace d0 := cell_keep d0 hbn; replace d1 := cell_keep d1 hbn; replace hbw := bel_to hbw hbn; clear hbn) | (go_at_call 36; refine Calls.mono (Ans.eqb (c_CheckDerivation n o c D l r oT cT S _ (hdD.keep hbw) (hdT.keep hbw)) (HS.out.1 HI.out)) ?_; rintro e wz ⟨rfl, hbn⟩; replace d0 := cell_keep d0 hbn; replace d1 := cell_keep d1 hbn; replace hbw := bel_to hbw hbn; clear hbn) | fail)
      go_meet
      exact ⟨by first | rfl | rw [hs5] | simp [hs5], hbw⟩
  case rest =>
    obtain ⟨rfl, hbn⟩ := hcut
    clear hdD hdT hdR
    replace hB := hB.keep hbn
    replace hI := hI.keep hbn
    replace k5 := k5.keep hbn
    replace hT := hT.keep hbn
    replace hO := hO.keep hbn
    replace k9 := k9.keep hbn
    replace hb := bel_to hb hbn
    clear hbn
    obtain ⟨w7, hwq⟩ := Blk.world k5
    subst hwq
    go_upto_region 9 with fail
    have hdD := hI.deps rfl hDR
    go_cut [11] from 76 to 83 (fun x wx => x = .bool f ∧ Below w7.heap.size w7 wx)
    case first =>
      have d0 := k5.cell 0 (.int .i64 l) rfl
      have d1 := k5.cell 1 (.int .i64 r) rfl
      have hbw := Below.refl w7.heap.size w7
      cases ha : areDepsF n D
      · obtain rfl : f = false := by have := HF.out; rw [ha] at this; exact this.symm
        go_wp2_with (first | (go_at_call 37; refine Calls.mono (Ans.eqb (c_specAreDeps n o c D _ (hdD.keep hbw)) ha) ?_; rintro e wz ⟨rfl, hbn⟩; replace d0 := cell_keep d0 hbn; replace d1 := cell_keep d1 hbn; replace hbw := bel_to hbw hbn; clear hbn) | fail)
        go_meet
        exact ⟨rfl, hbw⟩
      · have hd : isDepF n l r = f := by have := HF.out; rw [ha] at this; exact this
        go_wp2_with (first | (go_at_call 37; refine Calls.mono (Ans.eqb (c_specAreDeps n o c D _ (hdD.keep hbw)) ha) ?_; rintro e wz ⟨rfl, hbn⟩; replace d0 := cell_keep d0 hbn; replace d1 := cell_keep d1 hbn; replace hbw := bel_to hbw hbn; clear hbn) | (go_at_call 38; refine Calls.mono (Ans.eqb (c_specIsDep n l r _) hd) ?_; rintro e wz ⟨rfl, hbn⟩; replace d0 := cell_keep d0 hbn; replace d1 := cell_keep d1 hbn; replace hbw := bel_to hbw hbn; clear hbn) | fail)
        go_meet
        exact ⟨rfl, hbw⟩
    case rest =>
      obtain ⟨rfl, hbn⟩ := hcut
      clear hdD
      replace hB := hB.keep hbn
      replace hI := hI.keep hbn
      replace k5 := k5.keep hbn
      replace hT := hT.keep hbn
      replace hO := hO.keep hbn
      replace k9 := k9.keep hbn
      replace hb := bel_to hb hbn
      clear hbn
      obtain ⟨w8, hwq⟩ := Blk.world k5
      subst hwq
      go_upto_region 10 with fail
      have hdD := hI.deps rfl hDR
      have hdR := hO.read hRR HRr.out
      have HTri := (show Hid _ from ctr_tri HI.out HC.out HF.out)
      go_cut [110] from 84 to 110 (fun x wx => x = .bool false ∧ Below w8.heap.size w8 wx)
      case first =>
        have d0 := k5.cell 0 (.int .i64 l) rfl
        have d1 := k5.cell 1 (.int .i64 r) rfl
        have hbw := Below.refl w8.heap.size w8
        have p0 := k9.cell 0 (.int .i64 m9) rfl
        have p1 := k9.cell 1 (.slice o8 R.length c8) rfl
        rcases HTri.out with ⟨rfl, rfl, rfl⟩ | ⟨rfl, rfl, rfl⟩ | ⟨rfl, rfl, rfl⟩
        · have hR2 : R.length = 2 := (HLW.out (by trivial)).2.2
          have hR2' : ((R.length : Int) != 2) = false := by rw [hR2]; rfl
          clear hR2
          go_wp2_with (first | (go_at_call 39; refine Calls.mono (Ans.eqb (c_specSatisfiesAll m9 o8 c8 R 0 o c D _ (hdR.keep hbw) (hdD.keep hbw)) (HLW.out (by trivial)).1) ?_; rintro e wz ⟨rfl, hbn⟩; replace d0 := cell_keep d0 hbn; replace d1 := cell_keep d1 hbn; replace p0 := cell_keep p0 hbn; replace p1 := cell_keep p1 hbn; replace hbw := bel_to hbw hbn; clear hbn) | (go_at_call 40; refine Calls.mono (Ans.eqb (c_specHoldsDep m9 o8 c8 R 0 l r _ (hdR.keep hbw)) (HLW.out (by trivial)).2.1) ?_; rintro e wz ⟨rfl, hbn⟩; replace d0 := cell_keep d0 hbn; replace d1 := cell_keep d1 hbn; replace p0 := cell_keep p0 hbn; replace p1 := cell_keep p1 hbn; replace hbw := bel_to hbw hbn; clear hbn) | fail)
          go_meet
          exact ⟨rfl, hbw⟩
        · go_wp2_with fail
          go_meet
          exact ⟨rfl, hbw⟩
        · go_wp2_with fail
          go_meet
          exact ⟨rfl, hbw⟩
      case rest =>
        obtain ⟨rfl, hbn⟩ := hcut
        clear hdD hdR
        replace hB := hB.keep hbn
        replace hI := hI.keep hbn
        replace k5 := k5.keep hbn
        replace hT := hT.keep hbn
        replace hO := hO.keep hbn
        replace k9 := k9.keep hbn
        replace hb := bel_to hb hbn
        clear hbn
        obtain ⟨w9, hwq⟩ := Blk.world k5
        subst hwq
        go_wp2_with fail
        refine (c_ClosedSets n o c D _ (hI.deps rfl hDR)).mono ?_
        rintro e w10 ⟨vL, rfl, hL, hbn⟩
        replace hB := hB.keep hbn
        replace hI := hI.keep hbn
        replace k5 := k5.keep hbn
        replace hT := hT.keep hbn
        replace hO := hO.keep hbn
        replace k9 := k9.keep hbn
        replace hb := bel_to hb hbn
        clear hbn
        obtain ⟨oL, cL, rfl⟩ := hL.shape
        have hLR := closedSets_len n D
        have HCI := (show Hid (∀ j k, j < (closedSetsF n D).length → k < (closedSetsF n D).length → cap (nth (closedSetsF n D) j) (nth (closedSetsF n D) k) ∈ closedSetsF n D) from fun j k hj hk => closedSets_cap (nthI_mem' hj) (nthI_mem' hk))
        have HCL := (show Hid (∀ j, j < (closedSetsF n D).length → i = true → St l ∧ Co r ∧ St (nth (closedSetsF n D) j) ∧ (ins l (nth (closedSetsF n D) j) = true → hasc (nth (closedSetsF n D) j) r = true)) from fun j hj hi => closed_step (HI.out.trans hi) (nthI_mem' hj))
        generalize hA : closedSetsF n D = A at *
        have HA : Hid (closedSetsF n D = A) := hA
        clear hA
        have hA9 : A.length ≤ 1073741824 := hLR
        go_wp2_with fail
        go_loopw [13] (fun v wr => ∃ k : Nat, v = .int .i64 k ∧ k ≤ A.length ∧ Below w10.heap.size w10 wr) (fun v _ => A.length - (intOf v).toNat)
        case atStart => exact ⟨0, rfl, Nat.zero_le _, Below.refl _ _⟩
        case round =>
          obtain ⟨k, rfl, hk, hbn⟩ := hrel
          have hbo := hbn
          replace hB := hB.keep hbn
          replace hI := hI.keep hbn
          replace k5 := k5.keep hbn
          replace hT := hT.keep hbn
          replace hO := hO.keep hbn
          replace k9 := k9.keep hbn
          replace hL := hL.keep hbn
          replace hb := bel_to hb hbn
          clear hbn
          obtain ⟨w11, hwq⟩ := Blk.world k5
          subst hwq
          have HG : Hid (∀ g, (decide ((k : Int) < (A.length : Int)) && f) = g → g = true → k < A.length ∧ f = true) := fun g h hg => by rw [hg] at h; simpa using h
          go_upto_region 14 with fail
          go_cut [120] from 114 to 120 (fun x wx => x = .bool (decide ((k : Int) < (A.length : Int)) && f) ∧ Below w11.heap.size w11 wx)
          case first =>
            by_cases hlt : k < A.length
            · cases f
              · go_wp2_with fail
                go_meet
                exact ⟨by simp, Below.refl _ _⟩
              · go_wp2_with fail
                go_meet
                exact ⟨by simp [hlt], Below.refl _ _⟩
            · have hkk : k = A.length := by omega
              go_wp2_with fail
              go_meet
              exact ⟨by simp; omega, Below.refl _ _⟩
          case rest =>
            obtain ⟨rfl, hbn⟩ := hcut
            replace hB := hB.keep hbn
            replace hI := hI.keep hbn
            replace k5 := k5.keep hbn
            replace hT := hT.keep hbn
            replace hO := hO.keep hbn
            replace k9 := k9.keep hbn
            replace hL := hL.keep hbn
            replace hbo := bel_to hbo hbn
            replace hb := bel_to hb hbn
            clear hbn
            obtain ⟨w12, hwq⟩ := Blk.world k5
            subst hwq
            cases hg : (decide ((k : Int) < (A.length : Int)) && f)
            · clear hg HG
              go_wp2_with fail
              refine (c_DrawClosureOf oc mc capc hmc _ hB).mono ?_
              rintro e w13 ⟨n2, o2, c2, D2, x2, rfl, hJ, hDl2, hbn⟩
              replace hB := hB.keep hbn
              replace hI := hI.keep hbn
              replace k5 := k5.keep hbn
              replace hT := hT.keep hbn
              replace hO := hO.keep hbn
              replace k9 := k9.keep hbn
              replace hL := hL.keep hbn
              replace hbo := bel_to hbo hbn
              replace hb := bel_to hb hbn
              clear hbn
              have hDR2 : D2.length ≤ Room := by unfold Room; omega
              go_wp2_with fail
              refine Calls.mono (c_ClosureOf n2 o2 c2 D2 x2 _ (hJ.deps rfl hDR2)) ?_
              rintro e w14 ⟨rfl, hbn⟩
              replace hB := hB.keep hbn
              replace hI := hI.keep hbn
              replace k5 := k5.keep hbn
              replace hT := hT.keep hbn
              replace hO := hO.keep hbn
              replace k9 := k9.keep hbn
              replace hL := hL.keep hbn
              replace hJ := hJ.keep hbn
              replace hbo := bel_to hbo hbn
              replace hb := bel_to hb hbn
              clear hbn
              have HCX := (show Hid _ from closureOf_law n2 D2 x2)
              generalize hy : closureOfF n2 D2 x2 = y at *
              have HY : Hid (closureOfF n2 D2 x2 = y) := hy
              clear hy
              go_wp2_with fail
              refine (c_DrawCheckDerivation oc mc capc hmc _ hB).mono ?_
              rintro e w15 ⟨n3, o3, c3, D3, l3, r3, o4, c4, S3, rfl, hK, hU, hDl3, hSl3, hbn⟩
              replace hB := hB.keep hbn
              replace hI := hI.keep hbn
              replace k5 := k5.keep hbn
              replace hT := hT.keep hbn
              replace hO := hO.keep hbn
              replace k9 := k9.keep hbn
              replace hL := hL.keep hbn
              replace hJ := hJ.keep hbn
              replace hbo := bel_to hbo hbn
              replace hb := bel_to hb hbn
              clear hbn
              have hDR3 : D3.length ≤ Room := by unfold Room; omega
              have hSR3 : S3.length ≤ Room := by unfold Room; omega
              obtain ⟨q, HQ⟩ : ∃ q, Hid (checkF n3 D3 l3 r3 S3 = q) := ⟨_, rfl⟩
              have k6 := Blk.new w15 #[.int .i64 l3, .int .i64 r3] 55
              have hbn := (Below.refl w15.heap.size w15).alloc (Nat.le_refl _) (.cells #[.int .i64 l3, .int .i64 r3] 55)
              replace hB := hB.keep hbn
              replace hI := hI.keep hbn
              replace k5 := k5.keep hbn
              replace hT := hT.keep hbn
              replace hO := hO.keep hbn
              replace k9 := k9.keep hbn
              replace hL := hL.keep hbn
              replace hJ := hJ.keep hbn
              replace hK := hK.keep hbn
              replace hU := hU.keep hbn
              replace hbo := bel_to hbo hbn
              replace hb := bel_to hb hbn
              clear hbn
              have hdD := hI.deps rfl hDR
              have hdJ := hJ.deps rfl hDR2
              have hdK := hK.deps rfl hDR3
              have hdU := hU.ders rfl hSR3
              have hdL := hL.ints rfl hLR
              have hyy : (y == y) = true := by simp
              have hqq : (q == q) = true := by simp
              have e0 := k6.cell 0 (.int .i64 l3) rfl
              have e1 := k6.cell 1 (.int .i64 r3) rfl
              clear hB hI k5 hT hO k9 hL hJ hK hU k6
              go_upto_region 26 with fail
              generalize w15.alloc (.cells #[.int .i64 l3, .int .i64 r3] 55) = w16 at *
              cases ha : areDepsF n2 D2
              · skip
                refine wp_region_held_drew (S := fun w' => w'.cell? ⟨w15.heap.size, 0, none⟩ = some (.int .i64 l3) ∧ w'.cell? ⟨w15.heap.size, 1, none⟩ = some (.int .i64 r3) ∧ Below w16.heap.size w16 w') (by kernel_rfl) ⟨cell_keep e0 (Below.refl _ _).drew, cell_keep e1 (Below.refl _ _).drew, (Below.refl _ _).drew⟩ (fun hS => ?_)
                (refine wpAnyH_val (i := 0) (some 181) ?_ rfl rfl (by kernel_rfl) (by kernel_rfl) (by kernel_rfl) (fun _ _ _ h => h) (by rfl) (by assumption) ?_ ?_; rotate_left; (intro w hSw; go_simp; (try with_reducible rfl)); (try simp only [Act.put, List.setIfInBounds_toArray, List.set_cons_zero, List.set_cons_succ])); (refine wpAnyH_val (i := 1) (some 182) ?_ rfl rfl (by kernel_rfl) (by kernel_rfl) (by kernel_rfl) (fun _ _ _ h => h) (by rfl) (by assumption) ?_ ?_; rotate_left; (intro w hSw; go_simp; (try with_reducible rfl)); (try simp only [Act.put, List.setIfInBounds_toArray, List.set_cons_zero, List.set_cons_succ])); (refine wpAnyH_val (i := 2) (some 183) ?_ rfl rfl (by kernel_rfl) (by kernel_rfl) (by kernel_rfl) (fun _ _ _ h => h) (by rfl) (by assumption) ?_ ?_; rotate_left; (intro w hSw; go_simp; (try with_reducible rfl)); (try simp only [Act.put, List.setIfInBounds_toArray, List.set_cons_zero, List.set_cons_succ]))
                (refine wpAnyH_ready (rs := [3]) (by kernel_rfl) (by simp) ?_; refine AllReadyH.cons rfl (fun K hK => ?_) AllReadyH.nil; go_simp)
                refine (c_specClosedSets n o c D _ (hdD.keep hS.2.2)).mono ?_
                rintro e wz ⟨v9, rfl, h9, hbn⟩
                rw [HA.out] at h9
                obtain ⟨o9, c9, rfl⟩ := h9.shape
                have hd9 := h9.ints rfl hLR
                clear h9
                have hS3 := (show _ ∧ _ ∧ Below w16.heap.size w16 _ from ⟨cell_keep hS.1 hbn, cell_keep hS.2.1 hbn, bel_to hS.2.2 hbn⟩)
                refine hK.out _ _ hS3 (fun hS2 => ?_)
                clear hK hbn hS hS2
                have hS := hS3
                clear hS3
                (try simp only [Act.put, List.setIfInBounds_toArray, List.set_cons_zero, List.set_cons_succ])
                (refine wpAnyH_ready (rs := [4]) (by kernel_rfl) (by simp) ?_; refine AllReadyH.cons rfl (fun K hK => ?_) AllReadyH.nil; go_simp)
                refine Calls.mono (c_lawSameInts oL o9 cL c9 A _ (hdL.keep hS.2.2) hd9) ?_
                rintro e wz ⟨rfl, hbn⟩
                have hS3 := (show _ ∧ _ ∧ Below w16.heap.size w16 _ from ⟨cell_keep hS.1 hbn, cell_keep hS.2.1 hbn, bel_to hS.2.2 hbn⟩)
                refine hK.out _ _ hS3 (fun hS2 => ?_)
                clear hK hbn hS hS2
                have hS := hS3
                clear hS3
                (try simp only [Act.put, List.setIfInBounds_toArray, List.set_cons_zero, List.set_cons_succ])
                (refine wpAnyH_val (i := 5) (some 186) ?_ rfl rfl (by kernel_rfl) (by kernel_rfl) (by kernel_rfl) (fun _ _ _ h => h) (by rfl) (by assumption) ?_ ?_; rotate_left; (intro w hSw; go_simp; (try with_reducible rfl)); (try simp only [Act.put, List.setIfInBounds_toArray, List.set_cons_zero, List.set_cons_succ])); (refine wpAnyH_val (i := 6) (some 187) ?_ rfl rfl (by kernel_rfl) (by kernel_rfl) (by kernel_rfl) (fun _ _ _ h => h) (by rfl) (by assumption) ?_ ?_; rotate_left; (intro w hSw; go_simp; (try with_reducible rfl)); (try simp only [Act.put, List.setIfInBounds_toArray, List.set_cons_zero, List.set_cons_succ])); (refine wpAnyH_val (i := 7) (some 188) ?_ rfl rfl (by kernel_rfl) (by kernel_rfl) (by kernel_rfl) (fun _ _ _ h => h) (by rfl) (by assumption) ?_ ?_; rotate_left; (intro w hSw; go_simp; (try with_reducible rfl)); (try simp only [Act.put, List.setIfInBounds_toArray, List.set_cons_zero, List.set_cons_succ])); (refine wpAnyH_val (i := 8) (some 189) ?_ rfl rfl (by kernel_rfl) (by kernel_rfl) (by kernel_rfl) (fun _ _ _ h => h) (by rfl) (by assumption) ?_ ?_; rotate_left; (intro w hSw; go_simp; (try with_reducible rfl)); (try simp only [Act.put, List.setIfInBounds_toArray, List.set_cons_zero, List.set_cons_succ])); (refine wpAnyH_val (i := 9) (some 190) ?_ rfl rfl (by kernel_rfl) (by kernel_rfl) (by kernel_rfl) (fun _ _ _ h => h) (by rfl) (by assumption) ?_ ?_; rotate_left; (intro w hSw; go_simp; (try with_reducible rfl)); (try simp only [Act.put, List.setIfInBounds_toArray, List.set_cons_zero, List.set_cons_succ]))
                (refine wpAnyH_ready (rs := [10]) (by kernel_rfl) (by simp) ?_; refine AllReadyH.cons rfl (fun K hK => ?_) AllReadyH.nil; go_simp)
                refine Calls.mono (Ans.eqi (c_specClosureOf n2 o2 c2 D2 x2 _ (hdJ.keep hS.2.2)) HY.out) ?_
                rintro e wz ⟨rfl, hbn⟩
                have hS3 := (show _ ∧ _ ∧ Below w16.heap.size w16 _ from ⟨cell_keep hS.1 hbn, cell_keep hS.2.1 hbn, bel_to hS.2.2 hbn⟩)
                refine hK.out _ _ hS3 (fun hS2 => ?_)
                clear hK hbn hS hS2
                have hS := hS3
                clear hS3
                (try simp only [Act.put, List.setIfInBounds_toArray, List.set_cons_zero, List.set_cons_succ])
                (refine wpAnyH_val (i := 11) (some 192) ?_ rfl rfl (by kernel_rfl) (by kernel_rfl) (by kernel_rfl) (fun _ _ _ h => h) (by rfl) (by assumption) ?_ ?_; rotate_left; (intro w hSw; go_simp; (try with_reducible rfl)); (try simp only [Act.put, List.setIfInBounds_toArray, List.set_cons_zero, List.set_cons_succ])); (refine wpAnyH_val (i := 12) (some 193) ?_ rfl rfl (by kernel_rfl) (by kernel_rfl) (by kernel_rfl) (fun _ _ _ h => h) (by rfl) (by assumption) ?_ ?_; rotate_left; (intro w hSw; go_simp; (try with_reducible rfl)); (try simp only [Act.put, List.setIfInBounds_toArray, List.set_cons_zero, List.set_cons_succ])); (refine wpAnyH_val (i := 13) (some 194) ?_ rfl rfl (by kernel_rfl) (by kernel_rfl) (by kernel_rfl) (fun _ _ _ h => h) (by rfl) (by assumption) ?_ ?_; rotate_left; (intro w hSw; go_simp; (try with_reducible rfl)); (try simp only [Act.put, List.setIfInBounds_toArray, List.set_cons_zero, List.set_cons_succ])); (refine wpAnyH_val (i := 14) (some 195) ?_ rfl rfl (by kernel_rfl) (by kernel_rfl) (by kernel_rfl) (fun _ _ _ h => h) (by rfl) (by assumption) ?_ ?_; rotate_left; (intro w hSw; go_simp; (try with_reducible rfl)); (try simp only [Act.put, List.setIfInBounds_toArray, List.set_cons_zero, List.set_cons_succ])); (refine wpAnyH_val (i := 15) (some 196) ?_ rfl rfl (by kernel_rfl) (by kernel_rfl) (by kernel_rfl) (fun _ _ _ h => h) (by rfl) (by assumption) ?_ ?_; rotate_left; (intro w hSw; go_simp; (try with_reducible rfl)); (try simp only [Act.put, List.setIfInBounds_toArray, List.set_cons_zero, List.set_cons_succ]))
                (refine wpAnyH_ready (rs := [16]) (by kernel_rfl) (by simp) ?_; refine AllReadyH.cons rfl (fun K hK => ?_) AllReadyH.nil; go_simp)
                refine Calls.mono (Ans.eqb (c_specAreDeps n2 o2 c2 D2 _ (hdJ.keep hS.2.2)) ha) ?_
                rintro e wz ⟨rfl, hbn⟩
                have hS3 := (show _ ∧ _ ∧ Below w16.heap.size w16 _ from ⟨cell_keep hS.1 hbn, cell_keep hS.2.1 hbn, bel_to hS.2.2 hbn⟩)
                refine hK.out _ _ hS3 (fun hS2 => ?_)
                clear hK hbn hS hS2
                have hS := hS3
                clear hS3
                (try simp only [Act.put, List.setIfInBounds_toArray, List.set_cons_zero, List.set_cons_succ])
                (refine wpAnyH_val (i := 17) (some 198) ?_ rfl rfl (by kernel_rfl) (by kernel_rfl) (by kernel_rfl) (fun _ _ _ h => h) (by rfl) (by assumption) ?_ ?_; rotate_left; (intro w hSw; go_simp; (try with_reducible rfl)); (try simp only [Act.put, List.setIfInBounds_toArray, List.set_cons_zero, List.set_cons_succ])); (refine wpAnyH_val (i := 18) (some 199) ?_ rfl rfl (by kernel_rfl) (by kernel_rfl) (by kernel_rfl) (fun _ _ _ h => h) (by rfl) (by assumption) ?_ ?_; rotate_left; (intro w hSw; go_simp; (try with_reducible rfl)); (try simp only [Act.put, List.setIfInBounds_toArray, List.set_cons_zero, List.set_cons_succ])); (refine wpAnyH_skip (i := 19) (some 200) rfl rfl (by kernel_rfl) (by kernel_rfl) (by kernel_rfl) (fun _ _ _ h => h) (by rfl) (by assumption) ?_; (try simp only [Act.put, List.setIfInBounds_toArray, List.set_cons_zero, List.set_cons_succ])); (refine wpAnyH_skip (i := 20) (some 201) rfl rfl (by kernel_rfl) (by kernel_rfl) (by kernel_rfl) (fun _ _ _ h => h) (by rfl) (by assumption) ?_; (try simp only [Act.put, List.setIfInBounds_toArray, List.set_cons_zero, List.set_cons_succ])); (refine wpAnyH_skip (i := 21) (some 202) rfl rfl (by kernel_rfl) (by kernel_rfl) (by kernel_rfl) (fun _ _ _ h => h) (by rfl) (by assumption) ?_; (try simp only [Act.put, List.setIfInBounds_toArray, List.set_cons_zero, List.set_cons_succ])); (refine wpAnyH_skip (i := 22) (some 203) rfl rfl (by kernel_rfl) (by kernel_rfl) (by kernel_rfl) (fun _ _ _ h => h) (by rfl) (by assumption) ?_; (try simp only [Act.put, List.setIfInBounds_toArray, List.set_cons_zero, List.set_cons_succ])); (refine wpAnyH_val (i := 23) (some 204) ?_ rfl rfl (by kernel_rfl) (by kernel_rfl) (by kernel_rfl) (fun _ _ _ h => h) (by rfl) (by assumption) ?_ ?_; rotate_left; (intro w hSw; go_simp; (try with_reducible rfl)); (try simp only [Act.put, List.setIfInBounds_toArray, List.set_cons_zero, List.set_cons_succ])); (refine wpAnyH_val (i := 24) (some 205) ?_ rfl rfl (by kernel_rfl) (by kernel_rfl) (by kernel_rfl) (fun _ _ _ h => h) (by rfl) (by assumption) ?_ ?_; rotate_left; (intro w hSw; go_simp; (try with_reducible rfl)); (try simp only [Act.put, List.setIfInBounds_toArray, List.set_cons_zero, List.set_cons_succ])); (refine wpAnyH_skip (i := 25) (some 206) rfl rfl (by kernel_rfl) (by kernel_rfl) (by kernel_rfl) (fun _ _ _ h => h) (by rfl) (by assumption) ?_; (try simp only [Act.put, List.setIfInBounds_toArray, List.set_cons_zero, List.set_cons_succ])); (refine wpAnyH_skip (i := 26) (some 207) rfl rfl (by kernel_rfl) (by kernel_rfl) (by kernel_rfl) (fun _ _ _ h => h) (by rfl) (by assumption) ?_; (try simp only [Act.put, List.setIfInBounds_toArray, List.set_cons_zero, List.set_cons_succ])); (refine wpAnyH_skip (i := 28) (some 209) rfl rfl (by kernel_rfl) (by kernel_rfl) (by kernel_rfl) (fun _ _ _ h => h) (by rfl) (by assumption) ?_; (try simp only [Act.put, List.setIfInBounds_toArray, List.set_cons_zero, List.set_cons_succ])); (refine wpAnyH_skip (i := 27) (some 208) rfl rfl (by kernel_rfl) (by kernel_rfl) (by kernel_rfl) (fun _ _ _ h => h) (by rfl) (by assumption) ?_; (try simp only [Act.put, List.setIfInBounds_toArray, List.set_cons_zero, List.set_cons_succ])); (refine wpAnyH_skip (i := 29) (some 210) rfl rfl (by kernel_rfl) (by kernel_rfl) (by kernel_rfl) (fun _ _ _ h => h) (by rfl) (by assumption) ?_; (try simp only [Act.put, List.setIfInBounds_toArray, List.set_cons_zero, List.set_cons_succ])); (refine wpAnyH_skip (i := 30) (some 211) rfl rfl (by kernel_rfl) (by kernel_rfl) (by kernel_rfl) (fun _ _ _ h => h) (by rfl) (by assumption) ?_; (try simp only [Act.put, List.setIfInBounds_toArray, List.set_cons_zero, List.set_cons_succ])); (refine wpAnyH_skip (i := 31) (some 212) rfl rfl (by kernel_rfl) (by kernel_rfl) (by kernel_rfl) (fun _ _ _ h => h) (by rfl) (by assumption) ?_; (try simp only [Act.put, List.setIfInBounds_toArray, List.set_cons_zero, List.set_cons_succ])); (refine wpAnyH_skip (i := 32) (some 213) rfl rfl (by kernel_rfl) (by kernel_rfl) (by kernel_rfl) (fun _ _ _ h => h) (by rfl) (by assumption) ?_; (try simp only [Act.put, List.setIfInBounds_toArray, List.set_cons_zero, List.set_cons_succ])); (refine wpAnyH_skip (i := 33) (some 214) rfl rfl (by kernel_rfl) (by kernel_rfl) (by kernel_rfl) (fun _ _ _ h => h) (by rfl) (by assumption) ?_; (try simp only [Act.put, List.setIfInBounds_toArray, List.set_cons_zero, List.set_cons_succ])); (refine wpAnyH_skip (i := 35) (some 216) rfl rfl (by kernel_rfl) (by kernel_rfl) (by kernel_rfl) (fun _ _ _ h => h) (by rfl) (by assumption) ?_; (try simp only [Act.put, List.setIfInBounds_toArray, List.set_cons_zero, List.set_cons_succ])); (refine wpAnyH_skip (i := 34) (some 215) rfl rfl (by kernel_rfl) (by kernel_rfl) (by kernel_rfl) (fun _ _ _ h => h) (by rfl) (by assumption) ?_; (try simp only [Act.put, List.setIfInBounds_toArray, List.set_cons_zero, List.set_cons_succ])); (refine wpAnyH_skip (i := 36) (some 217) rfl rfl (by kernel_rfl) (by kernel_rfl) (by kernel_rfl) (fun _ _ _ h => h) (by rfl) (by assumption) ?_; (try simp only [Act.put, List.setIfInBounds_toArray, List.set_cons_zero, List.set_cons_succ])); (refine wpAnyH_skip (i := 37) (some 218) rfl rfl (by kernel_rfl) (by kernel_rfl) (by kernel_rfl) (fun _ _ _ h => h) (by rfl) (by assumption) ?_; (try simp only [Act.put, List.setIfInBounds_toArray, List.set_cons_zero, List.set_cons_succ])); (refine wpAnyH_val (i := 38) (some 219) ?_ rfl rfl (by kernel_rfl) (by kernel_rfl) (by kernel_rfl) (fun _ _ _ h => h) (by rfl) (by assumption) ?_ ?_; rotate_left; (intro w hSw; go_simp; (try with_reducible rfl)); (try simp only [Act.put, List.setIfInBounds_toArray, List.set_cons_zero, List.set_cons_succ])); (refine wpAnyH_val (i := 39) (some 220) ?_ rfl rfl (by kernel_rfl) (by kernel_rfl) (by kernel_rfl) (fun _ _ _ h => h) (by rfl) (by assumption) ?_ ?_; rotate_left; (intro w hSw; go_simp; (try with_reducible rfl)); (try simp only [Act.put, List.setIfInBounds_toArray, List.set_cons_zero, List.set_cons_succ])); (refine wpAnyH_val (i := 40) (some 221) ?_ rfl rfl (by kernel_rfl) (by kernel_rfl) (by kernel_rfl) (fun _ _ _ h => h) (by rfl) (by assumption) ?_ ?_; rotate_left; (intro w hSw; go_simp; (try with_reducible rfl)); (try simp only [Act.put, List.setIfInBounds_toArray, List.set_cons_zero, List.set_cons_succ])); (refine wpAnyH_val (i := 41) (some 222) ?_ rfl rfl (by kernel_rfl) (by kernel_rfl) (by kernel_rfl) (fun _ _ _ h => h) (by rfl) (by assumption) ?_ ?_; rotate_left; (intro w hSw; go_simp; (try with_reducible rfl)); (try simp only [Act.put, List.setIfInBounds_toArray, List.set_cons_zero, List.set_cons_succ])); (refine wpAnyH_val (i := 42) (some 223) ?_ rfl rfl (by kernel_rfl) (by kernel_rfl) (by kernel_rfl) (fun _ _ _ h => h) (by rfl) (by assumption) ?_ ?_; rotate_left; (intro w hSw; go_simp; (try with_reducible rfl)); (try simp only [Act.put, List.setIfInBounds_toArray, List.set_cons_zero, List.set_cons_succ])); (refine wpAnyH_val (i := 43) (some 224) ?_ rfl rfl (by kernel_rfl) (by kernel_rfl) (by kernel_rfl) (fun _ _ _ h => h) (by rfl) (by assumption) ?_ ?_; rotate_left; (intro w hSw; go_simp; (try with_reducible rfl)); (try simp only [Act.put, List.setIfInBounds_toArray, List.set_cons_zero, List.set_cons_succ])); (refine wpAnyH_val (i := 44) (some 225) ?_ rfl rfl (by kernel_rfl) (by kernel_rfl) (by kernel_rfl) (fun _ _ _ h => h) (by rfl) (by assumption) ?_ ?_; rotate_left; (intro w hSw; go_simp; (try with_reducible rfl)); (try simp only [Act.put, List.setIfInBounds_toArray, List.set_cons_zero, List.set_cons_succ])); (refine wpAnyH_val (i := 46) (some 227) ?_ rfl rfl (by kernel_rfl) (by kernel_rfl) (by kernel_rfl) (fun _ _ _ h => h) (by rfl) (by assumption) ?_ ?_; rotate_left; (intro w hSw; go_simp; (try with_reducible rfl)); (try simp only [Act.put, List.setIfInBounds_toArray, List.set_cons_zero, List.set_cons_succ])); (refine wpAnyH_val (i := 47) (some 228) ?_ rfl rfl (by kernel_rfl) (by kernel_rfl) (by kernel_rfl) (fun _ _ _ h => h) (by rfl) (by assumption) ?_ ?_; rotate_left; (intro w hSw; go_simp; (try with_reducible rfl)); (try simp only [Act.put, List.setIfInBounds_toArray, List.set_cons_zero, List.set_cons_succ])); (refine wpAnyH_val (i := 48) (some 229) ?_ rfl rfl (by kernel_rfl) (by kernel_rfl) (by kernel_rfl) (fun _ _ _ h => h) (by rfl) (by assumption) ?_ ?_; rotate_left; (intro w hSw; go_simp; (try with_reducible rfl)); (try simp only [Act.put, List.setIfInBounds_toArray, List.set_cons_zero, List.set_cons_succ])); (refine wpAnyH_val (i := 49) (some 230) ?_ rfl rfl (by kernel_rfl) (by kernel_rfl) (by kernel_rfl) (fun _ _ _ h => h) (by rfl) (by assumption) ?_ ?_; rotate_left; (intro w hSw; go_simp; (try with_reducible rfl)); (try simp only [Act.put, List.setIfInBounds_toArray, List.set_cons_zero, List.set_cons_succ]))
                (refine wpAnyH_ready (rs := [45]) (by kernel_rfl) (by simp) ?_; refine AllReadyH.cons rfl (fun K hK => ?_) AllReadyH.nil; go_simp)
                refine Calls.mono (Ans.eqb (c_CheckDerivation n3 o3 c3 D3 l3 r3 o4 c4 S3 _ (hdK.keep hS.2.2) (hdU.keep hS.2.2)) HQ.out) ?_
                rintro e wz ⟨rfl, hbn⟩
                have hS3 := (show _ ∧ _ ∧ Below w16.heap.size w16 _ from ⟨cell_keep hS.1 hbn, cell_keep hS.2.1 hbn, bel_to hS.2.2 hbn⟩)
                refine hK.out _ _ hS3 (fun hS2 => ?_)
                clear hK hbn hS hS2
                have hS := hS3
                clear hS3
                (try simp only [Act.put, List.setIfInBounds_toArray, List.set_cons_zero, List.set_cons_succ])
                (refine wpAnyH_ready (rs := [50]) (by kernel_rfl) (by simp) ?_; refine AllReadyH.cons rfl (fun K hK => ?_) AllReadyH.nil; go_simp)
                refine Calls.mono (Ans.eqb (c_specCheckDerivation n3 o3 c3 D3 l3 r3 o4 c4 S3 _ (hdK.keep hS.2.2) (hdU.keep hS.2.2)) HQ.out) ?_
                rintro e wz ⟨rfl, hbn⟩
                have hS3 := (show _ ∧ _ ∧ Below w16.heap.size w16 _ from ⟨cell_keep hS.1 hbn, cell_keep hS.2.1 hbn, bel_to hS.2.2 hbn⟩)
                refine hK.out _ _ hS3 (fun hS2 => ?_)
                clear hK hbn hS hS2
                have hS := hS3
                clear hS3
                (try simp only [Act.put, List.setIfInBounds_toArray, List.set_cons_zero, List.set_cons_succ])
                (refine wpAnyH_val (i := 51) (some 232) ?_ rfl rfl (by kernel_rfl) (by kernel_rfl) (by kernel_rfl) (fun _ _ _ h => h) (by rfl) (by assumption) ?_ ?_; rotate_left; (intro w hSw; go_simp; (try with_reducible rfl)); (try simp only [Act.put, List.setIfInBounds_toArray, List.set_cons_zero, List.set_cons_succ])); (refine wpAnyH_val (i := 52) (some 233) ?_ rfl rfl (by kernel_rfl) (by kernel_rfl) (by kernel_rfl) (fun _ _ _ h => h) (by rfl) (by assumption) ?_ ?_; rotate_left; (intro w hSw; go_simp; (try with_reducible rfl)); (try simp only [Act.put, List.setIfInBounds_toArray, List.set_cons_zero, List.set_cons_succ])); (refine wpAnyH_val (i := 53) (some 2) ?_ rfl rfl (by kernel_rfl) (by kernel_rfl) (by kernel_rfl) (fun _ _ _ h => h) (by rfl) (by assumption) ?_ ?_; rotate_left; (intro w hSw; go_simp; (try with_reducible rfl)); (try simp only [Act.put, List.setIfInBounds_toArray, List.set_cons_zero, List.set_cons_succ]))
                refine wpAnyH_done (by kernel_rfl) ?_ _
                try dsimp only [NoPanic, Exit.then]
                go_wp2
                go_ret
                exact ⟨rfl, bel_to hb hS.2.2⟩
              · cases hx : isAttr n2 x2
                · skip
                  refine wp_region_held_drew (S := fun w' => w'.cell? ⟨w15.heap.size, 0, none⟩ = some (.int .i64 l3) ∧ w'.cell? ⟨w15.heap.size, 1, none⟩ = some (.int .i64 r3) ∧ Below w16.heap.size w16 w') (by kernel_rfl) ⟨cell_keep e0 (Below.refl _ _).drew, cell_keep e1 (Below.refl _ _).drew, (Below.refl _ _).drew⟩ (fun hS => ?_)
                  (refine wpAnyH_val (i := 0) (some 181) ?_ rfl rfl (by kernel_rfl) (by kernel_rfl) (by kernel_rfl) (fun _ _ _ h => h) (by rfl) (by assumption) ?_ ?_; rotate_left; (intro w hSw; go_simp; (try with_reducible rfl)); (try simp only [Act.put, List.setIfInBounds_toArray, List.set_cons_zero, List.set_cons_succ])); (refine wpAnyH_val (i := 1) (some 182) ?_ rfl rfl (by kernel_rfl) (by kernel_rfl) (by kernel_rfl) (fun _ _ _ h => h) (by rfl) (by assumption) ?_ ?_; rotate_left; (intro w hSw; go_simp; (try with_reducible rfl)); (try simp only [Act.put, List.setIfInBounds_toArray, List.set_cons_zero, List.set_cons_succ])); (refine wpAnyH_val (i := 2) (some 183) ?_ rfl rfl (by kernel_rfl) (by kernel_rfl) (by kernel_rfl) (fun _ _ _ h => h) (by rfl) (by assumption) ?_ ?_; rotate_left; (intro w hSw; go_simp; (try with_reducible rfl)); (try simp only [Act.put, List.setIfInBounds_toArray, List.set_cons_zero, List.set_cons_succ]))
                  (refine wpAnyH_ready (rs := [3]) (by kernel_rfl) (by simp) ?_; refine AllReadyH.cons rfl (fun K hK => ?_) AllReadyH.nil; go_simp)
                  refine (c_specClosedSets n o c D _ (hdD.keep hS.2.2)).mono ?_
                  rintro e wz ⟨v9, rfl, h9, hbn⟩
                  rw [HA.out] at h9
                  obtain ⟨o9, c9, rfl⟩ := h9.shape
                  have hd9 := h9.ints rfl hLR
                  clear h9
                  have hS3 := (show _ ∧ _ ∧ Below w16.heap.size w16 _ from ⟨cell_keep hS.1 hbn, cell_keep hS.2.1 hbn, bel_to hS.2.2 hbn⟩)
                  refine hK.out _ _ hS3 (fun hS2 => ?_)
                  clear hK hbn hS hS2
                  have hS := hS3
                  clear hS3
                  (try simp only [Act.put, List.setIfInBounds_toArray, List.set_cons_zero, List.set_cons_succ])
                  (refine wpAnyH_ready (rs := [4]) (by kernel_rfl) (by simp) ?_; refine AllReadyH.cons rfl (fun K hK => ?_) AllReadyH.nil; go_simp)
                  refine Calls.mono (c_lawSameInts oL o9 cL c9 A _ (hdL.keep hS.2.2) hd9) ?_
                  rintro e wz ⟨rfl, hbn⟩
                  have hS3 := (show _ ∧ _ ∧ Below w16.heap.size w16 _ from ⟨cell_keep hS.1 hbn, cell_keep hS.2.1 hbn, bel_to hS.2.2 hbn⟩)
                  refine hK.out _ _ hS3 (fun hS2 => ?_)
                  clear hK hbn hS hS2
                  have hS := hS3
                  clear hS3
                  (try simp only [Act.put, List.setIfInBounds_toArray, List.set_cons_zero, List.set_cons_succ])
                  (refine wpAnyH_val (i := 5) (some 186) ?_ rfl rfl (by kernel_rfl) (by kernel_rfl) (by kernel_rfl) (fun _ _ _ h => h) (by rfl) (by assumption) ?_ ?_; rotate_left; (intro w hSw; go_simp; (try with_reducible rfl)); (try simp only [Act.put, List.setIfInBounds_toArray, List.set_cons_zero, List.set_cons_succ])); (refine wpAnyH_val (i := 6) (some 187) ?_ rfl rfl (by kernel_rfl) (by kernel_rfl) (by kernel_rfl) (fun _ _ _ h => h) (by rfl) (by assumption) ?_ ?_; rotate_left; (intro w hSw; go_simp; (try with_reducible rfl)); (try simp only [Act.put, List.setIfInBounds_toArray, List.set_cons_zero, List.set_cons_succ])); (refine wpAnyH_val (i := 7) (some 188) ?_ rfl rfl (by kernel_rfl) (by kernel_rfl) (by kernel_rfl) (fun _ _ _ h => h) (by rfl) (by assumption) ?_ ?_; rotate_left; (intro w hSw; go_simp; (try with_reducible rfl)); (try simp only [Act.put, List.setIfInBounds_toArray, List.set_cons_zero, List.set_cons_succ])); (refine wpAnyH_val (i := 8) (some 189) ?_ rfl rfl (by kernel_rfl) (by kernel_rfl) (by kernel_rfl) (fun _ _ _ h => h) (by rfl) (by assumption) ?_ ?_; rotate_left; (intro w hSw; go_simp; (try with_reducible rfl)); (try simp only [Act.put, List.setIfInBounds_toArray, List.set_cons_zero, List.set_cons_succ])); (refine wpAnyH_val (i := 9) (some 190) ?_ rfl rfl (by kernel_rfl) (by kernel_rfl) (by kernel_rfl) (fun _ _ _ h => h) (by rfl) (by assumption) ?_ ?_; rotate_left; (intro w hSw; go_simp; (try with_reducible rfl)); (try simp only [Act.put, List.setIfInBounds_toArray, List.set_cons_zero, List.set_cons_succ]))
                  (refine wpAnyH_ready (rs := [10]) (by kernel_rfl) (by simp) ?_; refine AllReadyH.cons rfl (fun K hK => ?_) AllReadyH.nil; go_simp)
                  refine Calls.mono (Ans.eqi (c_specClosureOf n2 o2 c2 D2 x2 _ (hdJ.keep hS.2.2)) HY.out) ?_
                  rintro e wz ⟨rfl, hbn⟩
                  have hS3 := (show _ ∧ _ ∧ Below w16.heap.size w16 _ from ⟨cell_keep hS.1 hbn, cell_keep hS.2.1 hbn, bel_to hS.2.2 hbn⟩)
                  refine hK.out _ _ hS3 (fun hS2 => ?_)
                  clear hK hbn hS hS2
                  have hS := hS3
                  clear hS3
                  (try simp only [Act.put, List.setIfInBounds_toArray, List.set_cons_zero, List.set_cons_succ])
                  (refine wpAnyH_val (i := 11) (some 192) ?_ rfl rfl (by kernel_rfl) (by kernel_rfl) (by kernel_rfl) (fun _ _ _ h => h) (by rfl) (by assumption) ?_ ?_; rotate_left; (intro w hSw; go_simp; (try with_reducible rfl)); (try simp only [Act.put, List.setIfInBounds_toArray, List.set_cons_zero, List.set_cons_succ])); (refine wpAnyH_val (i := 12) (some 193) ?_ rfl rfl (by kernel_rfl) (by kernel_rfl) (by kernel_rfl) (fun _ _ _ h => h) (by rfl) (by assumption) ?_ ?_; rotate_left; (intro w hSw; go_simp; (try with_reducible rfl)); (try simp only [Act.put, List.setIfInBounds_toArray, List.set_cons_zero, List.set_cons_succ])); (refine wpAnyH_val (i := 13) (some 194) ?_ rfl rfl (by kernel_rfl) (by kernel_rfl) (by kernel_rfl) (fun _ _ _ h => h) (by rfl) (by assumption) ?_ ?_; rotate_left; (intro w hSw; go_simp; (try with_reducible rfl)); (try simp only [Act.put, List.setIfInBounds_toArray, List.set_cons_zero, List.set_cons_succ])); (refine wpAnyH_val (i := 14) (some 195) ?_ rfl rfl (by kernel_rfl) (by kernel_rfl) (by kernel_rfl) (fun _ _ _ h => h) (by rfl) (by assumption) ?_ ?_; rotate_left; (intro w hSw; go_simp; (try with_reducible rfl)); (try simp only [Act.put, List.setIfInBounds_toArray, List.set_cons_zero, List.set_cons_succ])); (refine wpAnyH_val (i := 15) (some 196) ?_ rfl rfl (by kernel_rfl) (by kernel_rfl) (by kernel_rfl) (fun _ _ _ h => h) (by rfl) (by assumption) ?_ ?_; rotate_left; (intro w hSw; go_simp; (try with_reducible rfl)); (try simp only [Act.put, List.setIfInBounds_toArray, List.set_cons_zero, List.set_cons_succ]))
                  (refine wpAnyH_ready (rs := [16]) (by kernel_rfl) (by simp) ?_; refine AllReadyH.cons rfl (fun K hK => ?_) AllReadyH.nil; go_simp)
                  refine Calls.mono (Ans.eqb (c_specAreDeps n2 o2 c2 D2 _ (hdJ.keep hS.2.2)) ha) ?_
                  rintro e wz ⟨rfl, hbn⟩
                  have hS3 := (show _ ∧ _ ∧ Below w16.heap.size w16 _ from ⟨cell_keep hS.1 hbn, cell_keep hS.2.1 hbn, bel_to hS.2.2 hbn⟩)
                  refine hK.out _ _ hS3 (fun hS2 => ?_)
                  clear hK hbn hS hS2
                  have hS := hS3
                  clear hS3
                  (try simp only [Act.put, List.setIfInBounds_toArray, List.set_cons_zero, List.set_cons_succ])
                  (refine wpAnyH_val (i := 17) (some 198) ?_ rfl rfl (by kernel_rfl) (by kernel_rfl) (by kernel_rfl) (fun _ _ _ h => h) (by rfl) (by assumption) ?_ ?_; rotate_left; (intro w hSw; go_simp; (try with_reducible rfl)); (try simp only [Act.put, List.setIfInBounds_toArray, List.set_cons_zero, List.set_cons_succ])); (refine wpAnyH_val (i := 18) (some 199) ?_ rfl rfl (by kernel_rfl) (by kernel_rfl) (by kernel_rfl) (fun _ _ _ h => h) (by rfl) (by assumption) ?_ ?_; rotate_left; (intro w hSw; go_simp; (try with_reducible rfl)); (try simp only [Act.put, List.setIfInBounds_toArray, List.set_cons_zero, List.set_cons_succ])); (refine wpAnyH_val (i := 19) (some 200) ?_ rfl rfl (by kernel_rfl) (by kernel_rfl) (by kernel_rfl) (fun _ _ _ h => h) (by rfl) (by assumption) ?_ ?_; rotate_left; (intro w hSw; go_simp; (try with_reducible rfl)); (try simp only [Act.put, List.setIfInBounds_toArray, List.set_cons_zero, List.set_cons_succ])); (refine wpAnyH_val (i := 20) (some 201) ?_ rfl rfl (by kernel_rfl) (by kernel_rfl) (by kernel_rfl) (fun _ _ _ h => h) (by rfl) (by assumption) ?_ ?_; rotate_left; (intro w hSw; go_simp; (try with_reducible rfl)); (try simp only [Act.put, List.setIfInBounds_toArray, List.set_cons_zero, List.set_cons_succ]))
                  (refine wpAnyH_ready (rs := [21]) (by kernel_rfl) (by simp) ?_; refine AllReadyH.cons rfl (fun K hK => ?_) AllReadyH.nil; go_simp)
                  refine Calls.mono (Ans.eqb (c_specIsAttributes n2 x2 _) hx) ?_
                  rintro e wz ⟨rfl, hbn⟩
                  have hS3 := (show _ ∧ _ ∧ Below w16.heap.size w16 _ from ⟨cell_keep hS.1 hbn, cell_keep hS.2.1 hbn, bel_to hS.2.2 hbn⟩)
                  refine hK.out _ _ hS3 (fun hS2 => ?_)
                  clear hK hbn hS hS2
                  have hS := hS3
                  clear hS3
                  (try simp only [Act.put, List.setIfInBounds_toArray, List.set_cons_zero, List.set_cons_succ])
                  (refine wpAnyH_val (i := 22) (some 203) ?_ rfl rfl (by kernel_rfl) (by kernel_rfl) (by kernel_rfl) (fun _ _ _ h => h) (by rfl) (by assumption) ?_ ?_; rotate_left; (intro w hSw; go_simp; (try with_reducible rfl)); (try simp only [Act.put, List.setIfInBounds_toArray, List.set_cons_zero, List.set_cons_succ])); (refine wpAnyH_val (i := 23) (some 204) ?_ rfl rfl (by kernel_rfl) (by kernel_rfl) (by kernel_rfl) (fun _ _ _ h => h) (by rfl) (by assumption) ?_ ?_; rotate_left; (intro w hSw; go_simp; (try with_reducible rfl)); (try simp only [Act.put, List.setIfInBounds_toArray, List.set_cons_zero, List.set_cons_succ])); (refine wpAnyH_val (i := 24) (some 205) ?_ rfl rfl (by kernel_rfl) (by kernel_rfl) (by kernel_rfl) (fun _ _ _ h => h) (by rfl) (by assumption) ?_ ?_; rotate_left; (intro w hSw; go_simp; (try with_reducible rfl)); (try simp only [Act.put, List.setIfInBounds_toArray, List.set_cons_zero, List.set_cons_succ])); (refine wpAnyH_skip (i := 25) (some 206) rfl rfl (by kernel_rfl) (by kernel_rfl) (by kernel_rfl) (fun _ _ _ h => h) (by rfl) (by assumption) ?_; (try simp only [Act.put, List.setIfInBounds_toArray, List.set_cons_zero, List.set_cons_succ])); (refine wpAnyH_skip (i := 26) (some 207) rfl rfl (by kernel_rfl) (by kernel_rfl) (by kernel_rfl) (fun _ _ _ h => h) (by rfl) (by assumption) ?_; (try simp only [Act.put, List.setIfInBounds_toArray, List.set_cons_zero, List.set_cons_succ])); (refine wpAnyH_skip (i := 28) (some 209) rfl rfl (by kernel_rfl) (by kernel_rfl) (by kernel_rfl) (fun _ _ _ h => h) (by rfl) (by assumption) ?_; (try simp only [Act.put, List.setIfInBounds_toArray, List.set_cons_zero, List.set_cons_succ])); (refine wpAnyH_skip (i := 27) (some 208) rfl rfl (by kernel_rfl) (by kernel_rfl) (by kernel_rfl) (fun _ _ _ h => h) (by rfl) (by assumption) ?_; (try simp only [Act.put, List.setIfInBounds_toArray, List.set_cons_zero, List.set_cons_succ])); (refine wpAnyH_skip (i := 29) (some 210) rfl rfl (by kernel_rfl) (by kernel_rfl) (by kernel_rfl) (fun _ _ _ h => h) (by rfl) (by assumption) ?_; (try simp only [Act.put, List.setIfInBounds_toArray, List.set_cons_zero, List.set_cons_succ])); (refine wpAnyH_skip (i := 30) (some 211) rfl rfl (by kernel_rfl) (by kernel_rfl) (by kernel_rfl) (fun _ _ _ h => h) (by rfl) (by assumption) ?_; (try simp only [Act.put, List.setIfInBounds_toArray, List.set_cons_zero, List.set_cons_succ])); (refine wpAnyH_skip (i := 31) (some 212) rfl rfl (by kernel_rfl) (by kernel_rfl) (by kernel_rfl) (fun _ _ _ h => h) (by rfl) (by assumption) ?_; (try simp only [Act.put, List.setIfInBounds_toArray, List.set_cons_zero, List.set_cons_succ])); (refine wpAnyH_skip (i := 32) (some 213) rfl rfl (by kernel_rfl) (by kernel_rfl) (by kernel_rfl) (fun _ _ _ h => h) (by rfl) (by assumption) ?_; (try simp only [Act.put, List.setIfInBounds_toArray, List.set_cons_zero, List.set_cons_succ])); (refine wpAnyH_skip (i := 33) (some 214) rfl rfl (by kernel_rfl) (by kernel_rfl) (by kernel_rfl) (fun _ _ _ h => h) (by rfl) (by assumption) ?_; (try simp only [Act.put, List.setIfInBounds_toArray, List.set_cons_zero, List.set_cons_succ])); (refine wpAnyH_skip (i := 35) (some 216) rfl rfl (by kernel_rfl) (by kernel_rfl) (by kernel_rfl) (fun _ _ _ h => h) (by rfl) (by assumption) ?_; (try simp only [Act.put, List.setIfInBounds_toArray, List.set_cons_zero, List.set_cons_succ])); (refine wpAnyH_skip (i := 34) (some 215) rfl rfl (by kernel_rfl) (by kernel_rfl) (by kernel_rfl) (fun _ _ _ h => h) (by rfl) (by assumption) ?_; (try simp only [Act.put, List.setIfInBounds_toArray, List.set_cons_zero, List.set_cons_succ])); (refine wpAnyH_skip (i := 36) (some 217) rfl rfl (by kernel_rfl) (by kernel_rfl) (by kernel_rfl) (fun _ _ _ h => h) (by rfl) (by assumption) ?_; (try simp only [Act.put, List.setIfInBounds_toArray, List.set_cons_zero, List.set_cons_succ])); (refine wpAnyH_skip (i := 37) (some 218) rfl rfl (by kernel_rfl) (by kernel_rfl) (by kernel_rfl) (fun _ _ _ h => h) (by rfl) (by assumption) ?_; (try simp only [Act.put, List.setIfInBounds_toArray, List.set_cons_zero, List.set_cons_succ])); (refine wpAnyH_val (i := 38) (some 219) ?_ rfl rfl (by kernel_rfl) (by kernel_rfl) (by kernel_rfl) (fun _ _ _ h => h) (by rfl) (by assumption) ?_ ?_; rotate_left; (intro w hSw; go_simp; (try with_reducible rfl)); (try simp only [Act.put, List.setIfInBounds_toArray, List.set_cons_zero, List.set_cons_succ])); (refine wpAnyH_val (i := 39) (some 220) ?_ rfl rfl (by kernel_rfl) (by kernel_rfl) (by kernel_rfl) (fun _ _ _ h => h) (by rfl) (by assumption) ?_ ?_; rotate_left; (intro w hSw; go_simp; (try with_reducible rfl)); (try simp only [Act.put, List.setIfInBounds_toArray, List.set_cons_zero, List.set_cons_succ])); (refine wpAnyH_val (i := 40) (some 221) ?_ rfl rfl (by kernel_rfl) (by kernel_rfl) (by kernel_rfl) (fun _ _ _ h => h) (by rfl) (by assumption) ?_ ?_; rotate_left; (intro w hSw; go_simp; (try with_reducible rfl)); (try simp only [Act.put, List.setIfInBounds_toArray, List.set_cons_zero, List.set_cons_succ])); (refine wpAnyH_val (i := 41) (some 222) ?_ rfl rfl (by kernel_rfl) (by kernel_rfl) (by kernel_rfl) (fun _ _ _ h => h) (by rfl) (by assumption) ?_ ?_; rotate_left; (intro w hSw; go_simp; (try with_reducible rfl)); (try simp only [Act.put, List.setIfInBounds_toArray, List.set_cons_zero, List.set_cons_succ])); (refine wpAnyH_val (i := 42) (some 223) ?_ rfl rfl (by kernel_rfl) (by kernel_rfl) (by kernel_rfl) (fun _ _ _ h => h) (by rfl) (by assumption) ?_ ?_; rotate_left; (intro w hSw; go_simp; (try with_reducible rfl)); (try simp only [Act.put, List.setIfInBounds_toArray, List.set_cons_zero, List.set_cons_succ])); (refine wpAnyH_val (i := 43) (some 224) ?_ rfl rfl (by kernel_rfl) (by kernel_rfl) (by kernel_rfl) (fun _ _ _ h => h) (by rfl) (by assumption) ?_ ?_; rotate_left; (intro w hSw; go_simp; (try with_reducible rfl)); (try simp only [Act.put, List.setIfInBounds_toArray, List.set_cons_zero, List.set_cons_succ])); (refine wpAnyH_val (i := 44) (some 225) ?_ rfl rfl (by kernel_rfl) (by kernel_rfl) (by kernel_rfl) (fun _ _ _ h => h) (by rfl) (by assumption) ?_ ?_; rotate_left; (intro w hSw; go_simp; (try with_reducible rfl)); (try simp only [Act.put, List.setIfInBounds_toArray, List.set_cons_zero, List.set_cons_succ])); (refine wpAnyH_val (i := 46) (some 227) ?_ rfl rfl (by kernel_rfl) (by kernel_rfl) (by kernel_rfl) (fun _ _ _ h => h) (by rfl) (by assumption) ?_ ?_; rotate_left; (intro w hSw; go_simp; (try with_reducible rfl)); (try simp only [Act.put, List.setIfInBounds_toArray, List.set_cons_zero, List.set_cons_succ])); (refine wpAnyH_val (i := 47) (some 228) ?_ rfl rfl (by kernel_rfl) (by kernel_rfl) (by kernel_rfl) (fun _ _ _ h => h) (by rfl) (by assumption) ?_ ?_; rotate_left; (intro w hSw; go_simp; (try with_reducible rfl)); (try simp only [Act.put, List.setIfInBounds_toArray, List.set_cons_zero, List.set_cons_succ])); (refine wpAnyH_val (i := 48) (some 229) ?_ rfl rfl (by kernel_rfl) (by kernel_rfl) (by kernel_rfl) (fun _ _ _ h => h) (by rfl) (by assumption) ?_ ?_; rotate_left; (intro w hSw; go_simp; (try with_reducible rfl)); (try simp only [Act.put, List.setIfInBounds_toArray, List.set_cons_zero, List.set_cons_succ])); (refine wpAnyH_val (i := 49) (some 230) ?_ rfl rfl (by kernel_rfl) (by kernel_rfl) (by kernel_rfl) (fun _ _ _ h => h) (by rfl) (by assumption) ?_ ?_; rotate_left; (intro w hSw; go_simp; (try with_reducible rfl)); (try simp only [Act.put, List.setIfInBounds_toArray, List.set_cons_zero, List.set_cons_succ]))
                  (refine wpAnyH_ready (rs := [45]) (by kernel_rfl) (by simp) ?_; refine AllReadyH.cons rfl (fun K hK => ?_) AllReadyH.nil; go_simp)
                  refine Calls.mono (Ans.eqb (c_CheckDerivation n3 o3 c3 D3 l3 r3 o4 c4 S3 _ (hdK.keep hS.2.2) (hdU.keep hS.2.2)) HQ.out) ?_
                  rintro e wz ⟨rfl, hbn⟩
                  have hS3 := (show _ ∧ _ ∧ Below w16.heap.size w16 _ from ⟨cell_keep hS.1 hbn, cell_keep hS.2.1 hbn, bel_to hS.2.2 hbn⟩)
                  refine hK.out _ _ hS3 (fun hS2 => ?_)
                  clear hK hbn hS hS2
                  have hS := hS3
                  clear hS3
                  (try simp only [Act.put, List.setIfInBounds_toArray, List.set_cons_zero, List.set_cons_succ])
                  (refine wpAnyH_ready (rs := [50]) (by kernel_rfl) (by simp) ?_; refine AllReadyH.cons rfl (fun K hK => ?_) AllReadyH.nil; go_simp)
                  refine Calls.mono (Ans.eqb (c_specCheckDerivation n3 o3 c3 D3 l3 r3 o4 c4 S3 _ (hdK.keep hS.2.2) (hdU.keep hS.2.2)) HQ.out) ?_
                  rintro e wz ⟨rfl, hbn⟩
                  have hS3 := (show _ ∧ _ ∧ Below w16.heap.size w16 _ from ⟨cell_keep hS.1 hbn, cell_keep hS.2.1 hbn, bel_to hS.2.2 hbn⟩)
                  refine hK.out _ _ hS3 (fun hS2 => ?_)
                  clear hK hbn hS hS2
                  have hS := hS3
                  clear hS3
                  (try simp only [Act.put, List.setIfInBounds_toArray, List.set_cons_zero, List.set_cons_succ])
                  (refine wpAnyH_val (i := 51) (some 232) ?_ rfl rfl (by kernel_rfl) (by kernel_rfl) (by kernel_rfl) (fun _ _ _ h => h) (by rfl) (by assumption) ?_ ?_; rotate_left; (intro w hSw; go_simp; (try with_reducible rfl)); (try simp only [Act.put, List.setIfInBounds_toArray, List.set_cons_zero, List.set_cons_succ])); (refine wpAnyH_val (i := 52) (some 233) ?_ rfl rfl (by kernel_rfl) (by kernel_rfl) (by kernel_rfl) (fun _ _ _ h => h) (by rfl) (by assumption) ?_ ?_; rotate_left; (intro w hSw; go_simp; (try with_reducible rfl)); (try simp only [Act.put, List.setIfInBounds_toArray, List.set_cons_zero, List.set_cons_succ])); (refine wpAnyH_val (i := 53) (some 2) ?_ rfl rfl (by kernel_rfl) (by kernel_rfl) (by kernel_rfl) (fun _ _ _ h => h) (by rfl) (by assumption) ?_ ?_; rotate_left; (intro w hSw; go_simp; (try with_reducible rfl)); (try simp only [Act.put, List.setIfInBounds_toArray, List.set_cons_zero, List.set_cons_succ]))
                  refine wpAnyH_done (by kernel_rfl) ?_ _
                  try dsimp only [NoPanic, Exit.then]
                  go_wp2
                  go_ret
                  exact ⟨rfl, bel_to hb hS.2.2⟩
                · obtain ⟨hcy, hxy⟩ := HCX.out ha hx
                  refine wp_region_held_drew (S := fun w' => w'.cell? ⟨w15.heap.size, 0, none⟩ = some (.int .i64 l3) ∧ w'.cell? ⟨w15.heap.size, 1, none⟩ = some (.int .i64 r3) ∧ Below w16.heap.size w16 w') (by kernel_rfl) ⟨cell_keep e0 (Below.refl _ _).drew, cell_keep e1 (Below.refl _ _).drew, (Below.refl _ _).drew⟩ (fun hS => ?_)
                  (refine wpAnyH_val (i := 0) (some 181) ?_ rfl rfl (by kernel_rfl) (by kernel_rfl) (by kernel_rfl) (fun _ _ _ h => h) (by rfl) (by assumption) ?_ ?_; rotate_left; (intro w hSw; go_simp; (try with_reducible rfl)); (try simp only [Act.put, List.setIfInBounds_toArray, List.set_cons_zero, List.set_cons_succ])); (refine wpAnyH_val (i := 1) (some 182) ?_ rfl rfl (by kernel_rfl) (by kernel_rfl) (by kernel_rfl) (fun _ _ _ h => h) (by rfl) (by assumption) ?_ ?_; rotate_left; (intro w hSw; go_simp; (try with_reducible rfl)); (try simp only [Act.put, List.setIfInBounds_toArray, List.set_cons_zero, List.set_cons_succ])); (refine wpAnyH_val (i := 2) (some 183) ?_ rfl rfl (by kernel_rfl) (by kernel_rfl) (by kernel_rfl) (fun _ _ _ h => h) (by rfl) (by assumption) ?_ ?_; rotate_left; (intro w hSw; go_simp; (try with_reducible rfl)); (try simp only [Act.put, List.setIfInBounds_toArray, List.set_cons_zero, List.set_cons_succ]))
                  (refine wpAnyH_ready (rs := [3]) (by kernel_rfl) (by simp) ?_; refine AllReadyH.cons rfl (fun K hK => ?_) AllReadyH.nil; go_simp)
                  refine (c_specClosedSets n o c D _ (hdD.keep hS.2.2)).mono ?_
                  rintro e wz ⟨v9, rfl, h9, hbn⟩
                  rw [HA.out] at h9
                  obtain ⟨o9, c9, rfl⟩ := h9.shape
                  have hd9 := h9.ints rfl hLR
                  clear h9
                  have hS3 := (show _ ∧ _ ∧ Below w16.heap.size w16 _ from ⟨cell_keep hS.1 hbn, cell_keep hS.2.1 hbn, bel_to hS.2.2 hbn⟩)
                  refine hK.out _ _ hS3 (fun hS2 => ?_)
                  clear hK hbn hS hS2
                  have hS := hS3
                  clear hS3
                  (try simp only [Act.put, List.setIfInBounds_toArray, List.set_cons_zero, List.set_cons_succ])
                  (refine wpAnyH_ready (rs := [4]) (by kernel_rfl) (by simp) ?_; refine AllReadyH.cons rfl (fun K hK => ?_) AllReadyH.nil; go_simp)
                  refine Calls.mono (c_lawSameInts oL o9 cL c9 A _ (hdL.keep hS.2.2) hd9) ?_
                  rintro e wz ⟨rfl, hbn⟩
                  have hS3 := (show _ ∧ _ ∧ Below w16.heap.size w16 _ from ⟨cell_keep hS.1 hbn, cell_keep hS.2.1 hbn, bel_to hS.2.2 hbn⟩)
                  refine hK.out _ _ hS3 (fun hS2 => ?_)
                  clear hK hbn hS hS2
                  have hS := hS3
                  clear hS3
                  (try simp only [Act.put, List.setIfInBounds_toArray, List.set_cons_zero, List.set_cons_succ])
                  (refine wpAnyH_val (i := 5) (some 186) ?_ rfl rfl (by kernel_rfl) (by kernel_rfl) (by kernel_rfl) (fun _ _ _ h => h) (by rfl) (by assumption) ?_ ?_; rotate_left; (intro w hSw; go_simp; (try with_reducible rfl)); (try simp only [Act.put, List.setIfInBounds_toArray, List.set_cons_zero, List.set_cons_succ])); (refine wpAnyH_val (i := 6) (some 187) ?_ rfl rfl (by kernel_rfl) (by kernel_rfl) (by kernel_rfl) (fun _ _ _ h => h) (by rfl) (by assumption) ?_ ?_; rotate_left; (intro w hSw; go_simp; (try with_reducible rfl)); (try simp only [Act.put, List.setIfInBounds_toArray, List.set_cons_zero, List.set_cons_succ])); (refine wpAnyH_val (i := 7) (some 188) ?_ rfl rfl (by kernel_rfl) (by kernel_rfl) (by kernel_rfl) (fun _ _ _ h => h) (by rfl) (by assumption) ?_ ?_; rotate_left; (intro w hSw; go_simp; (try with_reducible rfl)); (try simp only [Act.put, List.setIfInBounds_toArray, List.set_cons_zero, List.set_cons_succ])); (refine wpAnyH_val (i := 8) (some 189) ?_ rfl rfl (by kernel_rfl) (by kernel_rfl) (by kernel_rfl) (fun _ _ _ h => h) (by rfl) (by assumption) ?_ ?_; rotate_left; (intro w hSw; go_simp; (try with_reducible rfl)); (try simp only [Act.put, List.setIfInBounds_toArray, List.set_cons_zero, List.set_cons_succ])); (refine wpAnyH_val (i := 9) (some 190) ?_ rfl rfl (by kernel_rfl) (by kernel_rfl) (by kernel_rfl) (fun _ _ _ h => h) (by rfl) (by assumption) ?_ ?_; rotate_left; (intro w hSw; go_simp; (try with_reducible rfl)); (try simp only [Act.put, List.setIfInBounds_toArray, List.set_cons_zero, List.set_cons_succ]))
                  (refine wpAnyH_ready (rs := [10]) (by kernel_rfl) (by simp) ?_; refine AllReadyH.cons rfl (fun K hK => ?_) AllReadyH.nil; go_simp)
                  refine Calls.mono (Ans.eqi (c_specClosureOf n2 o2 c2 D2 x2 _ (hdJ.keep hS.2.2)) HY.out) ?_
                  rintro e wz ⟨rfl, hbn⟩
                  have hS3 := (show _ ∧ _ ∧ Below w16.heap.size w16 _ from ⟨cell_keep hS.1 hbn, cell_keep hS.2.1 hbn, bel_to hS.2.2 hbn⟩)
                  refine hK.out _ _ hS3 (fun hS2 => ?_)
                  clear hK hbn hS hS2
                  have hS := hS3
                  clear hS3
                  (try simp only [Act.put, List.setIfInBounds_toArray, List.set_cons_zero, List.set_cons_succ])
                  (refine wpAnyH_val (i := 11) (some 192) ?_ rfl rfl (by kernel_rfl) (by kernel_rfl) (by kernel_rfl) (fun _ _ _ h => h) (by rfl) (by assumption) ?_ ?_; rotate_left; (intro w hSw; go_simp; (try with_reducible rfl)); (try simp only [Act.put, List.setIfInBounds_toArray, List.set_cons_zero, List.set_cons_succ])); (refine wpAnyH_val (i := 12) (some 193) ?_ rfl rfl (by kernel_rfl) (by kernel_rfl) (by kernel_rfl) (fun _ _ _ h => h) (by rfl) (by assumption) ?_ ?_; rotate_left; (intro w hSw; go_simp; (try with_reducible rfl)); (try simp only [Act.put, List.setIfInBounds_toArray, List.set_cons_zero, List.set_cons_succ])); (refine wpAnyH_val (i := 13) (some 194) ?_ rfl rfl (by kernel_rfl) (by kernel_rfl) (by kernel_rfl) (fun _ _ _ h => h) (by rfl) (by assumption) ?_ ?_; rotate_left; (intro w hSw; go_simp; (try with_reducible rfl)); (try simp only [Act.put, List.setIfInBounds_toArray, List.set_cons_zero, List.set_cons_succ])); (refine wpAnyH_val (i := 14) (some 195) ?_ rfl rfl (by kernel_rfl) (by kernel_rfl) (by kernel_rfl) (fun _ _ _ h => h) (by rfl) (by assumption) ?_ ?_; rotate_left; (intro w hSw; go_simp; (try with_reducible rfl)); (try simp only [Act.put, List.setIfInBounds_toArray, List.set_cons_zero, List.set_cons_succ])); (refine wpAnyH_val (i := 15) (some 196) ?_ rfl rfl (by kernel_rfl) (by kernel_rfl) (by kernel_rfl) (fun _ _ _ h => h) (by rfl) (by assumption) ?_ ?_; rotate_left; (intro w hSw; go_simp; (try with_reducible rfl)); (try simp only [Act.put, List.setIfInBounds_toArray, List.set_cons_zero, List.set_cons_succ]))
                  (refine wpAnyH_ready (rs := [16]) (by kernel_rfl) (by simp) ?_; refine AllReadyH.cons rfl (fun K hK => ?_) AllReadyH.nil; go_simp)
                  refine Calls.mono (Ans.eqb (c_specAreDeps n2 o2 c2 D2 _ (hdJ.keep hS.2.2)) ha) ?_
                  rintro e wz ⟨rfl, hbn⟩
                  have hS3 := (show _ ∧ _ ∧ Below w16.heap.size w16 _ from ⟨cell_keep hS.1 hbn, cell_keep hS.2.1 hbn, bel_to hS.2.2 hbn⟩)
                  refine hK.out _ _ hS3 (fun hS2 => ?_)
                  clear hK hbn hS hS2
                  have hS := hS3
                  clear hS3
                  (try simp only [Act.put, List.setIfInBounds_toArray, List.set_cons_zero, List.set_cons_succ])
                  (refine wpAnyH_val (i := 17) (some 198) ?_ rfl rfl (by kernel_rfl) (by kernel_rfl) (by kernel_rfl) (fun _ _ _ h => h) (by rfl) (by assumption) ?_ ?_; rotate_left; (intro w hSw; go_simp; (try with_reducible rfl)); (try simp only [Act.put, List.setIfInBounds_toArray, List.set_cons_zero, List.set_cons_succ])); (refine wpAnyH_val (i := 18) (some 199) ?_ rfl rfl (by kernel_rfl) (by kernel_rfl) (by kernel_rfl) (fun _ _ _ h => h) (by rfl) (by assumption) ?_ ?_; rotate_left; (intro w hSw; go_simp; (try with_reducible rfl)); (try simp only [Act.put, List.setIfInBounds_toArray, List.set_cons_zero, List.set_cons_succ])); (refine wpAnyH_val (i := 19) (some 200) ?_ rfl rfl (by kernel_rfl) (by kernel_rfl) (by kernel_rfl) (fun _ _ _ h => h) (by rfl) (by assumption) ?_ ?_; rotate_left; (intro w hSw; go_simp; (try with_reducible rfl)); (try simp only [Act.put, List.setIfInBounds_toArray, List.set_cons_zero, List.set_cons_succ])); (refine wpAnyH_val (i := 20) (some 201) ?_ rfl rfl (by kernel_rfl) (by kernel_rfl) (by kernel_rfl) (fun _ _ _ h => h) (by rfl) (by assumption) ?_ ?_; rotate_left; (intro w hSw; go_simp; (try with_reducible rfl)); (try simp only [Act.put, List.setIfInBounds_toArray, List.set_cons_zero, List.set_cons_succ]))
                  (refine wpAnyH_ready (rs := [21]) (by kernel_rfl) (by simp) ?_; refine AllReadyH.cons rfl (fun K hK => ?_) AllReadyH.nil; go_simp)
                  refine Calls.mono (Ans.eqb (c_specIsAttributes n2 x2 _) hx) ?_
                  rintro e wz ⟨rfl, hbn⟩
                  have hS3 := (show _ ∧ _ ∧ Below w16.heap.size w16 _ from ⟨cell_keep hS.1 hbn, cell_keep hS.2.1 hbn, bel_to hS.2.2 hbn⟩)
                  refine hK.out _ _ hS3 (fun hS2 => ?_)
                  clear hK hbn hS hS2
                  have hS := hS3
                  clear hS3
                  (try simp only [Act.put, List.setIfInBounds_toArray, List.set_cons_zero, List.set_cons_succ])
                  (refine wpAnyH_val (i := 22) (some 203) ?_ rfl rfl (by kernel_rfl) (by kernel_rfl) (by kernel_rfl) (fun _ _ _ h => h) (by rfl) (by assumption) ?_ ?_; rotate_left; (intro w hSw; go_simp; (try with_reducible rfl)); (try simp only [Act.put, List.setIfInBounds_toArray, List.set_cons_zero, List.set_cons_succ])); (refine wpAnyH_val (i := 23) (some 204) ?_ rfl rfl (by kernel_rfl) (by kernel_rfl) (by kernel_rfl) (fun _ _ _ h => h) (by rfl) (by assumption) ?_ ?_; rotate_left; (intro w hSw; go_simp; (try with_reducible rfl)); (try simp only [Act.put, List.setIfInBounds_toArray, List.set_cons_zero, List.set_cons_succ])); (refine wpAnyH_val (i := 24) (some 205) ?_ rfl rfl (by kernel_rfl) (by kernel_rfl) (by kernel_rfl) (fun _ _ _ h => h) (by rfl) (by assumption) ?_ ?_; rotate_left; (intro w hSw; go_simp; (try with_reducible rfl)); (try simp only [Act.put, List.setIfInBounds_toArray, List.set_cons_zero, List.set_cons_succ])); (refine wpAnyH_val (i := 25) (some 206) ?_ rfl rfl (by kernel_rfl) (by kernel_rfl) (by kernel_rfl) (fun _ _ _ h => h) (by rfl) (by assumption) ?_ ?_; rotate_left; (intro w hSw; go_simp; (try with_reducible rfl)); (try simp only [Act.put, List.setIfInBounds_toArray, List.set_cons_zero, List.set_cons_succ])); (refine wpAnyH_val (i := 26) (some 207) ?_ rfl rfl (by kernel_rfl) (by kernel_rfl) (by kernel_rfl) (fun _ _ _ h => h) (by rfl) (by assumption) ?_ ?_; rotate_left; (intro w hSw; go_simp; (try with_reducible rfl)); (try simp only [Act.put, List.setIfInBounds_toArray, List.set_cons_zero, List.set_cons_succ])); (refine wpAnyH_val (i := 28) (some 209) ?_ rfl rfl (by kernel_rfl) (by kernel_rfl) (by kernel_rfl) (fun _ _ _ h => h) (by rfl) (by assumption) ?_ ?_; rotate_left; (intro w hSw; go_simp; (try with_reducible rfl)); (try simp only [Act.put, List.setIfInBounds_toArray, List.set_cons_zero, List.set_cons_succ])); (refine wpAnyH_val (i := 27) (some 208) ?_ rfl rfl (by kernel_rfl) (by kernel_rfl) (by kernel_rfl) (fun _ _ _ h => h) (by rfl) (by assumption) ?_ ?_; rotate_left; (intro w hSw; go_simp; (try with_reducible rfl)); (try simp only [Act.put, List.setIfInBounds_toArray, List.set_cons_zero, List.set_cons_succ])); (refine wpAnyH_val (i := 29) (some 210) ?_ rfl rfl (by kernel_rfl) (by kernel_rfl) (by kernel_rfl) (fun _ _ _ h => h) (by rfl) (by assumption) ?_ ?_; rotate_left; (intro w hSw; go_simp; (try with_reducible rfl)); (try simp only [Act.put, List.setIfInBounds_toArray, List.set_cons_zero, List.set_cons_succ])); (refine wpAnyH_val (i := 30) (some 211) ?_ rfl rfl (by kernel_rfl) (by kernel_rfl) (by kernel_rfl) (fun _ _ _ h => h) (by rfl) (by assumption) ?_ ?_; rotate_left; (intro w hSw; go_simp; (try with_reducible rfl)); (try simp only [Act.put, List.setIfInBounds_toArray, List.set_cons_zero, List.set_cons_succ])); (refine wpAnyH_val (i := 31) (some 212) ?_ rfl rfl (by kernel_rfl) (by kernel_rfl) (by kernel_rfl) (fun _ _ _ h => h) (by rfl) (by assumption) ?_ ?_; rotate_left; (intro w hSw; go_simp; (try with_reducible rfl)); (try simp only [Act.put, List.setIfInBounds_toArray, List.set_cons_zero, List.set_cons_succ])); (refine wpAnyH_val (i := 32) (some 213) ?_ rfl rfl (by kernel_rfl) (by kernel_rfl) (by kernel_rfl) (fun _ _ _ h => h) (by rfl) (by assumption) ?_ ?_; rotate_left; (intro w hSw; go_simp; (try with_reducible rfl)); (try simp only [Act.put, List.setIfInBounds_toArray, List.set_cons_zero, List.set_cons_succ])); (refine wpAnyH_val (i := 33) (some 214) ?_ rfl rfl (by kernel_rfl) (by kernel_rfl) (by kernel_rfl) (fun _ _ _ h => h) (by rfl) (by assumption) ?_ ?_; rotate_left; (intro w hSw; go_simp; (try with_reducible rfl)); (try simp only [Act.put, List.setIfInBounds_toArray, List.set_cons_zero, List.set_cons_succ])); (refine wpAnyH_val (i := 35) (some 216) ?_ rfl rfl (by kernel_rfl) (by kernel_rfl) (by kernel_rfl) (fun _ _ _ h => h) (by rfl) (by assumption) ?_ ?_; rotate_left; (intro w hSw; go_simp; (try with_reducible rfl)); (try simp only [Act.put, List.setIfInBounds_toArray, List.set_cons_zero, List.set_cons_succ]))
                  (refine wpAnyH_ready (rs := [34]) (by kernel_rfl) (by simp) ?_; refine AllReadyH.cons rfl (fun K hK => ?_) AllReadyH.nil; go_simp)
                  refine Calls.mono (Ans.eqi (c_ClosureOf n2 o2 c2 D2 y _ (hdJ.keep hS.2.2)) hcy) ?_
                  rintro e wz ⟨rfl, hbn⟩
                  have hS3 := (show _ ∧ _ ∧ Below w16.heap.size w16 _ from ⟨cell_keep hS.1 hbn, cell_keep hS.2.1 hbn, bel_to hS.2.2 hbn⟩)
                  refine hK.out _ _ hS3 (fun hS2 => ?_)
                  clear hK hbn hS hS2
                  have hS := hS3
                  clear hS3
                  (try simp only [Act.put, List.setIfInBounds_toArray, List.set_cons_zero, List.set_cons_succ])
                  (refine wpAnyH_val (i := 36) (some 217) ?_ rfl rfl (by kernel_rfl) (by kernel_rfl) (by kernel_rfl) (fun _ _ _ h => h) (by rfl) (by assumption) ?_ ?_; rotate_left; (intro w hSw; go_simp; (try with_reducible rfl)); (try simp only [Act.put, List.setIfInBounds_toArray, List.set_cons_zero, List.set_cons_succ])); (refine wpAnyH_val (i := 37) (some 218) ?_ rfl rfl (by kernel_rfl) (by kernel_rfl) (by kernel_rfl) (fun _ _ _ h => h) (by rfl) (by assumption) ?_ ?_; rotate_left; (intro w hSw; go_simp; (try with_reducible rfl)); (try simp only [Act.put, List.setIfInBounds_toArray, List.set_cons_zero, List.set_cons_succ])); (refine wpAnyH_val (i := 38) (some 219) ?_ rfl rfl (by kernel_rfl) (by kernel_rfl) (by kernel_rfl) (fun _ _ _ h => h) (by rfl) (by assumption) ?_ ?_; rotate_left; (intro w hSw; go_simp; (try with_reducible rfl)); (try simp only [Act.put, List.setIfInBounds_toArray, List.set_cons_zero, List.set_cons_succ])); (refine wpAnyH_val (i := 39) (some 220) ?_ rfl rfl (by kernel_rfl) (by kernel_rfl) (by kernel_rfl) (fun _ _ _ h => h) (by rfl) (by assumption) ?_ ?_; rotate_left; (intro w hSw; go_simp; (try with_reducible rfl)); (try simp only [Act.put, List.setIfInBounds_toArray, List.set_cons_zero, List.set_cons_succ])); (refine wpAnyH_val (i := 40) (some 221) ?_ rfl rfl (by kernel_rfl) (by kernel_rfl) (by kernel_rfl) (fun _ _ _ h => h) (by rfl) (by assumption) ?_ ?_; rotate_left; (intro w hSw; go_simp; (try with_reducible rfl)); (try simp only [Act.put, List.setIfInBounds_toArray, List.set_cons_zero, List.set_cons_succ])); (refine wpAnyH_val (i := 41) (some 222) ?_ rfl rfl (by kernel_rfl) (by kernel_rfl) (by kernel_rfl) (fun _ _ _ h => h) (by rfl) (by assumption) ?_ ?_; rotate_left; (intro w hSw; go_simp; (try with_reducible rfl)); (try simp only [Act.put, List.setIfInBounds_toArray, List.set_cons_zero, List.set_cons_succ])); (refine wpAnyH_val (i := 42) (some 223) ?_ rfl rfl (by kernel_rfl) (by kernel_rfl) (by kernel_rfl) (fun _ _ _ h => h) (by rfl) (by assumption) ?_ ?_; rotate_left; (intro w hSw; go_simp; (try with_reducible rfl)); (try simp only [Act.put, List.setIfInBounds_toArray, List.set_cons_zero, List.set_cons_succ])); (refine wpAnyH_val (i := 43) (some 224) ?_ rfl rfl (by kernel_rfl) (by kernel_rfl) (by kernel_rfl) (fun _ _ _ h => h) (by rfl) (by assumption) ?_ ?_; rotate_left; (intro w hSw; go_simp; (try with_reducible rfl)); (try simp only [Act.put, List.setIfInBounds_toArray, List.set_cons_zero, List.set_cons_succ])); (refine wpAnyH_val (i := 44) (some 225) ?_ rfl rfl (by kernel_rfl) (by kernel_rfl) (by kernel_rfl) (fun _ _ _ h => h) (by rfl) (by assumption) ?_ ?_; rotate_left; (intro w hSw; go_simp; (try with_reducible rfl)); (try simp only [Act.put, List.setIfInBounds_toArray, List.set_cons_zero, List.set_cons_succ])); (refine wpAnyH_val (i := 46) (some 227) ?_ rfl rfl (by kernel_rfl) (by kernel_rfl) (by kernel_rfl) (fun _ _ _ h => h) (by rfl) (by assumption) ?_ ?_; rotate_left; (intro w hSw; go_simp; (try with_reducible rfl)); (try simp only [Act.put, List.setIfInBounds_toArray, List.set_cons_zero, List.set_cons_succ])); (refine wpAnyH_val (i := 47) (some 228) ?_ rfl rfl (by kernel_rfl) (by kernel_rfl) (by kernel_rfl) (fun _ _ _ h => h) (by rfl) (by assumption) ?_ ?_; rotate_left; (intro w hSw; go_simp; (try with_reducible rfl)); (try simp only [Act.put, List.setIfInBounds_toArray, List.set_cons_zero, List.set_cons_succ])); (refine wpAnyH_val (i := 48) (some 229) ?_ rfl rfl (by kernel_rfl) (by kernel_rfl) (by kernel_rfl) (fun _ _ _ h => h) (by rfl) (by assumption) ?_ ?_; rotate_left; (intro w hSw; go_simp; (try with_reducible rfl)); (try simp only [Act.put, List.setIfInBounds_toArray, List.set_cons_zero, List.set_cons_succ])); (refine wpAnyH_val (i := 49) (some 230) ?_ rfl rfl (by kernel_rfl) (by kernel_rfl) (by kernel_rfl) (fun _ _ _ h => h) (by rfl) (by assumption) ?_ ?_; rotate_left; (intro w hSw; go_simp; (try with_reducible rfl)); (try simp only [Act.put, List.setIfInBounds_toArray, List.set_cons_zero, List.set_cons_succ]))
                  (refine wpAnyH_ready (rs := [45]) (by kernel_rfl) (by simp) ?_; refine AllReadyH.cons rfl (fun K hK => ?_) AllReadyH.nil; go_simp)
                  refine Calls.mono (Ans.eqb (c_CheckDerivation n3 o3 c3 D3 l3 r3 o4 c4 S3 _ (hdK.keep hS.2.2) (hdU.keep hS.2.2)) HQ.out) ?_
                  rintro e wz ⟨rfl, hbn⟩
                  have hS3 := (show _ ∧ _ ∧ Below w16.heap.size w16 _ from ⟨cell_keep hS.1 hbn, cell_keep hS.2.1 hbn, bel_to hS.2.2 hbn⟩)
                  refine hK.out _ _ hS3 (fun hS2 => ?_)
                  clear hK hbn hS hS2
                  have hS := hS3
                  clear hS3
                  (try simp only [Act.put, List.setIfInBounds_toArray, List.set_cons_zero, List.set_cons_succ])
                  (refine wpAnyH_ready (rs := [50]) (by kernel_rfl) (by simp) ?_; refine AllReadyH.cons rfl (fun K hK => ?_) AllReadyH.nil; go_simp)
                  refine Calls.mono (Ans.eqb (c_specCheckDerivation n3 o3 c3 D3 l3 r3 o4 c4 S3 _ (hdK.keep hS.2.2) (hdU.keep hS.2.2)) HQ.out) ?_
                  rintro e wz ⟨rfl, hbn⟩
                  have hS3 := (show _ ∧ _ ∧ Below w16.heap.size w16 _ from ⟨cell_keep hS.1 hbn, cell_keep hS.2.1 hbn, bel_to hS.2.2 hbn⟩)
                  refine hK.out _ _ hS3 (fun hS2 => ?_)
                  clear hK hbn hS hS2
                  have hS := hS3
                  clear hS3
                  (try simp only [Act.put, List.setIfInBounds_toArray, List.set_cons_zero, List.set_cons_succ])
                  (refine wpAnyH_val (i := 51) (some 232) ?_ rfl rfl (by kernel_rfl) (by kernel_rfl) (by kernel_rfl) (fun _ _ _ h => h) (by rfl) (by assumption) ?_ ?_; rotate_left; (intro w hSw; go_simp; (try with_reducible rfl)); (try simp only [Act.put, List.setIfInBounds_toArray, List.set_cons_zero, List.set_cons_succ])); (refine wpAnyH_val (i := 52) (some 233) ?_ rfl rfl (by kernel_rfl) (by kernel_rfl) (by kernel_rfl) (fun _ _ _ h => h) (by rfl) (by assumption) ?_ ?_; rotate_left; (intro w hSw; go_simp; (try with_reducible rfl)); (try simp only [Act.put, List.setIfInBounds_toArray, List.set_cons_zero, List.set_cons_succ])); (refine wpAnyH_val (i := 53) (some 2) ?_ rfl rfl (by kernel_rfl) (by kernel_rfl) (by kernel_rfl) (fun _ _ _ h => h) (by rfl) (by assumption) ?_ ?_; rotate_left; (intro w hSw; go_simp; (try with_reducible rfl)); (try simp only [Act.put, List.setIfInBounds_toArray, List.set_cons_zero, List.set_cons_succ]))
                  refine wpAnyH_done (by kernel_rfl) ?_ _
                  try dsimp only [NoPanic, Exit.then]
                  go_wp2
                  go_ret
                  exact ⟨rfl, bel_to hb hS.2.2⟩
            · obtain ⟨hlt, rfl⟩ := HG.out _ hg rfl
              clear hg HG
              obtain ⟨b, off, rfl, hbs, hcell⟩ := (hL.ints rfl hLR).at_ (by omega)
              have hc1 := hcell k hlt
              have HCK := (show Hid _ from HCL.out k hlt)
              go_upto_region 16 with fail
              go_cut [146] from 123 to 146 (fun x wx => x = .bool false ∧ Below w12.heap.size w12 wx)
              case first =>
                have d0 := k5.cell 0 (.int .i64 l) rfl
                have d1 := k5.cell 1 (.int .i64 r) rfl
                generalize nth A k = x at *
                cases i
                · (refine wp_region_after (by kernel_rfl) (by kernel_rfl) ?_; have q_hc1 := fun (x : After _) => cell_keep hc1 x.bel; have q_d0 := fun (x : After _) => cell_keep d0 x.bel; have q_d1 := fun (x : After _) => cell_keep d1 x.bel; (repeat (go_big_quiet_step (fail))); clear q_hc1; clear q_d0; clear q_d1; refine wpQuiet_nil ?_; rintro _ ⟨⟨w1, hbn⟩, rfl⟩; (try simp only [After.w]); replace hc1 := cell_keep hc1 hbn; replace d0 := cell_keep d0 hbn; replace d1 := cell_keep d1 hbn; have hbw := hbn; replace hb := bel_to (w := w) (by first | exact hb | exact hb.alloc hb.size _ | exact (hb.alloc hb.size _).alloc (Nat.le_trans hb.size (by simp)) _ | exact hb.setCell (by simp [hb.size]) _) hbn; clear hbn)
                  go_wp2_with fail
                  go_meet
                  exact ⟨rfl, hbw⟩
                · obtain ⟨hsl, hcr, hsx, himp⟩ := HCK.out rfl
                  have hr0 := hcr.1
                  have hr1 := hcr.2
                  cases hin : ins l x
                  · have hq : (bits BinOp.and .i64 x l == l) = false := by rw [and_swap hsx hsl, hin]
                    (refine wp_region_after (by kernel_rfl) (by kernel_rfl) ?_; have q_hc1 := fun (x : After _) => cell_keep hc1 x.bel; have q_d0 := fun (x : After _) => cell_keep d0 x.bel; have q_d1 := fun (x : After _) => cell_keep d1 x.bel; (repeat (go_big_quiet_step (fail))); clear q_hc1; clear q_d0; clear q_d1; refine wpQuiet_nil ?_; rintro _ ⟨⟨w1, hbn⟩, rfl⟩; (try simp only [After.w]); replace hc1 := cell_keep hc1 hbn; replace d0 := cell_keep d0 hbn; replace d1 := cell_keep d1 hbn; have hbw := hbn; replace hb := bel_to (w := w) (by first | exact hb | exact hb.alloc hb.size _ | exact (hb.alloc hb.size _).alloc (Nat.le_trans hb.size (by simp)) _ | exact hb.setCell (by simp [hb.size]) _) hbn; clear hbn)
                    go_wp2_with fail
                    go_meet
                    exact ⟨rfl, hbw⟩
                  · have hq : (bits BinOp.and .i64 x l == l) = true := by rw [and_swap hsx hsl, hin]
                    have hq2 : (bits BinOp.and .i64 (x / 2 ^ r.toNat) 1 == 0) = false := by have := hasn_eq hsx hcr; unfold hasn at this; rw [this, himp hin]; rfl
                    have hr64 : 0 ≤ r ∧ r < 64 := ⟨hr0, by omega⟩
                    (refine wp_region_after (by kernel_rfl) (by kernel_rfl) ?_; have q_hc1 := fun (x : After _) => cell_keep hc1 x.bel; have q_d0 := fun (x : After _) => cell_keep d0 x.bel; have q_d1 := fun (x : After _) => cell_keep d1 x.bel; (repeat (go_big_quiet_step (fail))); clear q_hc1; clear q_d0; clear q_d1; refine wpQuiet_nil ?_; rintro _ ⟨⟨w1, hbn⟩, rfl⟩; (try simp only [After.w]); replace hc1 := cell_keep hc1 hbn; replace d0 := cell_keep d0 hbn; replace d1 := cell_keep d1 hbn; have hbw := hbn; replace hb := bel_to (w := w) (by first | exact hb | exact hb.alloc hb.size _ | exact (hb.alloc hb.size _).alloc (Nat.le_trans hb.size (by simp)) _ | exact hb.setCell (by simp [hb.size]) _) hbn; clear hbn)
                    go_wp2_with fail
                    go_meet
                    exact ⟨rfl, hbw⟩
              case rest =>
                obtain ⟨rfl, hbn⟩ := hcut
                replace hc1 := cell_keep hc1 hbn
                clear hcell hbs
                replace hB := hB.keep hbn
                replace hI := hI.keep hbn
                replace k5 := k5.keep hbn
                replace hT := hT.keep hbn
                replace hO := hO.keep hbn
                replace k9 := k9.keep hbn
                replace hL := hL.keep hbn
                replace hbo := bel_to hbo hbn
                replace hb := bel_to hb hbn
                clear hbn
                obtain ⟨w13, hwq⟩ := Blk.world k5
                subst hwq
                have HCJ := (show Hid _ from fun j hj => HCI.out k j hlt hj)
                go_wp2_with fail
                go_loopw [14] (fun v wr => ∃ j : Nat, v = .int .i64 j ∧ j ≤ k ∧ Below w13.heap.size w13 wr) (fun v _ => k - (intOf v).toNat)
                case atStart => exact ⟨0, rfl, Nat.zero_le _, Below.refl _ _⟩
                case round =>
                  obtain ⟨j, rfl, hj, hbn⟩ := hrel
                  replace hc1 := cell_keep hc1 hbn
                  have hbi := hbn
                  replace hB := hB.keep hbn
                  replace hI := hI.keep hbn
                  replace k5 := k5.keep hbn
                  replace hT := hT.keep hbn
                  replace hO := hO.keep hbn
                  replace k9 := k9.keep hbn
                  replace hL := hL.keep hbn
                  replace hbo := bel_to hbo hbn
                  replace hb := bel_to hb hbn
                  clear hbn
                  obtain ⟨w14, hwq⟩ := Blk.world k5
                  subst hwq
                  by_cases hjk : j < k
                  · have HMm := (show Hid _ from HCJ.out j (by omega))
                    obtain ⟨b', off', e', hbs', hcell'⟩ := (hL.ints rfl hLR).at_ (by omega)
                    simp only [Option.some.injEq, Addr.mk.injEq, and_true] at e'
                    obtain ⟨rfl, rfl⟩ := e'
                    have hc2 := hcell' j (by omega)
                    have hdL := hL.ints rfl hLR
                    clear hcell' hbs'
                    generalize nth A k = x at *
                    generalize nth A j = z at *
                    unfold cap at HMm
                    have hjl : j < A.length := by omega
                    go_wp2_with fail
                    (refine wp_region_after (by kernel_rfl) (by kernel_rfl) ?_; have q_hc1 := fun (x : After _) => cell_keep hc1 x.bel; have q_hc2 := fun (x : After _) => cell_keep hc2 x.bel; (repeat (go_big_quiet_step ((go_at_call 42; exact Ans.after (c_lawHas _ _ A _ _ (hdL.keep (After.bel _)) HMm.out))))); clear q_hc1; clear q_hc2; refine wpQuiet_nil ?_; rintro _ ⟨⟨w1, hbn⟩, rfl⟩; (try simp only [After.w]); replace hc1 := cell_keep hc1 hbn; replace hc2 := cell_keep hc2 hbn; replace hB := hB.keep hbn; replace hI := hI.keep hbn; replace k5 := k5.keep hbn; replace hT := hT.keep hbn; replace hO := hO.keep hbn; replace k9 := k9.keep hbn; replace hL := hL.keep hbn; replace hbo := bel_to hbo hbn; replace hbi := bel_to hbi hbn; replace hb := bel_to (w := w) (by first | exact hb | exact hb.alloc hb.size _ | exact (hb.alloc hb.size _).alloc (Nat.le_trans hb.size (by simp)) _ | exact hb.setCell (by simp [hb.size]) _) hbn; clear hbn)
                    go_wp2
                    go_roundw
                    case rel => exact ⟨j + 1, by go_num, by omega, hbi⟩
                    case measure => simp [intOf]; omega
                  · go_wp2_with fail
                    go_roundw
                    case rel => exact ⟨k + 1, by go_num, by omega, hbo⟩
                    case measure => simp [intOf]; omega
end Go.Proofs.Ytjbmpnbfiahdhaa
