/- DeriveDep of the program. -/
import Derived.Test.YtmdkbookcgkpaaaDerive
import Derived.Test.YtmdkbookcgkpaaaReduce
namespace Go.Proofs.Ytmdkbookcgkpaaa
open Go.RowKit
set_option linter.unusedVariables false
set_option maxRecDepth 100000

set_option maxHeartbeats 3200000 in
theorem c_DeriveDep (n : Int) (oa) (cap : Nat) (D : List (Int × Int)) (l r : Int) (w : World) (hD : DepsAt w oa D) :
    Calls Try.prog 47 #[.int .i64 n, .slice oa D.length cap, .agg #[.int .i64 l, .int .i64 r]] w fun e w' => ∃ v L, e = .returned (.tuple #[v, .bool (impliesDepF n D l r)]) ∧ Derives n D l r L ∧ OwnT w' w.heap.size v L ∧ Below w.heap.size w w' := by
  obtain ⟨i0, hi, hz0, hz1, hz2⟩ := info_parts info_derived
  have hn : D.length ≤ 1073741824 := hD.len
  have hb := (Below.refl w.heap.size w).alloc (Nat.le_refl _) (.cells #[.int .i64 l, .int .i64 r] 36)
  have b0 := box_at w #[.int .i64 l, .int .i64 r] 36 0 _ rfl
  have b1 := box_at w #[.int .i64 l, .int .i64 r] 36 1 _ rfl
  cases himp : impliesDepF n D l r
  · have HV : Hid (Derives n D l r []) := ⟨fun h => (by rw [himp] at h; cases h), fun _ => rfl, Nat.zero_le _⟩
    go_enter Try.func47, Try.ntmps47
    go_wp2_with (first | (go_at_call 26; refine Calls.mono (Ans.eqb (c_ImpliesDep _ _ _ _ _ _ _ (hD.keep hb)) himp) ?_; rintro e w1 ⟨rfl, hbn⟩; replace hb := bel_to (w := w) (by first | exact hb | exact hb.alloc hb.size _ | exact (hb.alloc hb.size _).alloc (Nat.le_trans hb.size (by simp)) _ | exact hb.setCell (by simp [hb.size]) _) hbn; clear hbn))
    go_ret2
    exact ⟨_, [], rfl, HV.out, OwnT.nil _ _, hb⟩
  · obtain ⟨hv, hl, hr⟩ := impliesDepF_val himp
    have hr2 := co64 hr
    have HV : Hid (∀ L, L.length ≤ 31 → Drv D r l 0 L → Derives n D l r L) := fun L hL h => ⟨fun _ => h, fun h' => (by rw [himp] at h'; cases h'), hL⟩
    go_enter Try.func47, Try.ntmps47
    go_wp2_with fail
    refine Calls.mono (Ans.eqb (c_ImpliesDep _ _ _ _ _ _ _ (hD.keep hb)) himp) ?_
    rintro e w1 ⟨rfl, hbn⟩
    replace b0 := cell_keep b0 hbn
    replace b1 := cell_keep b1 hbn
    replace hb := bel_to hb hbn
    clear hbn himp
    have hbx := (Below.refl w1.heap.size w1).alloc (Nat.le_refl _) (.cells #[] 73)
    have hI := OwnT.empty w1 (w.heap.size + 1) (World.block_lt_of_cell? w1 _ b0)
    replace b0 := cell_keep b0 hbx
    replace b1 := cell_keep b1 hbx
    replace hb := bel_to hb hbx
    clear hbx
    go_wp2
    go_loopw [8, 9, 10] (fun v t i wr => ∃ (A : List T3) (x : Int) (k : Nat), t = .int .i64 x ∧ i = .int .i64 k ∧ k ≤ D.length ∧ St x ∧ A.length ≤ x.toNat ∧ (∀ L, Drv D r x k L → Drv D r l 0 (A ++ L)) ∧
      wr.cell? ⟨w.heap.size, 0, none⟩ = some (.int .i64 l) ∧ wr.cell? ⟨w.heap.size, 1, none⟩ = some (.int .i64 r) ∧ OwnT wr (w.heap.size + 1) v A ∧ Below w.heap.size w wr) (fun _ t i _ => (31 - (intOf t).toNat) * (D.length + 1) + (D.length - (intOf i).toNat))
    case atStart => exact ⟨[], l, 0, rfl, rfl, Nat.zero_le _, hl, Nat.zero_le _, fun L h => h, b0, b1, hI, hb⟩
    case round =>
      clear hI hb b0 b1
      obtain ⟨A, x, k, rfl, rfl, hk, hx, hA, hdr, b0, b1, hI, hb⟩ := hrel
      have HD : Hid (∀ L, Drv D r x k L → Drv D r l 0 (A ++ L)) := hdr
      have hx31 : x.toNat ≤ 31 := by have := hx.1; have := hx.2; omega
      clear hdr
      by_cases hlt : k < D.length
      · cases hh : hasc x r
        · obtain ⟨b, off, rfl, hbs, hc⟩ := hD.at_ (by omega)
          have hc1 := cell_keep (hc k hlt).1 hb
          have hc2 := cell_keep (hc k hlt).2 hb
          obtain ⟨hvl, hvr⟩ := hv.at_ hlt
          have hr0 : 0 ≤ nr D k := hvr.1
          have hr1 : nr D k < 5 := hvr.2
          have hr3 := co64 hvr
          clear hc
          cases h1 : ins (nl D k) x
          · have HN : Hid (∀ L, Drv D r x (k + 1) L → Drv D r l 0 (A ++ L)) := fun L hL => HD.out L (.skip hh hlt (by rw [h1]; rfl) hL)
            go_wp2_with (first | (go_at_call 73; refine Calls.mono (Ans.eqb (c_inside _ _ _) h1) ?_; rintro e w1 ⟨rfl, hbn⟩; replace b0 := cell_keep b0 hbn; replace b1 := cell_keep b1 hbn; replace hc1 := cell_keep hc1 hbn; replace hc2 := cell_keep hc2 hbn; replace hI := hI.keep hbn; replace hb := bel_to (w := w) (by first | exact hb | exact hb.alloc hb.size _ | exact (hb.alloc hb.size _).alloc (Nat.le_trans hb.size (by simp)) _ | exact hb.setCell (by simp [hb.size]) _) hbn; clear hbn) | (go_at_call 74; refine Calls.mono (Ans.eqb (c_has x r hr2 _) hh) ?_; rintro e w1 ⟨rfl, hbn⟩; replace b0 := cell_keep b0 hbn; replace b1 := cell_keep b1 hbn; replace hc1 := cell_keep hc1 hbn; replace hc2 := cell_keep hc2 hbn; replace hI := hI.keep hbn; replace hb := bel_to hb hbn; clear hbn))
            go_roundw
            case rel => exact ⟨A, x, k + 1, rfl, by go_num, by omega, hx, hA, HN.out, b0, b1, hI, hb⟩
            case measure => simp [intOf]; omega
          · cases h2 : hasc x (nr D k)
            · have hlt2 := uni_lt hx hvr h2
              have HST : Hid (St (uni x (one (nr D k)))) := uni_st hx (one_st hvr)
              have HLT : Hid (x < uni x (one (nr D k))) := hlt2
              have HN : Hid (∀ L, Drv D r (uni x (one (nr D k))) 0 L → Drv D r l 0 ((A ++ [((k : Int), x, uni x (one (nr D k)))]) ++ L)) := fun L hL => by
                rw [List.append_assoc]; exact HD.out _ (.take hh hlt h1 h2 hL)
              clear hlt2
              go_wp2_with (first | (go_at_call 73; refine Calls.mono (Ans.eqb (c_inside _ _ _) h1) ?_; rintro e w1 ⟨rfl, hbn⟩; replace b0 := cell_keep b0 hbn; replace b1 := cell_keep b1 hbn; replace hc1 := cell_keep hc1 hbn; replace hc2 := cell_keep hc2 hbn; replace hI := hI.keep hbn; replace hb := bel_to (w := w) (by first | exact hb | exact hb.alloc hb.size _ | exact (hb.alloc hb.size _).alloc (Nat.le_trans hb.size (by simp)) _ | exact hb.setCell (by simp [hb.size]) _) hbn; clear hbn) | (go_at_call 74; refine Calls.mono (Ans.eqb (c_has x r hr2 _) hh) ?_; rintro e w1 ⟨rfl, hbn⟩; replace b0 := cell_keep b0 hbn; replace b1 := cell_keep b1 hbn; replace hc1 := cell_keep hc1 hbn; replace hc2 := cell_keep hc2 hbn; replace hI := hI.keep hbn; replace hb := bel_to hb hbn; clear hbn) | (go_at_call 74; refine Calls.mono (Ans.eqb (c_has x (nr D k) hr3 _) h2) ?_; rintro e w1 ⟨rfl, hbn⟩; replace b0 := cell_keep b0 hbn; replace b1 := cell_keep b1 hbn; replace hc1 := cell_keep hc1 hbn; replace hc2 := cell_keep hc2 hbn; replace hI := hI.keep hbn; replace hb := bel_to hb hbn; clear hbn) | (at_builtin; refine wpList_append_own _ rfl _ _ 48 rfl (w.heap.size + 1) 73 i0 (.agg #[.int .i64 0, .int .i64 0, .int .i64 0]) 3 24 Try.underlying48 hi hz0 hz1 hz2 rfl (by decide) _ _ _ rfl (World.ownsRow.alloc hI _) _ 1 1 [.int .i64 (k : Int), .int .i64 x, .int .i64 (uni x (one (nr D k)))] rfl rfl (World.news_of_block (cs := #[.int .i64 (k : Int), .int .i64 x, .int .i64 (uni x (one (nr D k)))]) (t := 73) (fr := (0, 0)) (heap_alloc_new _ _)) (by intro u hu; simp at hu; rcases hu with rfl | rfl | rfl <;> rfl) (by unfold maxLen; omega) (by omega) (Nat.le_trans (World.block_lt_of_cell? _ _ b0) (by simp)) ?_; intro v' w1 hown hgrow _; replace b0 := cell_grow (cell_alloc b0 _) (World.ownsRow.alloc hI _) (Nat.lt_succ_self _) hgrow; replace b1 := cell_grow (cell_alloc b1 _) (World.ownsRow.alloc hI _) (Nat.lt_succ_self _) hgrow; replace hb := (hb.alloc hb.size _).grown hgrow (by have := hb.size; simp; omega) (fun g hg => Nat.le_of_succ_le (World.ownsRow.lt hI g hg).1); replace hI := OwnT.snoc hown; clear hown hgrow))
              go_roundw
              case rel => exact ⟨A ++ [((k : Int), x, uni x (one (nr D k)))], uni x (one (nr D k)), 0, rfl, by go_num, Nat.zero_le _, HST.out, by have h3 := HLT.out; have h4 := hx.1; rw [List.length_append]; simp only [List.length_cons, List.length_nil]; omega, HN.out, b0, b1, hI, hb⟩
              case measure =>
                have h1 := HLT.out
                have h2 := HST.out.1
                have h3 := HST.out.2
                have h4 := hx.1
                show (31 - (uni x (one (nr D k))).toNat) * (D.length + 1) + (D.length - 0) < (31 - x.toNat) * (D.length + 1) + (D.length - k)
                generalize uni x (one (nr D k)) = y at *
                obtain ⟨m, hm⟩ : ∃ m, 31 - x.toNat = (31 - y.toNat) + 1 + m := ⟨(31 - x.toNat) - (31 - y.toNat) - 1, by omega⟩
                rw [hm, Nat.add_mul, Nat.add_mul]
                omega
            · have HN : Hid (∀ L, Drv D r x (k + 1) L → Drv D r l 0 (A ++ L)) := fun L hL => HD.out L (.skip hh hlt (by rw [h1, h2]; rfl) hL)
              go_wp2_with (first | (go_at_call 73; refine Calls.mono (Ans.eqb (c_inside _ _ _) h1) ?_; rintro e w1 ⟨rfl, hbn⟩; replace b0 := cell_keep b0 hbn; replace b1 := cell_keep b1 hbn; replace hc1 := cell_keep hc1 hbn; replace hc2 := cell_keep hc2 hbn; replace hI := hI.keep hbn; replace hb := bel_to (w := w) (by first | exact hb | exact hb.alloc hb.size _ | exact (hb.alloc hb.size _).alloc (Nat.le_trans hb.size (by simp)) _ | exact hb.setCell (by simp [hb.size]) _) hbn; clear hbn) | (go_at_call 74; refine Calls.mono (Ans.eqb (c_has x r hr2 _) hh) ?_; rintro e w1 ⟨rfl, hbn⟩; replace b0 := cell_keep b0 hbn; replace b1 := cell_keep b1 hbn; replace hc1 := cell_keep hc1 hbn; replace hc2 := cell_keep hc2 hbn; replace hI := hI.keep hbn; replace hb := bel_to hb hbn; clear hbn) | (go_at_call 74; refine Calls.mono (Ans.eqb (c_has x (nr D k) hr3 _) h2) ?_; rintro e w1 ⟨rfl, hbn⟩; replace b0 := cell_keep b0 hbn; replace b1 := cell_keep b1 hbn; replace hc1 := cell_keep hc1 hbn; replace hc2 := cell_keep hc2 hbn; replace hI := hI.keep hbn; replace hb := bel_to hb hbn; clear hbn))
              go_roundw
              case rel => exact ⟨A, x, k + 1, rfl, by go_num, by omega, hx, hA, HN.out, b0, b1, hI, hb⟩
              case measure => simp [intOf]; omega
        · have HE : Hid (Drv D r l 0 A) := by have := HD.out [] (.done hh); rw [List.append_nil] at this; exact this
          go_wp2_with (first | (go_at_call 74; refine Calls.mono (Ans.eqb (c_has _ _ hr2 _) hh) ?_; rintro e w1 ⟨rfl, hbn⟩; replace b0 := cell_keep b0 hbn; replace b1 := cell_keep b1 hbn; replace hI := hI.keep hbn; replace hb := bel_to (w := w) (by first | exact hb | exact hb.alloc hb.size _ | exact (hb.alloc hb.size _).alloc (Nat.le_trans hb.size (by simp)) _ | exact hb.setCell (by simp [hb.size]) _) hbn; clear hbn))
          go_ret2
          exact ⟨_, A, rfl, HV.out A (by omega) HE.out, hI.based (Nat.le_succ _), hb⟩
      · have HE : Hid (Drv D r l 0 A) := by
          have := HD.out []
          rw [List.append_nil] at this
          cases hh : hasc x r with
          | true => exact this (.done hh)
          | false => exact this (.stop hh (by omega))
        go_wp2
        go_ret2
        exact ⟨_, A, rfl, HV.out A (by omega) HE.out, hI.based (Nat.le_succ _), hb⟩
end Go.Proofs.Ytmdkbookcgkpaaa
