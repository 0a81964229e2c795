/- DeriveDep of the reference. -/
import Derived.Test.YtmdkbookcgkpaaaDerive
import Derived.Test.YtmdkbookcgkpaaaReduce
namespace Go.Proofs.Ytmdkbookcgkpaaa
open Go.RowKit
set_option linter.unusedVariables false
set_option maxRecDepth 100000

set_option maxHeartbeats 3200000 in
theorem c_specDeriveDep (n : Int) (oa) (cap : Nat) (D : List (Int × Int)) (l r : Int) (w : World) (hD : DepsAt w oa D) :
    Calls Try.prog 46 #[.int .i64 n, .slice oa D.length cap, .agg #[.int .i64 l, .int .i64 r]] w fun e w' => ∃ v L, e = .returned (.tuple #[v, .bool (impliesDepF n D l r)]) ∧ Derives n D l r L ∧ OwnT w' w.heap.size v L ∧ Below w.heap.size w w' := by
  obtain ⟨i0, hi, hz0, hz1, hz2⟩ := info_parts info_derived
  have hn : D.length ≤ 1073741824 := hD.len
  have hb0 := (Below.refl w.heap.size w).alloc (Nat.le_refl _) (.cells #[.int .i64 l, .int .i64 r] 36)
  have b0 := box_at w #[.int .i64 l, .int .i64 r] 36 0 _ rfl
  have b1 := box_at w #[.int .i64 l, .int .i64 r] 36 1 _ rfl
  have hI0 := OwnT.empty (w.alloc (.cells #[.int .i64 l, .int .i64 r] 36)) (w.heap.size + 1) (by simp)
  have es : (w.alloc (.cells #[.int .i64 l, .int .i64 r] 36)).heap.size = w.heap.size + 1 := by simp
  have hI : OwnT ((w.alloc (.cells #[.int .i64 l, .int .i64 r] 36)).alloc (.cells #[] 73)) (w.heap.size + 1) (.slice (some ⟨w.heap.size + 1, 0, none⟩) 0 0) [] := by rw [← es]; rw [← es] at hI0; exact hI0
  have hb := hb0.alloc hb0.size (.cells #[] 73)
  replace b0 := cell_alloc b0 (.cells #[] 73)
  replace b1 := cell_alloc b1 (.cells #[] 73)
  clear hb0 hI0 es
  cases himp : impliesDepF n D l r
  · have HV : Hid (Derives n D l r []) := ⟨fun h => (by rw [himp] at h; cases h), fun _ => rfl, Nat.zero_le _⟩
    go_enter Try.func46, Try.ntmps46
    go_wp2_with (first | (go_at_call 24; refine Calls.mono (Ans.eqb (c_specImpliesDep _ _ _ _ _ _ _ (hD.keep hb)) himp) ?_; rintro e w1 ⟨rfl, hbn⟩; replace hI := hI.keep hbn; replace hb := bel_to (w := w) (by first | exact hb | exact hb.alloc hb.size _ | exact (hb.alloc hb.size _).alloc (Nat.le_trans hb.size (by simp)) _ | exact hb.setCell (by simp [hb.size]) _) hbn; clear hbn))
    go_ret2
    exact ⟨_, [], rfl, HV.out, hI.based (Nat.le_succ _), hb⟩
  · obtain ⟨hv, hl, hr⟩ := impliesDepF_val himp
    have hr0 : 0 ≤ r := hr.1
    have hr1 : r < 5 := hr.2
    have HV : Hid (∀ L, L.length ≤ 31 → Drv D r l 0 L → Derives n D l r L) := fun L hL h => ⟨fun _ => h, fun h' => (by rw [himp] at h'; cases h'), hL⟩
    have HC : Hid (∀ x, St x → ins l x = true → (∀ j, j < D.length → ins (nl D j) x = true → hasc x (nr D j) = true) → hasc x r = true) := by
      intro x hx hlx hall
      have h1 := cloF_min hv hl hx hlx (closed_of hall)
      have h2 : hasc (cloF D l) r = true := by
        simp only [impliesDepF, Bool.and_eq_true] at himp; exact himp.2.2
      exact (ins_iff (cloF_st hv hl) hx).1 h1 r hr h2
    go_enter Try.func46, Try.ntmps46
    go_wp2_with (first | (go_at_call 24; refine Calls.mono (Ans.eqb (c_specImpliesDep _ _ _ _ _ _ _ (hD.keep hb)) himp) ?_; rintro e w1 ⟨rfl, hbn⟩; replace b0 := cell_keep b0 hbn; replace b1 := cell_keep b1 hbn; replace hI := hI.keep hbn; replace hb := bel_to (w := w) (by first | exact hb | exact hb.alloc hb.size _ | exact (hb.alloc hb.size _).alloc (Nat.le_trans hb.size (by simp)) _ | exact hb.setCell (by simp [hb.size]) _) hbn; clear hbn))
    clear himp
    go_loopw [8, 9] (fun v t wr => ∃ (A : List T3) (x : Int), t = .int .i64 x ∧ St x ∧ ins l x = true ∧ A.length ≤ x.toNat ∧ (∀ L, Drv D r x 0 L → Drv D r l 0 (A ++ L)) ∧
      wr.cell? ⟨w.heap.size, 0, none⟩ = some (.int .i64 l) ∧ wr.cell? ⟨w.heap.size, 1, none⟩ = some (.int .i64 r) ∧ OwnT wr (w.heap.size + 1) v A ∧ Below w.heap.size w wr) (fun _ t _ => 31 - (intOf t).toNat)
    case atStart => exact ⟨[], l, rfl, hl, ins_refl hl, Nat.zero_le _, fun L h => h, b0, b1, hI, hb⟩
    case round =>
      clear hI hb b0 b1
      obtain ⟨A, x, rfl, hx, hlx, hA, hdr, b0, b1, hI, hb⟩ := hrel
      have HD0 : Hid (∀ L, Drv D r x 0 L → Drv D r l 0 (A ++ L)) := hdr
      have HLX : Hid (ins l x = true) := hlx
      have hx31 : x.toNat ≤ 31 := by have := hx.1; have := hx.2; omega
      clear hdr hlx
      cases hh : hasc x r
      · have hh1 : (bits BinOp.and IntKind.i64 (x / 2 ^ r.toNat) 1 == 0) = true := by have := hasn_eq hx hr; unfold hasn at this; rw [this, hh]; rfl
        obtain ⟨o1, c1, rfl⟩ := hI.shape
        go_wp2
        go_loopw [8, 9, 10] (fun v t i wr => v = .slice o1 A.length c1 ∧ t = .int .i64 x ∧ ∃ k : Nat, i = .int .i64 k ∧ k ≤ D.length ∧ (∀ j, j < k → ins (nl D j) x = true → hasc x (nr D j) = true) ∧ (∀ L, Drv D r x k L → Drv D r l 0 (A ++ L)) ∧
          wr.cell? ⟨w.heap.size, 0, none⟩ = some (.int .i64 l) ∧ wr.cell? ⟨w.heap.size, 1, none⟩ = some (.int .i64 r) ∧ OwnT wr (w.heap.size + 1) (.slice o1 A.length c1) A ∧ Below w.heap.size w wr) (fun _ _ i _ => D.length - (intOf i).toNat)
        case atStart => exact ⟨rfl, rfl, 0, rfl, Nat.zero_le _, fun j hj => absurd hj (by omega), HD0.out, b0, b1, hI, hb⟩
        case round =>
          clear hI hb b0 b1
          obtain ⟨rfl, rfl, k, rfl, hk, hall, hdr, b0, b1, hI, hb⟩ := hrel
          have HD : Hid (∀ L, Drv D r x k L → Drv D r l 0 (A ++ L)) := hdr
          have HA : Hid (∀ j, j < k → ins (nl D j) x = true → hasc x (nr D j) = true) := hall
          clear hdr hall
          by_cases hlt : k < D.length
          · obtain ⟨b, off, rfl, hbs, hc⟩ := hD.at_ (by omega)
            have hc1 := cell_keep (hc k hlt).1 hb
            have hc2 := cell_keep (hc k hlt).2 hb
            obtain ⟨hvl, hvr⟩ := hv.at_ hlt
            have q0 : 0 ≤ nr D k := hvr.1
            have q1 : nr D k < 5 := hvr.2
            have hsn : (bits BinOp.and IntKind.i64 (x / 2 ^ (nr D k).toNat) 1 == 0) = !hasc x (nr D k) := hasn_eq hx hvr
            have hsi : (bits BinOp.and IntKind.i64 (nl D k) x == nl D k) = ins (nl D k) x := insA_eq hvl hx
            clear hc
            cases h1 : ins (nl D k) x
            · rw [h1] at hsi
              have HN : Hid (∀ L, Drv D r x (k + 1) L → Drv D r l 0 (A ++ L)) := fun L hL => HD.out L (.skip hh hlt (by rw [h1]; rfl) hL)
              clear hsn
              go_wp2_with fail
              (refine wp_region_after (by kernel_rfl) (by kernel_rfl) ?_; have q_b0 := fun (x : After _) => cell_keep b0 x.bel; have q_b1 := fun (x : After _) => cell_keep b1 x.bel; have q_hc1 := fun (x : After _) => cell_keep hc1 x.bel; have q_hc2 := fun (x : After _) => cell_keep hc2 x.bel; (repeat (go_big_quiet_step (fail))); clear q_b0; clear q_b1; clear q_hc1; clear q_hc2; refine wpQuiet_nil ?_; rintro _ ⟨⟨w1, hbn⟩, rfl⟩; (try simp only [After.w]); replace b0 := cell_keep b0 hbn; replace b1 := cell_keep b1 hbn; replace hc1 := cell_keep hc1 hbn; replace hc2 := cell_keep hc2 hbn; replace hI := hI.keep hbn; replace hb := bel_to (w := w) (by first | exact hb | exact hb.alloc hb.size _ | exact (hb.alloc hb.size _).alloc (Nat.le_trans hb.size (by simp)) _ | exact hb.setCell (by simp [hb.size]) _) hbn; clear hbn)
              go_wp2
              go_roundw
              case rel => exact ⟨rfl, rfl, k + 1, by go_num, by omega, lt_step (p := fun j => ins (nl D j) x = true → hasc x (nr D j) = true) HA.out (fun h => by rw [h1] at h; cases h), HN.out, b0, b1, hI, hb⟩
              case measure => simp [intOf]; omega
            · rw [h1] at hsi
              cases h2 : hasc x (nr D k)
              · have hlt2 := uni_lt hx hvr h2
                have HST : Hid (St (uni x (one (nr D k)))) := uni_st hx (one_st hvr)
                have HLT : Hid (x < uni x (one (nr D k))) := hlt2
                have HL2 : Hid (ins l (uni x (one (nr D k))) = true) := ins_trans hl hx HST.out HLX.out (ins_uni_left hx (one_st hvr))
                have HN : Hid (∀ L, Drv D r (uni x (one (nr D k))) 0 L → Drv D r l 0 ((A ++ [((k : Int), x, uni x (one (nr D k)))]) ++ L)) := fun L hL => by
                  rw [List.append_assoc]; exact HD.out _ (.take hh hlt h1 h2 hL)
                rw [h2] at hsn
                replace hsn : (bits BinOp.and IntKind.i64 (x / 2 ^ (nr D k).toNat) 1 == 0) = true := hsn
                clear hlt2
                go_wp2_with fail
                (refine wp_region_after (by kernel_rfl) (by kernel_rfl) ?_; have q_b0 := fun (x : After _) => cell_keep b0 x.bel; have q_b1 := fun (x : After _) => cell_keep b1 x.bel; have q_hc1 := fun (x : After _) => cell_keep hc1 x.bel; have q_hc2 := fun (x : After _) => cell_keep hc2 x.bel; (repeat (go_big_quiet_step (fail))); clear q_b0; clear q_b1; clear q_hc1; clear q_hc2; refine wpQuiet_nil ?_; rintro _ ⟨⟨w1, hbn⟩, rfl⟩; (try simp only [After.w]); replace b0 := cell_keep b0 hbn; replace b1 := cell_keep b1 hbn; replace hc1 := cell_keep hc1 hbn; replace hc2 := cell_keep hc2 hbn; replace hI := hI.keep hbn; replace hb := bel_to (w := w) (by first | exact hb | exact hb.alloc hb.size _ | exact (hb.alloc hb.size _).alloc (Nat.le_trans hb.size (by simp)) _ | exact hb.setCell (by simp [hb.size]) _) hbn; clear hbn)
                go_wp2_with (first | (at_builtin; refine wpList_append_own _ rfl _ _ 48 rfl (w.heap.size + 1) 73 i0 (.agg #[.int .i64 0, .int .i64 0, .int .i64 0]) 3 24 Try.underlying48 hi hz0 hz1 hz2 rfl (by decide) _ _ _ rfl (World.ownsRow.alloc hI _) _ 1 1 [.int .i64 (k : Int), .int .i64 x, .int .i64 (uni x (one (nr D k)))] rfl rfl (World.news_of_block (cs := #[.int .i64 (k : Int), .int .i64 x, .int .i64 (uni x (one (nr D k)))]) (t := 73) (fr := (0, 0)) (heap_alloc_new _ _)) (by intro u hu; simp at hu; rcases hu with rfl | rfl | rfl <;> rfl) (by unfold maxLen; omega) (by omega) (Nat.le_trans (World.block_lt_of_cell? _ _ b0) (by simp)) ?_; intro v' w1 hown hgrow _; replace b0 := cell_grow (cell_alloc b0 _) (World.ownsRow.alloc hI _) (Nat.lt_succ_self _) hgrow; replace b1 := cell_grow (cell_alloc b1 _) (World.ownsRow.alloc hI _) (Nat.lt_succ_self _) hgrow; replace hb := (hb.alloc hb.size _).grown hgrow (by have := hb.size; simp; omega) (fun g hg => Nat.le_of_succ_le (World.ownsRow.lt hI g hg).1); replace hI := OwnT.snoc hown; clear hown hgrow))
                go_roundw
                case rel => exact ⟨A ++ [((k : Int), x, uni x (one (nr D k)))], uni x (one (nr D k)), rfl, HST.out, HL2.out, by have h3 := HLT.out; have h4 := hx.1; rw [List.length_append]; simp only [List.length_cons, List.length_nil]; omega, HN.out, b0, b1, hI, hb⟩
                case measure =>
                  have h1 := HLT.out
                  have h2 := HST.out.1
                  have h3 := HST.out.2
                  have h4 := hx.1
                  show 31 - (uni x (one (nr D k))).toNat < 31 - x.toNat
                  omega
              · rw [h2] at hsn
                replace hsn : (bits BinOp.and IntKind.i64 (x / 2 ^ (nr D k).toNat) 1 == 0) = false := hsn
                have HN : Hid (∀ L, Drv D r x (k + 1) L → Drv D r l 0 (A ++ L)) := fun L hL => HD.out L (.skip hh hlt (by rw [h1, h2]; rfl) hL)
                go_wp2_with fail
                (refine wp_region_after (by kernel_rfl) (by kernel_rfl) ?_; have q_b0 := fun (x : After _) => cell_keep b0 x.bel; have q_b1 := fun (x : After _) => cell_keep b1 x.bel; have q_hc1 := fun (x : After _) => cell_keep hc1 x.bel; have q_hc2 := fun (x : After _) => cell_keep hc2 x.bel; (repeat (go_big_quiet_step (fail))); clear q_b0; clear q_b1; clear q_hc1; clear q_hc2; refine wpQuiet_nil ?_; rintro _ ⟨⟨w1, hbn⟩, rfl⟩; (try simp only [After.w]); replace b0 := cell_keep b0 hbn; replace b1 := cell_keep b1 hbn; replace hc1 := cell_keep hc1 hbn; replace hc2 := cell_keep hc2 hbn; replace hI := hI.keep hbn; replace hb := bel_to (w := w) (by first | exact hb | exact hb.alloc hb.size _ | exact (hb.alloc hb.size _).alloc (Nat.le_trans hb.size (by simp)) _ | exact hb.setCell (by simp [hb.size]) _) hbn; clear hbn)
                go_wp2
                go_roundw
                case rel => exact ⟨rfl, rfl, k + 1, by go_num, by omega, lt_step (p := fun j => ins (nl D j) x = true → hasc x (nr D j) = true) HA.out (fun _ => h2), HN.out, b0, b1, hI, hb⟩
                case measure => simp [intOf]; omega
          · exfalso
            have := HC.out x hx HLX.out fun j hj => HA.out j (by omega)
            rw [hh] at this; cases this
      · have hh1 : (bits BinOp.and IntKind.i64 (x / 2 ^ r.toNat) 1 == 0) = false := by have := hasn_eq hx hr; unfold hasn at this; rw [this, hh]; rfl
        have HE : Hid (Drv D r l 0 A) := by have := HD0.out [] (.done hh); rw [List.append_nil] at this; exact this
        go_wp2
        go_ret2
        exact ⟨_, A, rfl, HV.out A (by omega) HE.out, hI.based (Nat.le_succ _), hb⟩
end Go.Proofs.Ytmdkbookcgkpaaa
