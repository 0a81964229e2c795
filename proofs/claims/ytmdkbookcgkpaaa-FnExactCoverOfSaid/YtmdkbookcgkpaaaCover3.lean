/- CoverOf of the program. -/
import Derived.Test.YtmdkbookcgkpaaaCover2
namespace Go.Proofs.Ytmdkbookcgkpaaa
open Go.RowKit
set_option linter.unusedVariables false
set_option maxRecDepth 100000

set_option maxHeartbeats 3200000 in
theorem c_CoverOf (n : Int) (oa) (cap : Nat) (D : List (Int × Int)) (w : World) (hD : DepsAt w oa D) :
    Calls Try.prog 56 #[.int .i64 n, .slice oa D.length cap] w fun e w' => ∃ v, e = .returned v ∧ OwnD w' w.heap.size v (coverOfF n D) ∧ Below w.heap.size w w' := by
  obtain ⟨i0, hi, hz0, hz1, hz2⟩ := info_parts info_dep
  have hn : D.length ≤ 1073741824 := hD.len
  have hb := (Below.refl w.heap.size w).alloc (Nat.le_refl _) (.cells #[] 36)
  have hI := OwnD.empty w w.heap.size (Nat.le_refl _)
  cases ha : areDepsF n D
  · have HM : Hid (coverOfF n D = []) := by unfold coverOfF; rw [ha]; rfl
    go_enter Try.func56, Try.ntmps56
    go_wp2_with (first | (go_at_call 22; refine Calls.mono (c_AreDeps _ _ _ _ _ (hD.keep hb)) ?_; rintro e w1 ⟨rfl, hbn⟩; replace hI := hI.keep hbn; replace hb := bel_to (w := w) (by first | exact hb | exact hb.alloc hb.size _ | exact (hb.alloc hb.size _).alloc (Nat.le_trans hb.size (by simp)) _ | exact hb.setCell (by simp [hb.size]) _) hbn; clear hbn))
    go_ret
    exact ⟨_, rfl, by rw [HM.out]; exact hI, hb⟩
  · have HM : Hid (coverOfF n D = pruneF n (dstF n D D.length).length (dstF n D D.length) 0) := by unfold coverOfF; rw [ha]; rfl
    go_enter Try.func56, Try.ntmps56
    go_wp2_with (first | (go_at_call 22; refine Calls.mono (c_AreDeps _ _ _ _ _ (hD.keep hb)) ?_; rintro e w1 ⟨rfl, hbn⟩; replace hI := hI.keep hbn; replace hb := bel_to (w := w) (by first | exact hb | exact hb.alloc hb.size _ | exact (hb.alloc hb.size _).alloc (Nat.le_trans hb.size (by simp)) _ | exact hb.setCell (by simp [hb.size]) _) hbn; clear hbn))
    go_loopw [5, 19] (fun v i wr => ∃ k : Nat, i = .int .i64 k ∧ k ≤ D.length ∧ OwnD wr w.heap.size v (dstF n D k) ∧ Below w.heap.size w wr) (fun _ i _ => D.length - (intOf i).toNat)
    case atStart => exact ⟨0, rfl, Nat.zero_le _, hI, hb⟩
    case round =>
      clear hI hb
      obtain ⟨k, rfl, hk, hI, hb⟩ := hrel
      have HS : Hid (k < D.length → dstF n D (k + 1) = addF n D (dstF n D k) (nl D k, nr D k)) := dstF_succ
      have hle := dstF_len n D k hk
      by_cases hlt : k < D.length
      · obtain ⟨b, off, rfl, hbs, hc⟩ := hD.at_ (by omega)
        have hc1 := cell_keep (hc k hlt).1 hb
        have hc2 := cell_keep (hc k hlt).2 hb
        have HS2 := HS.out hlt
        clear hc HS
        generalize hA : dstF n D k = A at *
        generalize hx : reduceF n D (nl D k) (nr D k) = x at *
        have HS0 : dstF n D (k + 1) = if A.contains (x, nr D k) then A else A ++ [(x, nr D k)] := by rw [HS2]; unfold addF; simp only [hx]
        have HS : Hid (_) := HS0
        clear HS0
        clear HS2
        obtain ⟨o1, c1, rfl⟩ := hI.shape
        have hb0 := (Below.refl wr.heap.size wr).alloc (Nat.le_refl _) (.cells #[.int .i64 (nl D k), .int .i64 (nr D k)] 36)
        go_wp2_with fail
        refine Calls.mono (c_ReduceLeft _ _ _ _ _ _ _ (hD.keep (bel_to hb hb0))) ?_
        rintro e w1 ⟨rfl, hbn⟩
        rw [hx]
        replace hI := hI.keep (bel_to hb0 hbn)
        replace hb := bel_to hb (bel_to hb0 hbn)
        clear hbn hc1 hc2 hb0
        have hbx := (Below.refl w1.heap.size w1).alloc (Nat.le_refl _) (.cells #[.int .i64 x, .int .i64 (nr D k)] 36)
        have hI2 := hI.keep hbx
        have hb2 := bel_to hb hbx
        have g0 := box_at w1 #[.int .i64 x, .int .i64 (nr D k)] 36 0 _ rfl
        have g1 := box_at w1 #[.int .i64 x, .int .i64 (nr D k)] 36 1 _ rfl
        clear hI hb hbx
        go_wp2_with fail
        refine Calls.mono (c_hasDep _ _ _ _ _ _ (hI2.deps rfl (by unfold Room; omega))) ?_
        rintro e w2 ⟨rfl, hbn⟩
        have hI := hI2.keep hbn
        have hb := bel_to hb2 hbn
        replace g0 := cell_keep g0 hbn
        replace g1 := cell_keep g1 hbn
        clear hI2 hb2 hbn
        cases hB : A.contains (x, nr D k)
        · have HV : Hid (dstF n D (k + 1) = A ++ [(x, nr D k)]) := by have := HS.out; rw [hB] at this; exact this
          clear HS HM hB
          go_wp2_with (first | (at_builtin; refine wpList_append_own _ rfl _ _ 29 rfl w.heap.size 36 i0 (.agg #[.int .i64 0, .int .i64 0]) 2 16 Try.underlying29 hi hz0 hz1 hz2 rfl (by decide) _ _ _ rfl (World.ownsRow.alloc hI _) _ 1 1 [.int .i64 (x), .int .i64 (nr D k)] rfl rfl (World.news_of_block (cs := #[.int .i64 (x), .int .i64 (nr D k)]) (t := 36) (fr := (0, 0)) (heap_alloc_new _ _)) (by intro u hu; simp at hu; rcases hu with rfl | rfl <;> rfl) (by unfold maxLen; omega) (by omega) (by have := hb.size; simp; omega) ?_; intro v' w1 hown hgrow _; replace hb := (hb.alloc hb.size _).grown hgrow (by have := hb.size; simp; omega) (fun g hg => (World.ownsRow.lt hI g hg).1); replace hI := OwnD.snoc hown; clear hown hgrow))
          go_roundw
          case rel => exact ⟨k + 1, by go_num, by omega, by rw [HV.out]; exact hI, hb⟩
          case measure => simp [intOf]; omega
        · have HV : Hid (dstF n D (k + 1) = A) := by have := HS.out; rw [hB] at this; exact this
          clear HS HM hB g0 g1
          go_wp2_with fail
          go_roundw
          case rel => exact ⟨k + 1, by go_num, by omega, by rw [HV.out]; exact hI, hb⟩
          case measure => simp [intOf]; omega
      · have hkk : k = D.length := by omega
        subst hkk
        have hle2 := dstF_len n D D.length (Nat.le_refl _)
        have HDD : Hid (∀ d ∈ dstF n D D.length, isDepF n d.1 d.2 = true) := dstF_dep ha _ (Nat.le_refl _)
        have HA0 : Hid (areDepsF n D = true) := ha
        clear HS hle
        generalize hL : dstF n D D.length = L at *
        clear hL
        obtain ⟨o1, c1, rfl⟩ := hI.shape
        go_wp2_with fail
        go_loopw [5, 9] (fun v i wr => ∃ (A : List (Int × Int)) (m : Nat), i = .int .i64 m ∧ m ≤ A.length ∧ A.length ≤ D.length ∧ pruneF n (A.length - m) A m = coverOfF n D ∧ (∀ d ∈ A, isDepF n d.1 d.2 = true) ∧ OwnD wr w.heap.size v A ∧ Below w.heap.size w wr) (fun v i _ => slen v - (intOf i).toNat)
        case atStart => exact ⟨L, 0, rfl, Nat.zero_le _, hle2, HM.out.symm, HDD.out, hI, hb⟩
        case round =>
          clear hI hb hle2 HM HDD
          obtain ⟨A, m, rfl, hm, hAl, hP, hAA, hI, hb⟩ := hrel
          have HAA : Hid (∀ d ∈ A, isDepF n d.1 d.2 = true) := hAA
          clear hAA
          have HP : Hid (pruneF n (A.length - m) A m = coverOfF n D) := hP
          clear hP
          obtain ⟨o2, c2, rfl, hcp, hnl⟩ := hI.cap
          by_cases hml : m < A.length
          · have hD2 := hI.deps rfl (by unfold Room; omega)
            obtain ⟨b2, off2, rfl, hbs2, hc2⟩ := hD2.at_ (by omega)
            have f0 := (hc2 m hml).1
            have f1 := (hc2 m hml).2
            have hle2 : (eraD A m).length ≤ Room := by rw [eraD_len hml]; unfold Room; omega
            have hel : Hid ((eraD A m).length = A.length - 1) := eraD_len hml
            have hdk := HAA.out _ (nth_mem hml)
            obtain ⟨⟨hl, hr⟩, _⟩ := isDepF_val hdk
            have hv : Val (eraD A m) := fun d hd => (isDepF_val (HAA.out d (mem_eraD hd))).1
            have HI : Hid (impliesDepF n (eraD A m) (nl A m) (nr A m) = impF (eraD A m) (nl A m) (nr A m)) := by
              have h1 : areDepsF n (eraD A m) = true := by
                have h2 := HA0.out
                simp only [areDepsF, Bool.and_eq_true, decide_eq_true_eq, List.all_eq_true] at h2 ⊢
                exact ⟨fun d hd => HAA.out d (mem_eraD hd), h2.2.1, by have := eraD_len hml; omega⟩
              unfold impliesDepF; rw [h1, hdk]; rfl
            clear hc2 hnl hdk
            go_wp2_with fail
            refine (c_without _ _ _ _ _ hD2 hcp hml).mono ?_
            rintro e w1 ⟨v1, rfl, hO, hbn⟩
            replace f0 := cell_keep f0 hbn
            replace f1 := cell_keep f1 hbn
            replace hO := hO.based hb.size
            replace hI := hI.keep hbn
            replace hb := bel_to hb hbn
            clear hD2 hbn
            obtain ⟨o3, c3, rfl⟩ := hO.shape
            cases himp : impF (eraD A m) (nl A m) (nr A m)
            · have HQ : Hid (pruneF n (A.length - (m + 1)) A (m + 1) = coverOfF n D) := by rw [← pruneF_keep hml (HI.out.trans himp)]; exact HP.out
              clear HP
              go_wp2_with fail
              refine Calls.mono (Ans.eqb (c_implies _ _ _ _ _ _ (hO.deps rfl hle2) hv hl hr) himp) ?_
              rintro e w2 ⟨rfl, hbn⟩
              replace hI := hI.keep hbn
              replace hb := bel_to hb hbn
              clear hbn f0 f1 hO himp
              go_wp2
              go_roundw
              case rel => exact ⟨A, m + 1, by go_num, by omega, hAl, HQ.out, HAA.out, hI, hb⟩
              case measure => simp [slen, intOf]; omega
            · have HQ : Hid (pruneF n ((eraD A m).length - m) (eraD A m) m = coverOfF n D) := by rw [← pruneF_del hml (HI.out.trans himp)]; exact HP.out
              clear HP
              go_wp2_with fail
              refine Calls.mono (Ans.eqb (c_implies _ _ _ _ _ _ (hO.deps rfl hle2) hv hl hr) himp) ?_
              rintro e w2 ⟨rfl, hbn⟩
              replace hO := hO.keep hbn
              replace hb := bel_to hb hbn
              clear hbn f0 f1 hI himp
              go_wp2
              go_roundw
              case rel => exact ⟨eraD A m, m, by go_num, by have := hel.out; omega, by have := hel.out; omega, HQ.out, (fun d hd => HAA.out d (mem_eraD hd)), hO, hb⟩
              case measure => have := hel.out; simp [slen, intOf]; omega
          · have HQ : Hid (A = coverOfF n D) := by rw [← HP.out]; exact (pruneF_end (by omega) _).symm
            clear HP
            go_wp2
            go_ret
            exact ⟨_, rfl, by rw [← HQ.out]; exact hI, hb⟩
theorem pruneF_len (n : Int) : ∀ (f : Nat) (A : List (Int × Int)) (i : Nat), (pruneF n f A i).length ≤ A.length
  | 0, A, i => Nat.le_refl _
  | f + 1, A, i => by
    unfold pruneF
    split
    · next h =>
      split
      · have := pruneF_len n f (eraD A i) i
        have := eraD_len h
        omega
      · exact pruneF_len n f A (i + 1)
    · exact Nat.le_refl _
theorem coverOf_len (n : Int) (D : List (Int × Int)) : (coverOfF n D).length ≤ Room := by
  unfold coverOfF
  split
  · next h =>
    have h1 := (areDepsF_val h).2.2.2
    have h2 := dstF_len n D D.length (Nat.le_refl _)
    have h3 := pruneF_len n (dstF n D D.length).length (dstF n D D.length) 0
    unfold Room; omega
  · simp
end Go.Proofs.Ytmdkbookcgkpaaa
