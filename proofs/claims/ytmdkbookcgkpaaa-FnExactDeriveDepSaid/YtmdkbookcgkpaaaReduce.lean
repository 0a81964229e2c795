/- ReduceLeft, of the program and of the reference. -/
import Derived.Test.YtmdkbookcgkpaaaImplies
import Derived.Test.YtmdkbookcgkpaaaMembers
namespace Go.Proofs.Ytmdkbookcgkpaaa
open Go.RowKit
set_option linter.unusedVariables false
set_option maxRecDepth 100000

def redStep (D : List (Int × Int)) (r x c : Int) : Int := if dif x (one c) != x && hasc (cloF D (dif x (one c))) r then dif x (one c) else x
def fiveI : List Int := [0, 1, 2, 3, 4]
def redF (D : List (Int × Int)) (l r : Int) : Int := fiveI.foldl (redStep D r) l
def reduceF (n : Int) (D : List (Int × Int)) (l r : Int) : Int := if impliesDepF n D l r then redF D l r else l

theorem redStep_st {D : List (Int × Int)} {r x c : Int} (hx : St x) (hc : Co c) : St (redStep D r x c) := by
  unfold redStep; split
  · exact dif_st hx (one_st hc)
  · exact hx
theorem dif_one_same {x c : Int} (hx : St x) (hc : Co c) : (dif x (one c) != x) = hasc x c := by
  obtain ⟨n, hn, rfl⟩ := st_nat hx; obtain ⟨k, hk, rfl⟩ := co_nat hc
  have h : ∀ n < 32, ∀ k < 5, (dif (n : Nat) (one (k : Nat)) != (n : Nat)) = hasc (n : Nat) (k : Nat) := by decide +kernel
  exact h n hn k hk
theorem redStep_no {D : List (Int × Int)} {r x c : Int} (hx : St x) (hc : Co c) (h : hasc x c = false) : redStep D r x c = x := by
  unfold redStep; rw [dif_one_same hx hc, h]; simp
theorem redStep_other {D : List (Int × Int)} {r x c e : Int} (hx : St x) (hc : Co c) (he : Co e) (hne : c ≠ e) : hasc (redStep D r x c) e = hasc x e := by
  unfold redStep; split
  · rw [hasc_dif hx (one_st hc) he, hasc_one hc he]
    simp [hne]
  · rfl
theorem impliesDepF_val {n : Int} {D : List (Int × Int)} {l r : Int} (h : impliesDepF n D l r = true) : Val D ∧ St l ∧ Co r := by
  simp only [impliesDepF, Bool.and_eq_true] at h
  have := (isDepF_val h.2.1).1
  exact ⟨(areDepsF_val h.1).1, this.1, this.2⟩

theorem five_drop (k : Nat) (hk : k < 5) (f : Int → Int → Int) (x : Int) : (fiveI.drop k).foldl f x = (fiveI.drop (k + 1)).foldl f (f x k) := by
  match k, hk with
  | 0, _ => rfl
  | 1, _ => rfl
  | 2, _ => rfl
  | 3, _ => rfl
  | 4, _ => rfl

set_option maxHeartbeats 400000 in
theorem c_specReduceLeft (n : Int) (oa) (cap : Nat) (D : List (Int × Int)) (l r : Int) (w : World) (hD : DepsAt w oa D) :
    Ans Try.prog 29 #[.int .i64 n, .slice oa D.length cap, .agg #[.int .i64 l, .int .i64 r]] w (.agg #[.int .i64 (reduceF n D l r), .int .i64 r]) := by
  unfold Ans
  have hb := ((Below.refl w.heap.size w).alloc (Nat.le_refl _) (.cells #[.int .i64 l, .int .i64 r] 36)).alloc (by simp) (.cells #[.int .i64 0, .int .i64 0] 36)
  have k0 := (Blk.new w #[.int .i64 l, .int .i64 r] 36).alloc (.cells #[.int .i64 0, .int .i64 0] 36)
  have k1 := Blk.new (w.alloc (.cells #[.int .i64 l, .int .i64 r] 36)) #[.int .i64 0, .int .i64 0] 36
  have es : (w.alloc (.cells #[.int .i64 l, .int .i64 r] 36)).heap.size = w.heap.size + 1 := by simp
  rw [es] at k1
  have hrun := (c_specImpliesDep n oa cap D l r _ (hD.keep hb))
  cases hi : impliesDepF n D l r
  · have HV : Hid (reduceF n D l r = l) := by unfold reduceF; rw [hi]; rfl
    go_enter Try.func29, Try.ntmps29
    go_wp2_with fail
    refine Calls.mono hrun ?_
    rintro e w1 ⟨rfl, hbn⟩
    replace k0 := k0.keep hbn
    replace k1 := k1.keep hbn
    have a0 := k0.cell 0 _ rfl
    have a1 := k0.cell 1 _ rfl
    have d0 := k1.cell 0 _ rfl
    have d1 := k1.cell 1 _ rfl
    have f0 := k1.free 0
    have f1 := k1.free 1
    replace hb := bel_to (w := w) hb hbn
    have m0 := ((k1.set 0 (.int .i64 l)).set 1 (.int .i64 r))
    have g0 := m0.cell 0 _ rfl
    have g1 := m0.cell 1 _ rfl
    clear hbn k0 k1 m0 hrun
    go_wp2
    exact bodyPost_ret (v := .agg #[.int .i64 l, .int .i64 r]) (by simp [results, Try.results29, go_sem, g0, g1]) rfl ⟨by rw [HV.out], (hb.setCell (by simp) _).setCell (by simp) _⟩
  · obtain ⟨hv, hl, hr⟩ := impliesDepF_val hi
    have HV : Hid (reduceF n D l r = fiveI.foldl (redStep D r) l) := by unfold reduceF; rw [hi]; rfl
    have hr0 : 0 ≤ r := hr.1
    have hr1 : r < 5 := hr.2
    go_enter Try.func29, Try.ntmps29
    go_wp2_with fail
    refine Calls.mono hrun ?_
    rintro e w1 ⟨rfl, hbn⟩
    replace k0 := k0.keep hbn
    replace k1 := k1.keep hbn
    replace hb := bel_to (w := w) hb hbn
    clear hbn hrun es
    go_wp2
    go_loopw [7] (fun i wr => ∃ (k : Nat) (x : Int), i = .int .i64 k ∧ k ≤ 5 ∧ St x ∧ (fiveI.drop k).foldl (redStep D r) x = fiveI.foldl (redStep D r) l ∧
      Blk wr w.heap.size #[.int .i64 x, .int .i64 r] 36 ∧ Blk wr (w.heap.size + 1) #[.int .i64 0, .int .i64 0] 36 ∧ Below w.heap.size w wr) (fun i _ => 5 - (intOf i).toNat)
    case atStart => exact ⟨0, l, rfl, Nat.zero_le _, hl, rfl, k0, k1, hb⟩
    case round =>
      clear k0 k1 hb
      obtain ⟨k, x, rfl, hk, hx, hfold, k0, k1, hb⟩ := hrel
      have HF : Hid ((fiveI.drop k).foldl (redStep D r) x = fiveI.foldl (redStep D r) l) := hfold
      clear hfold
      have a0 := k0.cell 0 _ rfl
      have a1 := k0.cell 1 _ rfl
      by_cases hlt : k < 5
      · have hco : Co (k : Int) := ⟨by omega, by omega⟩
        have HF2 : Hid ((fiveI.drop (k + 1)).foldl (redStep D r) (redStep D r x k) = fiveI.foldl (redStep D r) l) := by rw [← five_drop k hlt]; exact HF.out
        have hsy := dif_st hx (one_st hco)
        have HST : Hid (St (redStep D r x k)) := redStep_st hx hco
        clear HF
        cases hne : (dif x (one k) != x)
        · have hne2 : (bits BinOp.andNot IntKind.i64 x (wrap64 (2 ^ k)) != x) = false := hne
          have e : redStep D r x k = x := by unfold redStep; rw [hne]; rfl
          rw [e] at HF2 HST
          clear e
          go_wp2_with fail
          (refine wp_region_after (by kernel_rfl) (by kernel_rfl) ?_; have q_a0 := fun (x : After _) => cell_keep a0 x.bel; have q_a1 := fun (x : After _) => cell_keep a1 x.bel; (repeat (go_big_quiet_step (fail))); clear q_a0; clear q_a1; refine wpQuiet_nil ?_; rintro _ ⟨⟨w1, hbn⟩, rfl⟩; (try simp only [After.w]); replace a0 := cell_keep a0 hbn; replace a1 := cell_keep a1 hbn; replace k0 := k0.keep hbn; replace k1 := k1.keep hbn; replace hb := bel_to (w := w) (by first | exact hb | exact hb.alloc hb.size _ | exact (hb.alloc hb.size _).alloc (Nat.le_trans hb.size (by simp)) _ | exact hb.setCell (by simp [hb.size]) _) hbn; clear hbn)
          go_wp2_with fail
          (refine wp_region_after (by kernel_rfl) (by kernel_rfl) ?_; have q_a0 := fun (x : After _) => cell_keep a0 x.bel; have q_a1 := fun (x : After _) => cell_keep a1 x.bel; (repeat (go_big_quiet_step (fail))); clear q_a0; clear q_a1; refine wpQuiet_nil ?_; rintro _ ⟨⟨w1, hbn⟩, rfl⟩; (try simp only [After.w]); replace a0 := cell_keep a0 hbn; replace a1 := cell_keep a1 hbn; replace k0 := k0.keep hbn; replace k1 := k1.keep hbn; replace hb := bel_to (w := w) (by first | exact hb | exact hb.alloc hb.size _ | exact (hb.alloc hb.size _).alloc (Nat.le_trans hb.size (by simp)) _ | exact hb.setCell (by simp [hb.size]) _) hbn; clear hbn)
          go_wp2
          go_roundw
          case rel => exact ⟨k + 1, x, by go_num, by omega, hx, HF2.out, k0, k1, hb⟩
          case measure => simp [intOf]; omega
        · have hne2 : (bits BinOp.andNot IntKind.i64 x (wrap64 (2 ^ k)) != x) = true := hne
          have hne3 : (bits BinOp.andNot IntKind.i64 x (wrap64 (2 ^ k)) == x) = false := by
            have := hne2; rw [bne_iff_ne] at this; exact beq_eq_false_iff_ne.2 this
          have hDx := fun (wr : World) (hbr : Below w.heap.size w wr) (x : After wr) => hD.keep (bel_to (w := w) hbr x.bel)
          cases hh : hasc (cloF D (dif x (one k))) r
          · have e : redStep D r x k = x := by unfold redStep; rw [hne, hh]; rfl
            have hh2 : (bits BinOp.and IntKind.i64 (cloF D (bits BinOp.andNot IntKind.i64 x (wrap64 (2 ^ k))) / 2 ^ r.toNat) 1 == 1) = false := hh
            rw [e] at HF2 HST
            clear e
            go_wp2_with fail
            (refine wp_region_after (by kernel_rfl) (by kernel_rfl) ?_; have q_a0 := fun (x : After _) => cell_keep a0 x.bel; have q_a1 := fun (x : After _) => cell_keep a1 x.bel; (repeat (go_big_quiet_step (fail))); clear q_a0; clear q_a1; refine wpQuiet_nil ?_; rintro _ ⟨⟨w1, hbn⟩, rfl⟩; (try simp only [After.w]); replace a0 := cell_keep a0 hbn; replace a1 := cell_keep a1 hbn; replace k0 := k0.keep hbn; replace k1 := k1.keep hbn; replace hb := bel_to (w := w) (by first | exact hb | exact hb.alloc hb.size _ | exact (hb.alloc hb.size _).alloc (Nat.le_trans hb.size (by simp)) _ | exact hb.setCell (by simp [hb.size]) _) hbn; clear hbn)
            go_wp2_with fail
            (refine wp_region_after (by kernel_rfl) (by kernel_rfl) ?_; have q_a0 := fun (x : After _) => cell_keep a0 x.bel; have q_a1 := fun (x : After _) => cell_keep a1 x.bel; (repeat (go_big_quiet_step ((first | (go_at_call 64; exact Ans.after (c_l10Close _ _ _ _ _ (hDx _ hb _) hsy hv)))))); clear q_a0; clear q_a1; refine wpQuiet_nil ?_; rintro _ ⟨⟨w1, hbn⟩, rfl⟩; (try simp only [After.w]); replace a0 := cell_keep a0 hbn; replace a1 := cell_keep a1 hbn; replace k0 := k0.keep hbn; replace k1 := k1.keep hbn; replace hb := bel_to (w := w) (by first | exact hb | exact hb.alloc hb.size _ | exact (hb.alloc hb.size _).alloc (Nat.le_trans hb.size (by simp)) _ | exact hb.setCell (by simp [hb.size]) _) hbn; clear hbn)
            go_wp2
            go_roundw
            case rel => exact ⟨k + 1, x, by go_num, by omega, hx, HF2.out, k0, k1, hb⟩
            case measure => simp [intOf]; omega
          · have e : redStep D r x k = dif x (one k) := by unfold redStep; rw [hne, hh]; rfl
            have hh2 : (bits BinOp.and IntKind.i64 (cloF D (bits BinOp.andNot IntKind.i64 x (wrap64 (2 ^ k))) / 2 ^ r.toNat) 1 == 1) = true := hh
            rw [e] at HF2 HST
            clear e
            go_wp2_with fail
            (refine wp_region_after (by kernel_rfl) (by kernel_rfl) ?_; have q_a0 := fun (x : After _) => cell_keep a0 x.bel; have q_a1 := fun (x : After _) => cell_keep a1 x.bel; (repeat (go_big_quiet_step (fail))); clear q_a0; clear q_a1; refine wpQuiet_nil ?_; rintro _ ⟨⟨w1, hbn⟩, rfl⟩; (try simp only [After.w]); replace a0 := cell_keep a0 hbn; replace a1 := cell_keep a1 hbn; replace k0 := k0.keep hbn; replace k1 := k1.keep hbn; replace hb := bel_to (w := w) (by first | exact hb | exact hb.alloc hb.size _ | exact (hb.alloc hb.size _).alloc (Nat.le_trans hb.size (by simp)) _ | exact hb.setCell (by simp [hb.size]) _) hbn; clear hbn)
            go_wp2_with fail
            (refine wp_region_after (by kernel_rfl) (by kernel_rfl) ?_; have q_a0 := fun (x : After _) => cell_keep a0 x.bel; have q_a1 := fun (x : After _) => cell_keep a1 x.bel; (repeat (go_big_quiet_step ((first | (go_at_call 64; exact Ans.after (c_l10Close _ _ _ _ _ (hDx _ hb _) hsy hv)))))); clear q_a0; clear q_a1; refine wpQuiet_nil ?_; rintro _ ⟨⟨w1, hbn⟩, rfl⟩; (try simp only [After.w]); replace a0 := cell_keep a0 hbn; replace a1 := cell_keep a1 hbn; replace k0 := k0.keep hbn; replace k1 := k1.keep hbn; replace hb := bel_to (w := w) (by first | exact hb | exact hb.alloc hb.size _ | exact (hb.alloc hb.size _).alloc (Nat.le_trans hb.size (by simp)) _ | exact hb.setCell (by simp [hb.size]) _) hbn; clear hbn)
            have fr0 := k0.free 0
            have K0 := (show Hid _ from k0.set 0 (.int .i64 (dif x (one k))))
            have K1 := (show Hid _ from k1.far ⟨w.heap.size, 0, none⟩ (.int .i64 (dif x (one k))) (by simp))
            clear k0 k1
            go_wp2
            go_roundw
            case rel => exact ⟨k + 1, dif x (one k), by go_num, by omega, HST.out, HF2.out, K0.out, K1.out, hb.setCell (by simp) _⟩
            case measure => simp [intOf]; omega
      · have hkk : k = 5 := by omega
        have HX : Hid (x = fiveI.foldl (redStep D r) l) := by have := HF.out; rw [hkk] at this; exact this
        clear hkk
        have d0 := k1.cell 0 _ rfl
        have d1 := k1.cell 1 _ rfl
        have f0 := k1.free 0
        have f1 := k1.free 1
        have m0 := ((k1.set 0 (.int .i64 x)).set 1 (.int .i64 r))
        have g0 := m0.cell 0 _ rfl
        have g1 := m0.cell 1 _ rfl
        clear k0 k1 m0
        go_wp2
        exact bodyPost_ret (v := .agg #[.int .i64 x, .int .i64 r]) (by simp [results, Try.results29, go_sem, g0, g1]) rfl ⟨by rw [HV.out, HX.out], (hb.setCell (by simp) _).setCell (by simp) _⟩
end Go.Proofs.Ytmdkbookcgkpaaa
