/- Contracts and lemmas for FnExactDepsByTransversals, part 3 of 4. -/
import Derived.Test.YtkanbnbofoabeaaQDepsByTransversals1
import Derived.Test.YtkanbnbofoabeaaQDepsByTransversals2
import Derived.Deep.RegionHeld3
import Derived.Laws.AppendOwnNone
import Derived.Outline
namespace Go.Proofs.Ytkanbnbofoabeaa
open Go.RowKit
set_option linter.unusedVariables false
set_option maxRecDepth 100000

theorem transF_no {L : List Int} {n : Int} (h : transOk L n = false) : transF L n = [] := by unfold transF; rw [h]; rfl
set_option maxHeartbeats 800000 in
theorem c_Transversals (oa) (cap : Nat) (L : List Int) (n : Int) (w : World) (hL : IntsAt w oa L) :
    Calls Try.prog 114 #[.slice oa L.length cap, .int .i64 n] w fun en w' => ∃ v, en = .returned v ∧ OwnI w' w.heap.size v (transF L n) ∧ Below w.heap.size w w' := by
  obtain ⟨i0, hi, hz0, hz1, hz2⟩ := info_parts info_int
  have hn : L.length ≤ 1073741824 := hL.len
  have hb := (Below.refl w.heap.size w).alloc (Nat.le_refl _) (.cells #[] 3)
  have hI := OwnI.empty w w.heap.size (Nat.le_refl _)
  by_cases h0 : 0 ≤ n
  case neg =>
    have HM : Hid (transF L n = []) := transF_no (by unfold transOk; simp [h0])
    go_enter Try.func114, Try.ntmps114
    go_wp2
    go_ret
    exact ⟨_, rfl, by rw [HM.out]; exact hI, hb⟩
  by_cases h5 : n ≤ 5
  case neg =>
    have HM : Hid (transF L n = []) := transF_no (by unfold transOk; simp [h5])
    go_enter Try.func114, Try.ntmps114
    go_wp2
    go_ret
    exact ⟨_, rfl, by rw [HM.out]; exact hI, hb⟩
  by_cases h100 : L.length ≤ 100
  case neg =>
    have HM : Hid (transF L n = []) := transF_no (by unfold transOk; simp [h100])
    go_enter Try.func114, Try.ntmps114
    go_wp2
    go_ret
    exact ⟨_, rfl, by rw [HM.out]; exact hI, hb⟩
  have hp := (pow_wrap h0 h5).1
  obtain ⟨hp1, hp2, hp3⟩ := pow_nat h0 h5
  have HT : Hid (L.all (isAttr n) = true → transF L n = minF (flt (hitsF L) (2 ^ n.toNat))) := fun h => by unfold transF transOk; rw [h]; simp [h0, h5, h100]
  have HN : Hid (L.all (isAttr n) = false → transF L n = []) := fun h => transF_no (by unfold transOk; rw [h]; simp)
  generalize hQ : (2 : Nat) ^ n.toNat = N at *
  have hp4 : wrap64 (2 ^ n.toNat) = N := by rw [hp, ← hp1]
  clear hp hp1 hQ
  go_enter Try.func114, Try.ntmps114
  go_wp2
  go_loopw [24] (fun i wr => ∃ k : Nat, i = .int .i64 k ∧ k ≤ L.length ∧ (L.take k).all (isAttr n) = true ∧ OwnI wr w.heap.size (.slice (some ⟨w.heap.size, 0, none⟩) 0 0) [] ∧ Below w.heap.size w wr) (fun i _ => L.length - (intOf i).toNat)
  case atStart => exact ⟨0, rfl, Nat.zero_le _, by simp, hI, hb⟩
  case round =>
    clear hI hb
    obtain ⟨k, rfl, hk, hall, hI, hb⟩ := hrel
    have HA : Hid ((L.take k).all (isAttr n) = true) := hall
    clear hall
    by_cases hlt : k < L.length
    · obtain ⟨b, off, rfl, hbs, hc⟩ := hL.at_ (by omega)
      have hc1 := cell_keep (hc k hlt) hb
      have HS : Hid ((L.take (k + 1)).all (isAttr n) = ((L.take k).all (isAttr n) && isAttr n (nth L k))) := all_take_succ _ L k hlt
      have HF : Hid (isAttr n (nth L k) = false → L.all (isAttr n) = false) := all_false _ L k hlt
      clear hc
      generalize nth L k = x at *
      cases hst : isAttr n x
      · go_wp2_with (first | (go_at_call 81; refine Calls.mono (Ans.eqb (c_isAttributes _ _ _) hst) ?_; rintro e w1 ⟨rfl, hbn⟩; replace hI := hI.keep hbn; replace hb := bel_to (w := w) (by first | exact hb | exact hb.alloc hb.size _ | exact (hb.alloc hb.size _).alloc (Nat.le_trans hb.size (by simp)) _ | exact hb.setCell (by simp [hb.size]) _) hbn; clear hbn))
        go_ret
        exact ⟨_, rfl, by rw [HN.out (HF.out hst)]; exact hI, hb⟩
      · go_wp2_with (first | (go_at_call 81; refine Calls.mono (Ans.eqb (c_isAttributes _ _ _) hst) ?_; rintro e w1 ⟨rfl, hbn⟩; replace hI := hI.keep hbn; replace hb := bel_to (w := w) (by first | exact hb | exact hb.alloc hb.size _ | exact (hb.alloc hb.size _).alloc (Nat.le_trans hb.size (by simp)) _ | exact hb.setCell (by simp [hb.size]) _) hbn; clear hbn))
        go_roundw
        case rel => exact ⟨k + 1, by go_num, by omega, by rw [HS.out, HA.out, hst]; rfl, hI, hb⟩
        case measure => simp [intOf]; omega
    · have hkk : k = L.length := by omega
      have HM : Hid (transF L n = minF (flt (hitsF L) N)) := HT.out (by have := HA.out; rw [hkk, List.take_length] at this; exact this)
      clear hkk
      go_wp2
      go_loopw [5, 8] (fun v i wr => ∃ k : Nat, i = .int .i64 k ∧ k ≤ N ∧ OwnI wr w.heap.size v (flt (hitsF L) k) ∧ Below w.heap.size w wr) (fun _ i _ => N - (intOf i).toNat)
      case atStart => exact ⟨0, rfl, Nat.zero_le _, hI, hb⟩
      case round =>
        clear hI hb
        obtain ⟨k, rfl, hk, hI, hb⟩ := hrel
        have HS : Hid (flt (hitsF L) (k + 1) = flt (hitsF L) k ++ (if hitsF L k then [(k : Int)] else [])) := flt_succ _ k
        have hle := flt_le (hitsF L) k
        by_cases hlt : k < N
        · cases hh : hitsF L (k : Int)
          · go_wp2_with (first | (go_at_call 145; refine Calls.mono (Ans.eqb (c_hits _ _ _ _ _ (hL.keep hb)) hh) ?_; rintro e w1 ⟨rfl, hbn⟩; replace hI := hI.keep hbn; replace hb := bel_to (w := w) (by first | exact hb | exact hb.alloc hb.size _ | exact (hb.alloc hb.size _).alloc (Nat.le_trans hb.size (by simp)) _ | exact hb.setCell (by simp [hb.size]) _) hbn; clear hbn))
            go_roundw
            case rel => exact ⟨k + 1, by go_num, by omega, by rw [HS.out, hh]; simpa using hI, hb⟩
            case measure => simp [intOf]; omega
          · go_wp2_with (first | (go_at_call 145; refine Calls.mono (Ans.eqb (c_hits _ _ _ _ _ (hL.keep hb)) hh) ?_; rintro e w1 ⟨rfl, hbn⟩; replace hI := hI.keep hbn; replace hb := bel_to (w := w) (by first | exact hb | exact hb.alloc hb.size _ | exact (hb.alloc hb.size _).alloc (Nat.le_trans hb.size (by simp)) _ | exact hb.setCell (by simp [hb.size]) _) hbn; clear hbn) | (at_builtin; refine wpList_append_own _ rfl _ _ 69 rfl w.heap.size 3 i0 (.int .i64 0) 1 8 Try.underlying69 hi hz0 hz1 hz2 rfl (by decide) _ _ _ rfl (World.ownsRow.alloc hI _) _ 1 1 [.int .i64 ((k : Int))] rfl rfl (by intro j u hj; match j, hj with | 0, hj => simp at hj; subst hj; simp [Addr.add]) (by intro u hu; simp at hu; subst hu; rfl) (by unfold maxLen; omega) (by omega) (by have := hb.size; simp; omega) ?_; intro v' w1 hown hgrow _; replace hb := (hb.alloc hb.size _).grown hgrow (by have := hb.size; simp; omega) (fun g hg => (World.ownsRow.lt hI g hg).1); replace hI := OwnI.snoc hown; clear hown hgrow))
            go_roundw
            case rel => exact ⟨k + 1, by go_num, by omega, by rw [HS.out, hh]; exact hI, hb⟩
            case measure => simp [intOf]; omega
        · have hkk : k = N := by omega
          have HK : Hid (k = N) := hkk
          clear hkk
          have hfr : (flt (hitsF L) k).length ≤ Room := by have := flt_le (hitsF L) k; unfold Room; omega
          obtain ⟨oF, cF, rfl, hcF, hnF⟩ := hI.cap
          have hF := hI.ints rfl hfr
          go_wp2_with fail
          refine (c_MinimalSets _ _ _ _ hF hnF).mono ?_
          rintro e w1 ⟨v1, rfl, hR, hbn⟩
          replace hR := hR.based hb.size
          replace hb := bel_to hb hbn
          clear hbn
          go_wp2
          go_ret
          exact ⟨_, rfl, by rw [HM.out, ← HK.out]; exact hR, hb⟩
set_option maxHeartbeats 800000 in
theorem c_specTransversals (oa) (cap : Nat) (L : List Int) (n : Int) (w : World) (hL : IntsAt w oa L) :
    Calls Try.prog 112 #[.slice oa L.length cap, .int .i64 n] w fun en w' => ∃ v, en = .returned v ∧ OwnI w' w.heap.size v (transF L n) ∧ Below w.heap.size w w' := by
  have hn : L.length ≤ 1073741824 := hL.len
  have hb := (Below.refl w.heap.size w).alloc (Nat.le_refl _) (.cells #[.int .i64 0] 3)
  have hI : OwnI (w.alloc (.cells #[.int .i64 0] 3)) w.heap.size (.slice (some ⟨w.heap.size, 0, none⟩) 1 1) [0] := World.ownsRow_lit w #[.int .i64 0] 1 (Nat.le_refl _) (by decide) rfl
  cases hin : inB n 0 5
  · have HM : Hid (transF L n = []) := transF_no (by unfold transOk; unfold inB at hin; rw [hin]; simp)
    go_enter Try.func112, Try.ntmps112
    go_wp2_with (first | (go_at_call 95; refine Calls.mono (Ans.eqb (c_l1In _ _ _ _) hin) ?_; rintro e w1 ⟨rfl, hbn⟩; replace hb := bel_to (w := w) (by first | exact hb | exact hb.alloc hb.size _ | exact (hb.alloc hb.size _).alloc (Nat.le_trans hb.size (by simp)) _ | exact hb.setCell (by simp [hb.size]) _) hbn; clear hbn))
    go_ret
    exact ⟨_, rfl, by rw [HM.out]; exact (OwnI.empty _ _ (Nat.le_refl _)).based hb.size, hb.alloc hb.size _⟩
  have h05 : 0 ≤ n ∧ n ≤ 5 := by unfold inB at hin; simpa using hin
  by_cases h100 : L.length ≤ 100
  case neg =>
    have HM : Hid (transF L n = []) := transF_no (by unfold transOk; simp [h100])
    go_enter Try.func112, Try.ntmps112
    go_wp2_with (first | (go_at_call 95; refine Calls.mono (Ans.eqb (c_l1In _ _ _ _) hin) ?_; rintro e w1 ⟨rfl, hbn⟩; replace hb := bel_to (w := w) (by first | exact hb | exact hb.alloc hb.size _ | exact (hb.alloc hb.size _).alloc (Nat.le_trans hb.size (by simp)) _ | exact hb.setCell (by simp [hb.size]) _) hbn; clear hbn))
    go_ret
    exact ⟨_, rfl, by rw [HM.out]; exact (OwnI.empty _ _ (Nat.le_refl _)).based hb.size, hb.alloc hb.size _⟩
  have HT : Hid (L.all (isAttr n) = true → transF L n = L.foldl growF [0]) := fun h => transF_fold (by unfold transOk; rw [h]; simp [h05.1, h05.2, h100])
  have HN : Hid (L.all (isAttr n) = false → transF L n = []) := fun h => transF_no (by unfold transOk; rw [h]; simp)
  go_enter Try.func112, Try.ntmps112
  go_wp2_with (first | (go_at_call 95; refine Calls.mono (Ans.eqb (c_l1In _ _ _ _) hin) ?_; rintro e w1 ⟨rfl, hbn⟩; replace hI := hI.keep hbn; replace hb := bel_to (w := w) (by first | exact hb | exact hb.alloc hb.size _ | exact (hb.alloc hb.size _).alloc (Nat.le_trans hb.size (by simp)) _ | exact hb.setCell (by simp [hb.size]) _) hbn; clear hbn))
  go_loopw [5, 6] (fun v i wr => ∃ k : Nat, i = .int .i64 k ∧ k ≤ L.length ∧ (L.take k).all (isAttr n) = true ∧ OwnI wr w.heap.size v ((L.take k).foldl growF [0]) ∧ ((L.take k).foldl growF [0]).length ≤ Room ∧ Below w.heap.size w wr) (fun _ i _ => L.length - (intOf i).toNat)
  case atStart => exact ⟨0, rfl, Nat.zero_le _, by simp, hI, by simp [Room], hb⟩
  case round =>
    clear hI hb
    obtain ⟨k, rfl, hk, hall, hI, hlen, hb⟩ := hrel
    have HA : Hid ((L.take k).all (isAttr n) = true) := hall
    clear hall
    by_cases hlt : k < L.length
    · obtain ⟨b, off, rfl, hbs, hc⟩ := hL.at_ (by omega)
      have hc0 := hc k hlt
      have hc1 := cell_keep hc0 hb
      have HS : Hid ((L.take (k + 1)).all (isAttr n) = ((L.take k).all (isAttr n) && isAttr n (nth L k))) := all_take_succ _ L k hlt
      have HF : Hid (isAttr n (nth L k) = false → L.all (isAttr n) = false) := all_false _ L k hlt
      have HG : Hid ((L.take (k + 1)).foldl growF [0] = growF ((L.take k).foldl growF [0]) (nth L k)) := by
        show (L.take (k + 1)).foldl growF [0] = growF ((L.take k).foldl growF [0]) (nth L k)
        rw [List.take_add_one, nth_eq hlt, List.foldl_append]; rfl
      clear hc
      generalize nth L k = x at *
      generalize (L.take k).foldl growF [0] = F at *
      cases hst : isAttr n x
      · go_wp2_with (first | (go_at_call 76; refine Calls.mono (Ans.eqb (c_specIsAttributes _ _ _) hst) ?_; rintro e w1 ⟨rfl, hbn⟩; replace hb := bel_to (w := w) (by first | exact hb | exact hb.alloc hb.size _ | exact (hb.alloc hb.size _).alloc (Nat.le_trans hb.size (by simp)) _ | exact hb.setCell (by simp [hb.size]) _) hbn; clear hbn))
        go_ret
        exact ⟨_, rfl, by rw [HN.out (HF.out hst)]; exact (OwnI.empty _ _ (Nat.le_refl _)).based hb.size, hb.alloc hb.size _⟩
      · obtain ⟨oF, cF, rfl⟩ := hI.shape
        go_wp2_with (first | (go_at_call 76; refine Calls.mono (Ans.eqb (c_specIsAttributes _ _ _) hst) ?_; rintro e w1 ⟨rfl, hbn⟩; replace hc1 := cell_keep hc1 hbn; replace hI := hI.keep hbn; replace hb := bel_to (w := w) (by first | exact hb | exact hb.alloc hb.size _ | exact (hb.alloc hb.size _).alloc (Nat.le_trans hb.size (by simp)) _ | exact hb.setCell (by simp [hb.size]) _) hbn; clear hbn))
        refine (c_specGrowTransversals _ _ _ _ _ (hI.ints rfl hlen)).mono ?_
        rintro en w1 ⟨v1, rfl, hR, hbn⟩
        replace hR := hR.based hb.size
        replace hb := bel_to hb hbn
        clear hbn hI
        go_wp2
        go_roundw
        case rel => exact ⟨k + 1, by go_num, by omega, by rw [HS.out, HA.out, hst]; rfl, by rw [HG.out]; exact hR, by rw [HG.out]; exact growF_len _ _, hb⟩
        case measure => simp [intOf]; omega
    · have hkk : k = L.length := by omega
      have HM : Hid (transF L n = (L.take k).foldl growF [0]) := by
        have h1 := HA.out
        rw [hkk, List.take_length] at h1
        show transF L n = (L.take k).foldl growF [0]
        rw [hkk, List.take_length]
        exact HT.out h1
      clear hkk
      go_wp2
      go_ret
      exact ⟨_, rfl, by rw [HM.out]; exact hI, hb⟩
end Go.Proofs.Ytkanbnbofoabeaa
namespace Go.Proofs.Ytkanbnbofoabeaa
open Go.RowKit
set_option linter.unusedVariables false
set_option maxRecDepth 100000

def edgesF (n : Int) (L : List Int) : List Int := L.map (dif (allM n))
def keysTF (n : Int) (R : List (List Int)) (m : Int) : List Int := if isTabF n R && modeF m then transF (edgesF n (agreeSetsF n R m)) n else []
theorem keysT_len (n : Int) (R : List (List Int)) (m : Int) : (keysTF n R m).length ≤ Room := by
  unfold keysTF
  split
  · exact transF_len _ _
  · simp
theorem edges_succ {n : Int} {L : List Int} {k : Nat} (h : k < L.length) : edgesF n (L.take (k + 1)) = edgesF n (L.take k) ++ [dif (allM n) (nth L k)] := map_take_succ (f := dif (allM n)) h
theorem empty_behind {w' : World} {B j : Nat} {v : Value} (h : w'.cell? ⟨B, j, none⟩ = some v) : OwnI (w'.alloc (.cells #[] 3)) (B + 1) (.slice (some ⟨w'.heap.size, 0, none⟩) 0 0) [] := OwnI.empty _ _ (World.block_lt_of_cell? _ _ h)
end Go.Proofs.Ytkanbnbofoabeaa
namespace Go.Proofs.Ytkanbnbofoabeaa
open Go.RowKit Go.Shelf Go.Lib Go.Sort
set_option linter.unusedVariables false
set_option maxRecDepth 100000

def pcN (x : Nat) : Nat := ((List.range 5).filter fun c => x.testBit c).length
def cfN (x y : Nat) : Int := if (pcN x : Int) = pcN y then (x : Int) - y else (pcN x : Int) - pcN y
theorem pcN_le (x : Nat) : pcN x ≤ 5 := by
  have := List.length_filter_le (fun c => x.testBit c) (List.range 5)
  simpa [pcN] using this
theorem u64_small : ∀ x < 32, IntKind.u64.wrap ((x : Nat) : Int) = ((x : Nat) : Int) := by decide +kernel
theorem c_OnesCount64 (x : Nat) (hx : x < 32) (w : World) : Calls Try.prog 172 #[.int .u64 x] w fun e w' => e = .returned (.int .i64 (pcN x)) ∧ w' = w := by
  go_enter Try.func172, Try.ntmps172
  go_wp2
  go_ret
  refine ⟨ret_int ?_, rfl⟩
  clear w
  revert x
  decide +kernel
theorem c_OnesCount (x : Nat) (hx : x < 32) (w : World) : Calls Try.prog 150 #[.int .u64 x] w fun e w' => e = .returned (.int .i64 (pcN x)) ∧ w' = w := by
  go_enter Try.func150, Try.ntmps150
  go_wp2_with (first | (go_at_call 172; refine (c_OnesCount64 x hx _).mono ?_; rintro e w' ⟨rfl, rfl⟩))
  go_ret
  exact ⟨rfl, rfl⟩
theorem c_compareSets (x y : Nat) (hx : x < 32) (hy : y < 32) (w : World) : Calls Try.prog 117 #[.int .i64 x, .int .i64 y] w fun e w' => e = .returned (.int .i64 (cfN x y)) ∧ w' = w := by
  have hwx := u64_small x hx
  have hwy := u64_small y hy
  have px := pcN_le x
  have py := pcN_le y
  by_cases h : (pcN x : Int) = pcN y
  · have hc : cfN x y = (x : Int) - y := by unfold cfN; rw [if_pos h]
    have hne : ((pcN x : Int) != pcN y) = false := by simp [h]
    rw [hc]
    have HH : Hid ((pcN x : Int) = pcN y) := h
    clear h hc
    have hq : True := trivial
    go_enter Try.func117, Try.ntmps117
    go_wp2_with (first | (clear hq; go_at_call 150; refine (c_OnesCount x hx _).mono ?_; rintro e w' ⟨rfl, rfl⟩) | (go_at_call 150; refine (c_OnesCount y hy _).mono ?_; rintro e w' ⟨rfl, rfl⟩))
    go_ret
    exact ⟨rfl, rfl⟩
  · have hc : cfN x y = (pcN x : Int) - pcN y := by unfold cfN; rw [if_neg h]
    have hne : ((pcN x : Int) != pcN y) = true := by simp; omega
    rw [hc]
    clear h hc
    have hq : True := trivial
    go_enter Try.func117, Try.ntmps117
    go_wp2_with (first | (clear hq; go_at_call 150; refine (c_OnesCount x hx _).mono ?_; rintro e w' ⟨rfl, rfl⟩) | (go_at_call 150; refine (c_OnesCount y hy _).mono ?_; rintro e w' ⟨rfl, rfl⟩))
    go_ret
    exact ⟨rfl, rfl⟩

def fvS (x : Fin 32) : Value := .int .i64 (x.val : Int)
def cfS (x y : Fin 32) : Int := cfN x.val y.val
theorem ltS (x y : Fin 32) : ltOf cfS x y = decide (pcN x.val < pcN y.val ∨ (pcN x.val = pcN y.val ∧ x.val < y.val)) := by
  unfold ltOf cfS cfN
  rw [decide_eq_decide]
  split
  · next h => constructor <;> intro h' <;> omega
  · next h => constructor <;> intro h' <;> omega
theorem swoS : SWO (ltOf cfS) where
  irrefl x := by rw [ltS]; simp
  trans x y z h1 h2 := by rw [ltS] at *; simp only [decide_eq_true_eq] at *; omega
  ntrans x y z h1 h2 := by rw [ltS] at *; simp only [decide_eq_false_iff_not] at *; omega
theorem totS (x y : Fin 32) (h1 : ltOf cfS x y = false) (h2 : ltOf cfS y x = false) : x = y := by
  rw [ltS] at *
  simp only [decide_eq_false_iff_not] at *
  exact Fin.ext (by omega)
def sortS (L : List (Fin 32)) : List (Fin 32) := L.mergeSort fun x y => !(ltOf cfS) y x
def valS (L : List (Fin 32)) : List Int := L.map fun x => (x.val : Int)
theorem cmpS (blk off size : Nat) (w : World) : CmpLays1 Try.prog 117 #[] fvS cfS blk off size w :=
  fun m os dk hs x y => (c_compareSets x.val y.val x.isLt y.isLt _).mono fun e w' ⟨he, hw⟩ => ⟨he, 0, #[], by rw [hw, grow_empty]; rfl⟩
theorem putRow_fin (w : World) (g : Nat) (L : List (Fin 32)) : putRow fvS w g 0 L.toArray = putRow (Value.int .i64) w g 0 (valS L).toArray := by
  unfold putRow
  congr 1
  funext c
  unfold putCells valS
  congr 1
  funext k x
  by_cases h : k < L.length
  · rw [if_pos (by simp; omega), if_pos (by simp; omega), getElem!_pos _ _ (by simp; omega), getElem!_pos _ _ (by simp; omega)]
    simp [fvS]
  · rw [if_neg (by simp; omega), if_neg (by simp; omega)]
theorem c_SortParts (oa) (cap base : Nat) (L : List (Fin 32)) (w : World) (hL : L.length ≤ Room) (h0 : L ≠ []) (h : OwnI w base (.slice oa (valS L).length cap) (valS L)) :
    Calls Try.prog 116 #[.slice oa L.length cap, .func (.func 117) #[] #[]] w fun e w' => e = .returned (.tuple #[]) ∧ OwnI w' base (.slice oa L.length cap) (valS (sortS L)) ∧ w.grownBy w' (Value.slice oa L.length cap).ownBlock := by
  have hl : (valS L).length = L.length := by simp [valS]
  have hs : (valS (sortS L)).length = (valS L).length := by simp [valS, sortS, List.length_mergeSort]
  unfold Room at hL
  rcases h.2 with ⟨hv, hn⟩ | ⟨g, c, cur, hv, hbase, hb, h1, h2, h3, h4⟩
  · exact absurd (List.eq_nil_of_length_eq_zero (by omega)) h0
  · simp only [Value.slice.injEq] at hv
    obtain ⟨rfl, _, rfl⟩ := hv
    have hg : g < w.heap.size := (Array.getElem?_eq_some_iff.1 hb).1
    have hH : Holds fvS w g 0 L.toArray := by
      intro j hj
      have hj : j < L.length := by simpa using hj
      have hc := h.cell rfl j (by omega)
      refine ⟨?_, by rw [Nat.zero_add]; exact hc.2⟩
      rw [Nat.zero_add, hc.1, getElem!_pos _ _ (by simpa using hj)]
      simp [fvS, nth, valS, List.getD, hj]
    have eg : ∀ args w, (callFunc 117 args).run Try.prog w = .ok (.enter 117 args) w := enters_of Try.func117 (by kernel_rfl) rfl
    have hcon := Try.slices_SortFunc_total fvS (fun _ => rfl) cfS swoS 117 #[] g 0 cap L.toArray w eg (cmpS _ _ _ _) hH hg (by simp; omega) totS
    simp only [List.size_toArray] at hcon
    refine hcon.mono fun e w' ⟨he, n, os, hw⟩ => ⟨he, ?_, ?_⟩
    · have e1 : sortWorld fvS w g 0 n (L.toArray.toList.mergeSort fun x y => !(ltOf cfS) y x).toArray os = Go.Sort.grow (putRow (Value.int .i64) (Go.Sort.ahead w n) g 0 (valS (sortS L)).toArray) os := by
        unfold sortWorld
        rw [← putRow_fin]
        rfl
      rw [hw, e1]
      have := ownsRow_sortedI (n := n) (os := os) (ts := valS (sortS L)) hs hbase hb h1 h2 h3
      unfold OwnI
      rw [hs]
      rw [hl] at this ⊢
      exact this
    · have e1 : sortWorld fvS w g 0 n (L.toArray.toList.mergeSort fun x y => !(ltOf cfS) y x).toArray os = Go.Sort.grow (putRow (Value.int .i64) (Go.Sort.ahead w n) g 0 (valS (sortS L)).toArray) os := by
        unfold sortWorld
        rw [← putRow_fin]
        rfl
      rw [hw, e1]
      exact grownBy_sortedI _

def finsB (k : Nat) : List (Fin 32) := (List.range k).map fun i => Fin.ofNat 32 i
theorem flt_fin : ∀ N < 33, flt (fun _ => true) N = valS (finsB N) := by decide +kernel
def partsF (n : Int) : List Int := if 0 ≤ n ∧ n ≤ 5 then valS (sortS (finsB (2 ^ n.toNat))) else []
theorem partsF_mem {n : Int} (h0 : 0 ≤ n) (h5 : n ≤ 5) {x : Int} : x ∈ partsF n ↔ 0 ≤ x ∧ x < 2 ^ n.toNat := by
  have hp := pow_nat h0 h5
  unfold partsF
  rw [if_pos ⟨h0, h5⟩]
  have e : x ∈ valS (sortS (finsB (2 ^ n.toNat))) ↔ x ∈ valS (finsB (2 ^ n.toNat)) := by
    unfold valS sortS
    rw [List.mem_map, List.mem_map]
    constructor
    · rintro ⟨y, hy, e⟩; exact ⟨y, (List.mergeSort_perm _ _).mem_iff.1 hy, e⟩
    · rintro ⟨y, hy, e⟩; exact ⟨y, (List.mergeSort_perm _ _).mem_iff.2 hy, e⟩
  rw [e, ← flt_fin _ (by omega), flt_mem, hp.1]
  simp
theorem partsF_len (n : Int) : (partsF n).length ≤ 32 := by
  unfold partsF
  split
  · next h =>
    have hp := pow_nat h.1 h.2
    simp [valS, sortS, List.length_mergeSort, finsB]
    exact hp.2.1
  · simp
set_option maxHeartbeats 400000 in
theorem c_PartsBySize (n : Int) (w : World) :
    Calls Try.prog 110 #[.int .i64 n] w fun e w' => ∃ v, e = .returned v ∧ OwnI w' w.heap.size v (partsF n) ∧ Below w.heap.size w w' := by
  obtain ⟨i0, hi, hz0, hz1, hz2⟩ := info_parts info_int
  have hb := (Below.refl w.heap.size w).alloc (Nat.le_refl _) (.cells #[] 3)
  have hI := OwnI.empty w w.heap.size (Nat.le_refl _)
  by_cases h0 : 0 ≤ n
  case neg =>
    have HM : Hid (partsF n = []) := by show partsF n = []; unfold partsF; rw [if_neg (by omega)]
    go_enter Try.func110, Try.ntmps110
    go_wp2
    go_ret
    exact ⟨_, rfl, by rw [HM.out]; exact hI, hb⟩
  by_cases h5 : n ≤ 5
  case neg =>
    have HM : Hid (partsF n = []) := by show partsF n = []; unfold partsF; rw [if_neg (by omega)]
    go_enter Try.func110, Try.ntmps110
    go_wp2
    go_ret
    exact ⟨_, rfl, by rw [HM.out]; exact hI, hb⟩
  have HM : Hid (partsF n = valS (sortS (finsB (2 ^ n.toNat)))) := by show partsF n = _; unfold partsF; rw [if_pos ⟨h0, h5⟩]
  have hp := (pow_wrap h0 h5).1
  obtain ⟨hp1, hp2, hp3⟩ := pow_nat h0 h5
  generalize hQ : (2 : Nat) ^ n.toNat = N at *
  have hp4 : wrap64 (2 ^ n.toNat) = N := by rw [hp, ← hp1]
  clear hp hp1 hQ
  go_enter Try.func110, Try.ntmps110
  go_wp2
  go_loopw [3, 4] (fun v i wr => ∃ k : Nat, i = .int .i64 k ∧ k ≤ N ∧ OwnI wr w.heap.size v (flt (fun _ => true) k) ∧ Below w.heap.size w wr) (fun _ i _ => N - (intOf i).toNat)
  case atStart => exact ⟨0, rfl, Nat.zero_le _, hI, hb⟩
  case round =>
    clear hI hb
    obtain ⟨k, rfl, hk, hI, hb⟩ := hrel
    have HS : Hid (flt (fun _ => true) (k + 1) = flt (fun _ => true) k ++ [(k : Int)]) := by show flt (fun _ => true) (k + 1) = flt (fun _ => true) k ++ [(k : Int)]; rw [flt_succ]; simp
    have hle := flt_le (fun _ => true) k
    by_cases hlt : k < N
    · go_wp2_with (first | (at_builtin; refine wpList_append_own _ rfl _ _ 69 rfl w.heap.size 3 i0 (.int .i64 0) 1 8 Try.underlying69 hi hz0 hz1 hz2 rfl (by decide) _ _ _ rfl (World.ownsRow.alloc hI _) _ 1 1 [.int .i64 ((k : Int))] rfl rfl (by intro j u hj; match j, hj with | 0, hj => simp at hj; subst hj; simp [Addr.add]) (by intro u hu; simp at hu; subst hu; rfl) (by unfold maxLen; omega) (by omega) (by have := hb.size; simp; omega) ?_; intro v' w1 hown hgrow _; replace hb := (hb.alloc hb.size _).grown hgrow (by have := hb.size; simp; omega) (fun g hg => (World.ownsRow.lt hI g hg).1); replace hI := OwnI.snoc hown; clear hown hgrow) | fail)
      go_roundw
      case rel => exact ⟨k + 1, by go_num, by omega, by rw [HS.out]; exact hI, hb⟩
      case measure => simp [intOf]; omega
    · have hkk : k = N := by omega
      have HF : Hid (flt (fun _ => true) k = valS (finsB N)) := by show flt (fun _ => true) k = valS (finsB N); rw [hkk]; exact flt_fin N (by omega)
      rw [HF.out] at hI
      have hfl : (finsB N).length = N := by simp [finsB]
      have hne : finsB N ≠ [] := by intro e; rw [e] at hfl; simp at hfl; omega
      have hr : (finsB N).length ≤ Room := by rw [hfl]; unfold Room; omega
      have HL : Hid ((valS (finsB N)).length = (finsB N).length) := by show (valS (finsB N)).length = (finsB N).length; simp [valS]
      clear hkk hle HS HF hfl
      obtain ⟨oF, cF, e1⟩ := hI.shape
      rw [HL.out] at e1
      subst e1
      have hI' : OwnI wr w.heap.size (.slice oF (valS (finsB N)).length cF) (valS (finsB N)) := by rw [HL.out]; exact hI
      go_wp2_with fail
      refine (c_SortParts _ _ _ _ _ hr hne hI').mono ?_
      rintro e w1 ⟨rfl, hR, hg⟩
      replace hb := hb.grown hg hb.size (fun g hk => (World.ownsRow.lt hI g hk).1)
      clear hg hI hI'
      go_wp2
      go_ret
      exact ⟨_, rfl, by rw [HM.out]; exact hR, hb⟩
end Go.Proofs.Ytkanbnbofoabeaa
namespace Go.Proofs.Ytkanbnbofoabeaa
open Go.RowKit
set_option linter.unusedVariables false
set_option maxRecDepth 100000

/-- x is maximal in L -/
def maxB (L : List Int) (x : Int) : Bool := L.all fun y => (x == y) || !ins x y
def maxF (L : List Int) : List Int := if setsF L && decide (L.length ≤ 100) then flt (fun x => inB' L x && maxB L x) 32 else []
theorem maxF_sets {L : List Int} (h : setsF L = true) (hl : L.length ≤ 100) : maxF L = flt (fun x => inB' L x && maxB L x) 32 := by
  unfold maxF; rw [h]; simp [hl]
theorem maxF_filter {L : List Int} (h : setsF L = true) (hl : L.length ≤ 100) : maxF L = (distinctF L).filter (maxB L) := by
  rw [maxF_sets h hl, distinctF_flt (setsF_mem h), flt_filter]
theorem maxF_len (L : List Int) : (maxF L).length ≤ 32 := by
  unfold maxF
  split
  · exact flt_le _ _
  · simp
theorem maxF_st {L : List Int} : ∀ x ∈ maxF L, St x := by
  unfold maxF
  split
  · intro x hx; have := (flt_mem.1 hx).1; exact ⟨by omega, by omega⟩
  · intro x hx; cases hx
theorem maxB_same (L : List Int) (h : ∀ x ∈ L, St x) (x : Int) (hx : St x) : (L.all fun y => (y == x) || !(bits BinOp.and .i64 x y == x)) = maxB L x := by
  unfold maxB
  rw [Bool.eq_iff_iff, List.all_eq_true, List.all_eq_true]
  have e : ∀ y ∈ L, ((y == x) || !(bits BinOp.and .i64 x y == x)) = ((x == y) || !ins x y) := fun y hy => by
    obtain ⟨n, hn, rfl⟩ := st_nat hx; obtain ⟨m, hm, rfl⟩ := st_nat (h y hy)
    have h' : ∀ n < 32, ∀ m < 32, ((((m : Nat) : Int) == ((n : Nat) : Int)) || !(bits BinOp.and .i64 ((n : Nat) : Int) ((m : Nat) : Int) == ((n : Nat) : Int))) = ((((n : Nat) : Int) == ((m : Nat) : Int)) || !ins (n : Nat) (m : Nat)) := by decide +kernel
    exact h' n hn m hm
  exact ⟨fun H y hy => by rw [← e y hy]; exact H y hy, fun H y hy => by rw [e y hy]; exact H y hy⟩
theorem max_step {L : List Int} {k : Nat} (hk : k < L.length) (hs : St (nth L k)) :
    flt (fun y => inB' (L.take (k + 1)) y && maxB L y) 32 = (if maxB L (nth L k) then putF (flt (fun y => inB' (L.take k) y && maxB L y) 32) (nth L k) else flt (fun y => inB' (L.take k) y && maxB L y) 32) := by
  have e : ∀ y, inB' (L.take (k + 1)) y = (inB' (L.take k) y || y == nth L k) := fun y => by
    unfold inB'
    rw [List.take_add_one, nth_eq hk]
    simp [Bool.decide_or]
    rfl
  split
  · next h =>
    rw [putF_flt _ hs]
    congr 1
    funext y
    rw [e]
    cases hy : (y == nth L k)
    · simp
    · have : y = nth L k := by simpa using hy
      rw [this, h]; simp
  · next h =>
    congr 1
    funext y
    rw [e]
    cases hy : (y == nth L k)
    · simp
    · have : y = nth L k := by simpa using hy
      rw [this]
      simp only [Bool.not_eq_true] at h
      rw [h]; simp
end Go.Proofs.Ytkanbnbofoabeaa
namespace Go.Proofs.Ytkanbnbofoabeaa
open Go.RowKit
set_option linter.unusedVariables false
set_option maxRecDepth 100000

theorem and_swap {x l : Int} (hx : St x) (hl : St l) : (bits BinOp.and .i64 x l == l) = ins l x := by
  obtain ⟨n, hn, rfl⟩ := st_nat hx; obtain ⟨m, hm, rfl⟩ := st_nat hl
  have h : ∀ n < 32, ∀ m < 32, (bits BinOp.and .i64 ((n : Nat) : Int) ((m : Nat) : Int) == ((m : Nat) : Int)) = ins (m : Nat) (n : Nat) := by decide +kernel
  exact h n hn m hm
set_option maxHeartbeats 1600000 in
theorem c_l6Pair (n : Int) (oa) (cap : Nat) (R : List (List Int)) (m l r : Int) (w : World) (hR : RowsAt w oa R) (ht : isTabF n R = true) (hsl : St l) (hcr : Co r) :
    Calls Try.prog 154 #[.agg #[.int .i64 n, .slice oa R.length cap], .int .i64 m, .agg #[.int .i64 l, .int .i64 r]] w fun e w' => (∃ x y : Int, e = .returned (.tuple #[.int .i64 x, .int .i64 y]) ∧ decide (x < 0) = holdsF R m l r) ∧ Below w.heap.size w w' := by
  have hb := bel2 w (.cells #[.int .i64 n, .slice oa R.length cap] 28) (.cells #[.int .i64 l, .int .i64 r] 33)
  have a0 := two_a w #[.int .i64 n, .slice oa R.length cap] 28 #[.int .i64 l, .int .i64 r] 33 0 _ rfl
  have a1 := two_a w #[.int .i64 n, .slice oa R.length cap] 28 #[.int .i64 l, .int .i64 r] 33 1 _ rfl
  have d0 := two_b w #[.int .i64 n, .slice oa R.length cap] 28 #[.int .i64 l, .int .i64 r] 33 0 _ rfl
  have d1 := two_b w #[.int .i64 n, .slice oa R.length cap] 28 #[.int .i64 l, .int .i64 r] 33 1 _ rfl
  obtain ⟨hn1, hn5, hr40, hlen⟩ := isTab_of ht
  have hr1 := hcr.1
  have hr2 := hcr.2
  have HT : Hid (isTabF n R = true) := ht
  have HL : Hid (∀ k, k < R.length → ((row R k).length : Int) = n) := hlen
  have HH : Hid ((∀ i, i < R.length → ∀ k, k < R.length → i < k → violF R m l r i k = false) → holdsF R m l r = true) := fun h => decide_eq_true h
  have HN : Hid (∀ i k, i < k → k < R.length → violF R m l r i k = true → holdsF R m l r = false) := fun i k h1 h2 h3 => holdsF_no h1 h2 h3
  have HSL : Hid (St l ∧ Co r) := ⟨hsl, hcr⟩
  clear ht hlen hcr hsl
  go_enter Try.func154, Try.ntmps154
  go_wp2
  go_loopw [8] (fun i wr => ∃ k : Nat, i = .int .i64 k ∧ k ≤ R.length ∧ (∀ i, i < k → ∀ k, k < R.length → i < k → violF R m l r i k = false) ∧ wr.cell? ⟨w.heap.size, 0, none⟩ = some (.int .i64 n) ∧ wr.cell? ⟨w.heap.size, 1, none⟩ = some (.slice oa R.length cap) ∧ wr.cell? ⟨w.heap.size + 1, 0, none⟩ = some (.int .i64 l) ∧ wr.cell? ⟨w.heap.size + 1, 1, none⟩ = some (.int .i64 r) ∧ Below w.heap.size w wr) (fun i _ => R.length - (intOf i).toNat)
  case atStart => exact ⟨0, rfl, Nat.zero_le _, fun i hi => absurd hi (by omega), a0, a1, d0, d1, hb⟩
  case round =>
    clear a0 a1 d0 d1 hb
    obtain ⟨i, rfl, hi, hall, a0, a1, d0, d1, hb⟩ := hrel
    have HA : Hid (∀ i', i' < i → ∀ k, k < R.length → i' < k → violF R m l r i' k = false) := hall
    clear hall
    by_cases hlt : i < R.length
    · go_wp2
      go_loopw [9] (fun i' wr => ∃ k : Nat, i' = .int .i64 k ∧ i < k ∧ k ≤ R.length ∧ (∀ k', k' < k → i < k' → violF R m l r i k' = false) ∧ wr.cell? ⟨w.heap.size, 0, none⟩ = some (.int .i64 n) ∧ wr.cell? ⟨w.heap.size, 1, none⟩ = some (.slice oa R.length cap) ∧ wr.cell? ⟨w.heap.size + 1, 0, none⟩ = some (.int .i64 l) ∧ wr.cell? ⟨w.heap.size + 1, 1, none⟩ = some (.int .i64 r) ∧ Below w.heap.size w wr) (fun i _ => R.length - (intOf i).toNat)
      case atStart => exact ⟨i + 1, by go_num, by omega, by omega, fun k' h1 h2 => absurd h1 (by omega), a0, a1, d0, d1, hb⟩
      case round =>
        clear a0 a1 d0 d1 hb
        obtain ⟨k, rfl, hik, hk, hall, a0, a1, d0, d1, hb⟩ := hrel
        have HI : Hid (∀ k', k' < k → i < k' → violF R m l r i k' = false) := hall
        clear hall
        by_cases hlk : k < R.length
        · have HV : Hid (violF R m l r i k = (ins l (agreeF m (row R i) (row R k)) && !hasc (agreeF m (row R i) (row R k)) r)) := rfl
          have HS : Hid (St (agreeF m (row R i) (row R k))) := agreeF_st (by have := HL.out i hlt; omega)
          go_wp2_with fail
          refine Calls.mono (c_l4Agree n _ _ _ m i k _ (hR.keep hb) HT.out hlt hlk) ?_
          rintro e w1 ⟨rfl, hbn⟩
          replace a0 := cell_keep a0 hbn
          replace a1 := cell_keep a1 hbn
          replace d0 := cell_keep d0 hbn
          replace d1 := cell_keep d1 hbn
          replace hb := bel_to hb hbn
          clear hbn
          generalize agreeF m (row R i) (row R k) = x at *
          cases h1 : ins l x
          · have h1' : (bits BinOp.and .i64 x l == l) = false := (and_swap HS.out HSL.out.1).trans h1
            go_wp2
            go_roundw
            case rel => exact ⟨k + 1, by go_num, by omega, by omega, lt_step (p := fun k' => i < k' → violF R m l r i k' = false) HI.out (fun _ => by rw [HV.out, h1]; rfl), a0, a1, d0, d1, hb⟩
            case measure => simp [intOf]; omega
          · have h1' : (bits BinOp.and .i64 x l == l) = true := (and_swap HS.out HSL.out.1).trans h1
            cases h2 : hasc x r
            · have h2' : (bits BinOp.and .i64 (x / 2 ^ r.toNat) 1 == 0) = true := (hasn_eq HS.out HSL.out.2).trans (by rw [h2]; rfl)
              go_wp2
              go_ret2
              exact ⟨⟨_, _, rfl, by rw [HN.out i k hik hlk (by rw [HV.out, h1, h2]; rfl)]; simp⟩, hb⟩
            · have h2' : (bits BinOp.and .i64 (x / 2 ^ r.toNat) 1 == 0) = false := (hasn_eq HS.out HSL.out.2).trans (by rw [h2]; rfl)
              go_wp2
              go_roundw
              case rel => exact ⟨k + 1, by go_num, by omega, by omega, lt_step (p := fun k' => i < k' → violF R m l r i k' = false) HI.out (fun _ => by rw [HV.out, h1, h2]; rfl), a0, a1, d0, d1, hb⟩
              case measure => simp [intOf]; omega
        · have HI2 : Hid (∀ k', k' < R.length → i < k' → violF R m l r i k' = false) := fun k' h1 h2 => HI.out k' (by omega) h2
          go_wp2
          go_roundw
          case rel => exact ⟨i + 1, by go_num, by omega, lt_step (p := fun i => ∀ k, k < R.length → i < k → violF R m l r i k = false) HA.out HI2.out, a0, a1, d0, d1, hb⟩
          case measure => simp [intOf]; omega
    · have HE : Hid (holdsF R m l r = true) := HH.out fun i' h1 => HA.out i' (by omega)
      go_wp2
      go_ret2
      exact ⟨⟨_, _, rfl, by rw [HE.out]; rfl⟩, hb⟩
theorem c_l7Holds (n : Int) (oa) (cap : Nat) (R : List (List Int)) (m l r : Int) (w : World) (hR : RowsAt w oa R) (ht : isTabF n R = true) (hsl : St l) (hcr : Co r) :
    Ans Try.prog 134 #[.agg #[.int .i64 n, .slice oa R.length cap], .int .i64 m, .agg #[.int .i64 l, .int .i64 r]] w (.bool (holdsF R m l r)) := by
  unfold Ans
  have hb := bel2 w (.cells #[.int .i64 n, .slice oa R.length cap] 28) (.cells #[.int .i64 l, .int .i64 r] 33)
  have hW := c_l6Pair n oa cap R m l r _ (hR.keep hb) ht hsl hcr
  go_enter Try.func134, Try.ntmps134
  go_wp2_with fail
  refine hW.mono ?_
  rintro e w1 ⟨⟨x, y, rfl, hx⟩, hbn⟩
  replace hb := bel_to hb hbn
  clear hbn
  go_wp2
  go_ret
  exact ⟨rfl, hb⟩
end Go.Proofs.Ytkanbnbofoabeaa
namespace Go.Proofs.Ytkanbnbofoabeaa
open Go.RowKit
set_option linter.unusedVariables false
set_option maxRecDepth 100000

def bordP (R : List (List Int)) (m r x : Int) : Bool := !hasc x r && !holdsF R m x r
def bordOk (n : Int) (R : List (List Int)) (m r : Int) : Bool := (isTabF n R && modeF m) && (decide (0 ≤ r) && decide (r < n))
def bordF (n : Int) (R : List (List Int)) (m r : Int) : List Int := if bordOk n R m r then maxF (flt (bordP R m r) (2 ^ n.toNat)) else []
theorem bord_len (n : Int) (R : List (List Int)) (m r : Int) : (bordF n R m r).length ≤ Room := by
  unfold bordF
  split
  · have := maxF_len (flt (bordP R m r) (2 ^ n.toNat)); unfold Room; omega
  · simp
theorem all_same {p : Int → Bool} {L M : List Int} (h : ∀ x, x ∈ L ↔ x ∈ M) : L.all p = M.all p := by
  rw [Bool.eq_iff_iff, List.all_eq_true, List.all_eq_true]
  exact ⟨fun H x hx => H x ((h x).2 hx), fun H x hx => H x ((h x).1 hx)⟩
theorem maxF_same {L M : List Int} (h : ∀ x, x ∈ L ↔ x ∈ M) (hl : L.length ≤ 100) (hm : M.length ≤ 100) : maxF L = maxF M := by
  unfold maxF
  have e1 : setsF L = setsF M := all_same h
  have e2 : (fun x => inB' L x && maxB L x) = fun x => inB' M x && maxB M x := by
    funext x
    unfold inB' maxB
    rw [all_same h]
    congr 1
    rw [decide_eq_decide]
    exact h x
  rw [e1, e2]
  simp [hl, hm]
theorem bord_dep {n : Int} {R : List (List Int)} {m r x : Int} (h : bordOk n R m r = true) (h0 : 0 ≤ x) (hx : x < 2 ^ n.toNat) : askF n R m x r = true ∧ St x := by
  unfold bordOk at h
  simp only [Bool.and_eq_true, decide_eq_true_eq] at h
  obtain ⟨⟨ht, hm⟩, hr0, hrn⟩ := h
  obtain ⟨h1, h5, _, _⟩ := isTab_of ht
  have hp := (pow_wrap (n := n) (by omega) h5).2.1
  refine ⟨?_, ⟨h0, by omega⟩⟩
  unfold askF isDepF isAttr
  rw [ht, hm]
  simp only [Bool.and_eq_true, decide_eq_true_eq, Bool.and_self, Bool.true_and]
  exact ⟨⟨⟨h1, ⟨⟨⟨by omega, h5⟩, h0⟩, hx⟩⟩, hr0⟩, hrn⟩
theorem c_hasColumn (n : Int) (v : Value) (c : Int) (w : World) : Ans Try.prog 146 #[.agg #[.int .i64 n, v], .int .i64 c] w (.bool (decide (0 ≤ c) && decide (c < n))) := by
  unfold Ans
  have hb := (Below.refl w.heap.size w).alloc (Nat.le_refl _) (.cells #[.int .i64 n, v] 28)
  by_cases h : 0 ≤ c
  · go_enter Try.func146, Try.ntmps146
    go_wp2
    go_ret
    exact ⟨ret_bool (by simp [h]), hb⟩
  · go_enter Try.func146, Try.ntmps146
    go_wp2
    go_ret
    exact ⟨ret_bool (by rw [decide_eq_false (show ¬ (0 ≤ c) by omega)]; rfl), hb⟩

end Go.Proofs.Ytkanbnbofoabeaa
namespace Go.Proofs.Ytkanbnbofoabeaa
open Go.RowKit
set_option linter.unusedVariables false
set_option maxRecDepth 100000

def rawF (n c : Int) (M : List Int) : List Int := (M.filter fun x => !hasc x c).map fun x => dif (dif (allM n) x) (one c)
def diffF (n : Int) (R : List (List Int)) (m c : Int) : List Int := distinctF (rawF n c (agreeSetsF n R m))
theorem raw_succ {n c : Int} {M : List Int} {k : Nat} (h : k < M.length) : rawF n c (M.take (k + 1)) = rawF n c (M.take k) ++ (if hasc (nth M k) c then [] else [dif (dif (allM n) (nth M k)) (one c)]) := by
  unfold rawF
  rw [filter_take_succ _ _ _ h, List.map_append]
  cases hasc (nth M k) c <;> simp
theorem raw_len (n c : Int) (M : List Int) : (rawF n c M).length ≤ M.length := by
  unfold rawF; rw [List.length_map]; exact List.length_filter_le _ _
theorem allM_st {n : Int} (h0 : 0 ≤ n) (h5 : n ≤ 5) : St (allM n) := by
  have h := (pow_wrap h0 h5).2
  unfold allM
  exact ⟨by omega, by omega⟩
theorem raw_st {n c : Int} {M : List Int} (h0 : 0 ≤ n) (h5 : n ≤ 5) (hc : Co c) (hM : ∀ x ∈ M, St x) : ∀ y ∈ rawF n c M, St y := by
  intro y hy
  unfold rawF at hy
  obtain ⟨x, hx, rfl⟩ := List.mem_map.1 hy
  exact dif_st (dif_st (allM_st h0 h5) (hM x (List.mem_filter.1 hx).1)) (one_st hc)
theorem diff_len (n : Int) (R : List (List Int)) (m c : Int) : (diffF n R m c).length ≤ 32 := by
  unfold diffF distinctF
  have h1 := compact_le (sortI (rawF n c (agreeSetsF n R m)))
  have h2 := sortI_length (rawF n c (agreeSetsF n R m))
  have h3 := raw_len n c (agreeSetsF n R m)
  have h4 := agreeSets_len n R m
  omega
theorem all_wrap : ∀ n < 6, IntKind.i64.wrap (IntKind.i64.wrap (2 ^ ((n : Nat) : Int).toNat) - 1) = allM (n : Nat) := by decide +kernel
theorem one_wrap' : ∀ j < 5, one ((j : Nat) : Int) = IntKind.i64.wrap (2 ^ ((j : Nat) : Int).toNat) := by decide +kernel
theorem raw_val {n c x : Int} (h0 : 0 ≤ n) (h5 : n ≤ 5) (hc : Co c) : bits BinOp.andNot IntKind.i64 (bits BinOp.andNot IntKind.i64 (IntKind.i64.wrap (IntKind.i64.wrap (2 ^ n.toNat) - 1)) x) (IntKind.i64.wrap (2 ^ c.toNat)) = dif (dif (allM n) x) (one c) := by
  obtain ⟨N, rfl⟩ := Int.eq_ofNat_of_zero_le h0
  obtain ⟨j, rfl⟩ := Int.eq_ofNat_of_zero_le hc.1
  rw [all_wrap N (by omega), ← one_wrap' j (by have := hc.2; omega)]; rfl
set_option maxHeartbeats 1600000 in
theorem c_DifferenceSets (n : Int) (oa) (cap : Nat) (R : List (List Int)) (m c : Int) (w : World) (hR : RowsAt w oa R) (hcap : R.length ≤ cap) (ht : isTabF n R = true) (hc : (decide (0 ≤ c) && decide (c < n)) = true) :
    Calls Try.prog 115 #[.agg #[.int .i64 n, .slice oa R.length cap], .int .i64 m, .int .i64 c] w fun e w' => ∃ v, e = .returned v ∧ OwnI w' w.heap.size v (diffF n R m c) ∧ Below w.heap.size w w' := by
  obtain ⟨i0, hi, hz0, hz1, hz2⟩ := info_parts info_int
  have hb := bel2 w (.cells #[.int .i64 n, .slice oa R.length cap] 28) (.cells #[] 3)
  have a0 := two_a w #[.int .i64 n, .slice oa R.length cap] 28 #[] 3 0 _ rfl
  have a1 := two_a w #[.int .i64 n, .slice oa R.length cap] 28 #[] 3 1 _ rfl
  have hI : OwnI ((w.alloc (.cells #[.int .i64 n, .slice oa R.length cap] 28)).alloc (.cells #[] 3)) (w.heap.size + 1) (.slice (some ⟨w.heap.size + 1, 0, none⟩) 0 0) [] := by
    have h := (OwnI.empty (w.alloc (.cells #[.int .i64 n, .slice oa R.length cap] 28)) _ (Nat.le_refl _))
    simpa using h
  have HM : Hid (diffF n R m c = distinctF (rawF n c (agreeSetsF n R m))) := rfl
  obtain ⟨hn1, hn5, _, _⟩ := isTab_of ht
  have hc' : 0 ≤ c ∧ c < n := by simpa using hc
  have hr64 : 0 ≤ c ∧ c < 64 := ⟨hc'.1, by omega⟩
  have hp := (pow_wrap (n := n) (by omega) hn5).1
  have hp2 := (pow_wrap (n := n) (by omega) hn5).2.1
  have hp3 := (pow_wrap (n := n) (by omega) hn5).2.2
  have hgl := agreeSets_len n R m
  have HVV : Hid (∀ x, bits BinOp.andNot IntKind.i64 (bits BinOp.andNot IntKind.i64 (IntKind.i64.wrap (IntKind.i64.wrap (2 ^ n.toNat) - 1)) x) (IntKind.i64.wrap (2 ^ c.toNat)) = dif (dif (allM n) x) (one c)) := fun x => raw_val (by omega) hn5 ⟨hc'.1, by omega⟩
  go_enter Try.func115, Try.ntmps115
  go_wp2_with (first | (go_at_call 79; refine Calls.mono (Ans.eqb (c_IsTable _ _ _ _ _ (hR.keep hb)) ht) ?_; rintro e w1 ⟨rfl, hbn⟩; replace a0 := cell_keep a0 hbn; replace a1 := cell_keep a1 hbn; replace hI := hI.keep hbn; replace hb := bel_to (w := w) (by first | exact hb | exact hb.alloc hb.size _ | exact (hb.alloc hb.size _).alloc (Nat.le_trans hb.size (by simp)) _ | exact hb.setCell (by simp [hb.size]) _) hbn; clear hbn) | (go_at_call 146; refine Calls.mono (Ans.eqb (c_hasColumn _ _ _ _) hc) ?_; rintro e w1 ⟨rfl, hbn⟩; replace a0 := cell_keep a0 hbn; replace a1 := cell_keep a1 hbn; replace hI := hI.keep hbn; replace hb := bel_to (w := w) (by first | exact hb | exact hb.alloc hb.size _ | exact (hb.alloc hb.size _).alloc (Nat.le_trans hb.size (by simp)) _ | exact hb.setCell (by simp [hb.size]) _) hbn; clear hbn))
  have old := hI
  refine (c_AgreeSets n _ _ R m _ (hR.keep hb) hcap).mono ?_
  rintro e w2 ⟨v2, rfl, hM, hbn⟩
  have ap_hM := (apart_old old hM).symm
  replace hI := hI.keep hbn
  replace hM := hM.based (World.block_lt_of_cell? _ _ a1)
  replace a0 := cell_keep a0 hbn
  replace a1 := cell_keep a1 hbn
  replace hb := bel_to hb hbn
  clear old hbn
  generalize agreeSetsF n R m = M at *
  obtain ⟨o1, c1, rfl⟩ := hM.shape
  go_wp2
  go_loopw [7, 25] (fun v i wr => ∃ k : Nat, i = .int .i64 k ∧ k ≤ M.length ∧ OwnI wr (w.heap.size + 1) v (rawF n c (M.take k)) ∧ OwnI wr (w.heap.size + 1) (.slice o1 M.length c1) M ∧ Apart (.slice o1 M.length c1) v ∧ wr.cell? ⟨w.heap.size, 0, none⟩ = some (.int .i64 n) ∧ wr.cell? ⟨w.heap.size, 1, none⟩ = some (.slice oa R.length cap) ∧ Below w.heap.size w wr) (fun _ i _ => M.length - (intOf i).toNat)
  case atStart => exact ⟨0, rfl, Nat.zero_le _, by simpa [rawF] using hI, hM, ap_hM, a0, a1, hb⟩
  case round =>
    clear hI hM ap_hM a0 a1 hb
    obtain ⟨k, rfl, hk, hI, hM, ap_hM, a0, a1, hb⟩ := hrel
    by_cases hlt : k < M.length
    · obtain ⟨b2, off2, rfl, hbs2, hca⟩ := (hM.ints rfl (by unfold Room; omega)).at_ (by omega)
      have hc2 := hca k hlt
      have HT : Hid (rawF n c (M.take (k + 1)) = rawF n c (M.take k) ++ (if hasc (nth M k) c then [] else [dif (dif (allM n) (nth M k)) (one c)])) := raw_succ hlt
      have hfl : (rawF n c (M.take k)).length ≤ 32 := by
        have := raw_len n c (M.take k)
        rw [List.length_take] at this
        omega
      clear hca
      generalize nth M k = x at *
      generalize rawF n c (M.take k) = F at *
      cases h1 : hasc x c
      · go_wp2_with (first | (go_at_call 118; refine Calls.mono (Ans.eqb (c_has _ _ hr64 _) h1) ?_; rintro e w1 ⟨rfl, hbn⟩; replace a0 := cell_keep a0 hbn; replace a1 := cell_keep a1 hbn; replace hc2 := cell_keep hc2 hbn; replace hI := hI.keep hbn; replace hM := hM.keep hbn; replace hb := bel_to (w := w) (by first | exact hb | exact hb.alloc hb.size _ | exact (hb.alloc hb.size _).alloc (Nat.le_trans hb.size (by simp)) _ | exact hb.setCell (by simp [hb.size]) _) hbn; clear hbn) | fail)
        go_region_held3 (fun w' => Below w.heap.size w w' ∧ OwnI w' (w.heap.size + 1) u7 F ∧ OwnI w' (w.heap.size + 1) (.slice (some ⟨b2, off2, none⟩) M.length c1) M ∧ w'.cell? ⟨w.heap.size, 0, none⟩ = some (.int .i64 n) ∧ w'.cell? ⟨w.heap.size, 1, none⟩ = some (.slice oa R.length cap))
          (first
            | exact hS2
            | (rename_i hS _ _; exact ⟨hS.1.alloc hS.1.size _, World.ownsRow.alloc hS.2.1 _, World.ownsRow.alloc hS.2.2.1 _, cell_al hS.2.2.2.1 _, cell_al hS.2.2.2.2 _⟩)
            | exact ⟨hb.drew, hI.keep (Below.refl _ _).drew, hM.keep (Below.refl _ _).drew, cell_keep a0 (Below.refl _ _).drew, cell_keep a1 (Below.refl _ _).drew⟩)
          (first
            | (rename_i hS _ _; refine step_append_held _ (by rfl) _ _ 69 (by rfl) (w.heap.size + 1) 3 i0 (.int .i64 0) 1 8 Try.underlying69 hi hz0 hz1 hz2 rfl (by decide) u7 _ _ (by rfl) hS.2.1 _ 1 1 [.int .i64 (dif (dif (allM n) x) (one c))] (by rfl) rfl (by intro j u hj; match j, hj with | 0, hj => simp at hj; subst hj; simp [Addr.add, HVV.out]) (by intro u hu; simp at hu; subst hu; rfl) (by unfold maxLen; omega) (by omega) (World.block_lt_of_cell? _ _ hS.2.2.2.1) ?_; intro v2 w2 hown hold hgrow hfr; have hS2 := (show _ ∧ _ ∧ _ ∧ _ ∧ _ from ⟨hS.1.grown hgrow hS.1.size (fun g hg => Nat.le_trans (Nat.le_succ _) (World.ownsRow.lt hS.2.1 g hg).1), hold, OwnI.far hS.2.2.1 hgrow ap_hM, cell_gr hS.2.2.2.1 hS.2.1 (by omega) hgrow, cell_gr hS.2.2.2.2 hS.2.1 (by omega) hgrow⟩); have hO := OwnI.snoc hown; have ap_v := Apart.next hS.2.2.1 ap_hM hfr; clear hown hold hgrow hfr)
            | fail)
        rename_i hS
        replace hb := hS.1
        replace hM := hS.2.2.1
        replace a0 := hS.2.2.2.1
        replace a1 := hS.2.2.2.2
        have HI := (show Hid _ from hO)
        clear hO hS hc2
        go_wp2
        go_roundw
        case rel => exact ⟨k + 1, by go_num, by omega, by rw [HT.out, h1]; exact HI.out, hM, ap_v, a0, a1, hb⟩
        case measure => simp [intOf]; omega
      · go_wp2_with (first | (go_at_call 118; refine Calls.mono (Ans.eqb (c_has _ _ hr64 _) h1) ?_; rintro e w1 ⟨rfl, hbn⟩; replace a0 := cell_keep a0 hbn; replace a1 := cell_keep a1 hbn; replace hI := hI.keep hbn; replace hM := hM.keep hbn; replace hb := bel_to (w := w) (by first | exact hb | exact hb.alloc hb.size _ | exact (hb.alloc hb.size _).alloc (Nat.le_trans hb.size (by simp)) _ | exact hb.setCell (by simp [hb.size]) _) hbn; clear hbn) | fail)
        go_roundw
        case rel => exact ⟨k + 1, by go_num, by omega, by rw [HT.out, h1]; simpa using hI, hM, ap_hM, a0, a1, hb⟩
        case measure => simp [intOf]; omega
    · have hkk : k = M.length := by omega
      have HE : Hid (rawF n c (M.take k) = rawF n c M) := by show rawF n c (M.take k) = rawF n c M; rw [hkk, List.take_length]
      have hfr : (rawF n c (M.take k)).length ≤ Room := by
        have := raw_len n c (M.take k)
        rw [List.length_take] at this
        unfold Room; omega
      clear hkk
      obtain ⟨oF, cF, rfl, hcF, hnF⟩ := hI.cap
      go_wp2_with fail
      refine (c_distinct _ _ _ _ (hI.ints rfl hfr) hnF).mono ?_
      rintro e w3 ⟨v3, rfl, hR2, hbn⟩
      replace hR2 := hR2.based hb.size
      replace hb := bel_to hb hbn
      clear hbn
      go_wp2
      go_ret
      exact ⟨_, rfl, by rw [HM.out, ← HE.out]; exact hR2, hb⟩
end Go.Proofs.Ytkanbnbofoabeaa
namespace Go.Proofs.Ytkanbnbofoabeaa
open Go.RowKit
set_option linter.unusedVariables false
set_option maxRecDepth 100000

theorem raw_step {n c : Int} {M : List Int} {k : Nat} (h : k < M.length) (hs : St (dif (dif (allM n) (nth M k)) (one c))) :
    flt (inB' (rawF n c (M.take (k + 1)))) 32 = (if hasc (nth M k) c then flt (inB' (rawF n c (M.take k))) 32 else putF (flt (inB' (rawF n c (M.take k))) 32) (dif (dif (allM n) (nth M k)) (one c))) := by
  rw [raw_succ h]
  cases hasc (nth M k) c
  · simp only [Bool.false_eq_true, if_false]
    rw [putF_flt _ hs]
    congr 1
    funext y
    unfold inB'
    simp [Bool.decide_or]
    rfl
  · simp
theorem raw_val2 {n c x : Int} (hc : Co c) : bits BinOp.andNot IntKind.i64 (bits BinOp.andNot IntKind.i64 (allM n) x) (IntKind.i64.wrap (2 ^ c.toNat)) = dif (dif (allM n) x) (one c) := by
  obtain ⟨j, rfl⟩ := Int.eq_ofNat_of_zero_le hc.1
  rw [← one_wrap' j (by have := hc.2; omega)]; rfl
set_option maxHeartbeats 1600000 in
theorem c_specDifferenceSets (n : Int) (oa) (cap : Nat) (R : List (List Int)) (m c : Int) (w : World) (hR : RowsAt w oa R) (ht : isTabF n R = true) (hc : 0 ≤ c ∧ c < n) :
    Calls Try.prog 113 #[.agg #[.int .i64 n, .slice oa R.length cap], .int .i64 m, .int .i64 c] w fun e w' => ∃ v, e = .returned v ∧ OwnI w' w.heap.size v (diffF n R m c) ∧ Below w.heap.size w w' := by
  obtain ⟨i0, hi, hz0, hz1, hz2⟩ := info_parts info_int
  have hb := bel2 w (.cells #[.int .i64 n, .slice oa R.length cap] 28) (.cells #[] 3)
  have a0 := two_a w #[.int .i64 n, .slice oa R.length cap] 28 #[] 3 0 _ rfl
  have a1 := two_a w #[.int .i64 n, .slice oa R.length cap] 28 #[] 3 1 _ rfl
  have hI : OwnI ((w.alloc (.cells #[.int .i64 n, .slice oa R.length cap] 28)).alloc (.cells #[] 3)) (w.heap.size + 1) (.slice (some ⟨w.heap.size + 1, 0, none⟩) 0 0) [] := by
    have h := (OwnI.empty (w.alloc (.cells #[.int .i64 n, .slice oa R.length cap] 28)) _ (Nat.le_refl _))
    simpa using h
  obtain ⟨hn1, hn5, _, _⟩ := isTab_of ht
  have hco : Hid (Co c) := ⟨hc.1, by omega⟩
  have hn05 : 0 ≤ n ∧ n ≤ 5 := ⟨by omega, hn5⟩
  have hin : inB c 0 (n - 1) = true := by unfold inB; rw [decide_eq_true hc.1, decide_eq_true (show c ≤ n - 1 by omega)]; rfl
  have HAS : Hid (∀ x ∈ agreeSetsF n R m, St x) := agreeSets_st
  have HM : Hid (diffF n R m c = flt (inB' (rawF n c (agreeSetsF n R m))) 32) := distinctF_flt (raw_st (by omega) hn5 hco.out HAS.out)
  have hgl := agreeSets_len n R m
  clear ht
  go_enter Try.func113, Try.ntmps113
  go_wp2_with fail
  refine (c_specAgreeSets n _ _ R m _ (hR.keep hb)).mono ?_
  rintro e w2 ⟨v2, rfl, hM, hbn⟩
  replace hI := hI.keep hbn
  replace hM := hM.based (World.block_lt_of_cell? _ _ a1)
  replace a0 := cell_keep a0 hbn
  replace a1 := cell_keep a1 hbn
  replace hb := bel_to hb hbn
  clear hbn
  generalize agreeSetsF n R m = M at *
  obtain ⟨o1, c1, rfl⟩ := hM.shape
  go_wp2
  go_loopw [7, 9] (fun v i wr => ∃ k : Nat, i = .int .i64 k ∧ k ≤ M.length ∧ OwnI wr (w.heap.size + 1) v (flt (inB' (rawF n c (M.take k))) 32) ∧ OwnI wr (w.heap.size + 1) (.slice o1 M.length c1) M ∧ wr.cell? ⟨w.heap.size, 0, none⟩ = some (.int .i64 n) ∧ wr.cell? ⟨w.heap.size, 1, none⟩ = some (.slice oa R.length cap) ∧ Below w.heap.size w wr) (fun _ i _ => M.length - (intOf i).toNat)
  case atStart =>
    have e : flt (inB' (rawF n c (M.take 0))) 32 = [] := by unfold flt inB' rawF; simp
    exact ⟨0, rfl, Nat.zero_le _, by rw [e]; exact hI, hM, a0, a1, hb⟩
  case round =>
    clear hI hM a0 a1 hb
    obtain ⟨k, rfl, hk, hI, hM, a0, a1, hb⟩ := hrel
    by_cases hlt : k < M.length
    · obtain ⟨b2, off2, rfl, hbs2, hca⟩ := (hM.ints rfl (by unfold Room; omega)).at_ (by omega)
      have hc2 := hca k hlt
      have hst : Hid (St (nth M k)) := HAS.out _ (List.mem_iff_getElem?.2 ⟨k, nth_eq hlt⟩)
      have HT := (show Hid _ from raw_step (n := n) (c := c) hlt (dif_st (dif_st (allM_st hn05.1 hn05.2) hst.out) (one_st hco.out)))
      have hfl : (flt (inB' (rawF n c (M.take k))) 32).length ≤ 32 := flt_le _ _
      clear hca
      generalize nth M k = x at *
      generalize flt (inB' (rawF n c (M.take k))) 32 = F at *
      cases h1 : hasc x c
      · have h1' : (bits BinOp.and .i64 (x / 2 ^ c.toNat) 1 == 0) = true := (hasn_eq hst.out hco.out).trans (by rw [h1]; rfl)
        obtain ⟨oF, cF, rfl⟩ := hI.shape
        go_wp2_with (first | (go_at_call 95; refine Calls.mono (Ans.eqb (c_l1In _ _ _ _) hin) ?_; rintro e w1 ⟨rfl, hbn⟩; replace a0 := cell_keep a0 hbn; replace a1 := cell_keep a1 hbn; replace hc2 := cell_keep hc2 hbn; replace hI := hI.keep hbn; replace hM := hM.keep hbn; replace hb := bel_to (w := w) (by first | exact hb | exact hb.alloc hb.size _ | exact (hb.alloc hb.size _).alloc (Nat.le_trans hb.size (by simp)) _ | exact hb.setCell (by simp [hb.size]) _) hbn; clear hbn) | fail)
        go_region_held3 (fun w' => Below w.heap.size w w' ∧ OwnI w' (w.heap.size + 1) (.slice oF F.length cF) F ∧ OwnI w' (w.heap.size + 1) (.slice (some ⟨b2, off2, none⟩) M.length c1) M ∧ w'.cell? ⟨w.heap.size, 0, none⟩ = some (.int .i64 n) ∧ w'.cell? ⟨w.heap.size, 1, none⟩ = some (.slice oa R.length cap) ∧ w'.cell? ⟨b2, off2 + k, none⟩ = some (.int .i64 x))
          (first
            | (rename_i hS _ _; exact ⟨bel_to hS.1 hbn, hS.2.1.keep hbn, hS.2.2.1.keep hbn, cell_keep hS.2.2.2.1 hbn, cell_keep hS.2.2.2.2.1 hbn, cell_keep hS.2.2.2.2.2 hbn⟩)
            | exact ⟨hb.drew, hI.keep (Below.refl _ _).drew, hM.keep (Below.refl _ _).drew, cell_keep a0 (Below.refl _ _).drew, cell_keep a1 (Below.refl _ _).drew, cell_keep hc2 (Below.refl _ _).drew⟩)
          (first
            | (go_at_call 88; rename_i hS _ _; refine Calls.mono (c_l2All _ hn05 _) ?_; rintro e wz ⟨rfl, hbn⟩)
            | (go_at_call 139; rename_i hS _ _; refine (c_l4Put _ _ _ _ _ _ (by omega) hS.2.1 (World.block_lt_of_cell? _ _ hS.2.2.2.1)).mono ?_; rintro e wz ⟨v1, rfl, hO1, hbn⟩)
            | fail)
        rename_i hS
        replace hb := hS.1
        replace hM := hS.2.2.1
        replace a0 := hS.2.2.2.1
        replace a1 := hS.2.2.2.2.1
        have HI := (show Hid _ from hO1)
        clear hO1 hS hc2 hI
        go_wp2
        go_roundw
        case rel => exact ⟨k + 1, by go_num, by omega, by rw [HT.out, h1]; have := HI.out; rw [raw_val2 hco.out] at this; exact this, hM, a0, a1, hb⟩
        case measure => simp [intOf]; omega
      · have h1' : (bits BinOp.and .i64 (x / 2 ^ c.toNat) 1 == 0) = false := (hasn_eq hst.out hco.out).trans (by rw [h1]; rfl)
        go_wp2_with (first | (go_at_call 95; refine Calls.mono (Ans.eqb (c_l1In _ _ _ _) hin) ?_; rintro e w1 ⟨rfl, hbn⟩; replace a0 := cell_keep a0 hbn; replace a1 := cell_keep a1 hbn; replace hc2 := cell_keep hc2 hbn; replace hI := hI.keep hbn; replace hM := hM.keep hbn; replace hb := bel_to (w := w) (by first | exact hb | exact hb.alloc hb.size _ | exact (hb.alloc hb.size _).alloc (Nat.le_trans hb.size (by simp)) _ | exact hb.setCell (by simp [hb.size]) _) hbn; clear hbn) | fail)
        go_roundw
        case rel => exact ⟨k + 1, by go_num, by omega, by rw [HT.out, h1]; exact hI, hM, a0, a1, hb⟩
        case measure => simp [intOf]; omega
    · have hkk : k = M.length := by omega
      have HE : Hid (flt (inB' (rawF n c (M.take k))) 32 = flt (inB' (rawF n c M)) 32) := by show flt (inB' (rawF n c (M.take k))) 32 = _; rw [hkk, List.take_length]
      clear hkk
      go_wp2
      go_ret
      exact ⟨_, rfl, by rw [HM.out, ← HE.out]; exact hI.based (Nat.le_succ _), hb⟩
end Go.Proofs.Ytkanbnbofoabeaa
namespace Go.Proofs.Ytkanbnbofoabeaa
open Go.RowKit Go.Shelf Go.Lib Go.Sort
set_option linter.unusedVariables false
set_option maxRecDepth 100000

theorem c_specMembers (x : Int) (w : World) :
    Calls Try.prog 156 #[.int .i64 x] w fun e w' => ∃ v, e = .returned v ∧ OwnI w' w.heap.size v (membersF x) ∧ Below w.heap.size w w' := by
  obtain ⟨i0, hi, hz0, hz1, hz2⟩ := info_parts info_int
  cases hst : stB x
  · have HM : Hid (membersF x = []) := by unfold membersF; rw [hst]; rfl
    go_enter Try.func156, Try.ntmps156
    go_wp2
    go_loopw [3, 4] (fun v i wr => i = .int .i64 0 ∧ OwnI wr w.heap.size v [] ∧ Below w.heap.size w wr) (fun _ _ _ => 0)
    case atStart => exact ⟨rfl, OwnI.empty _ _ (Nat.le_refl _), (Below.refl _ _).alloc (Nat.le_refl _) _⟩
    case round =>
      obtain ⟨rfl, hI, hb⟩ := hrel
      go_wp2_with (first | (go_at_call 157; refine Calls.mono (Ans.eqb (c_l2Valid _ _) hst) ?_; rintro e w1 ⟨rfl, hbn⟩; replace hI := hI.keep hbn; replace hb := bel_to (w := w) (by first | exact hb | exact hb.alloc hb.size _ | exact (hb.alloc hb.size _).alloc (Nat.le_trans hb.size (by simp)) _ | exact hb.setCell (by simp [hb.size]) _) hbn; clear hbn))
      go_ret
      exact ⟨_, rfl, by rw [HM.out]; exact hI, hb⟩
  · have HM : Hid (membersF x = membersUpTo x 5) := by unfold membersF; rw [hst]; rfl
    have hsx : St x := by simpa [stB] using hst
    go_enter Try.func156, Try.ntmps156
    go_wp2
    go_loopw [3, 4] (fun v i wr => ∃ k : Nat, i = .int .i64 k ∧ k ≤ 5 ∧ OwnI wr w.heap.size v (membersUpTo x k) ∧ Below w.heap.size w wr) (fun _ i _ => 5 - (intOf i).toNat)
    case atStart => exact ⟨0, rfl, Nat.zero_le _, OwnI.empty _ _ (Nat.le_refl _), (Below.refl _ _).alloc (Nat.le_refl _) _⟩
    case round =>
      obtain ⟨k, rfl, hk, hI, hb⟩ := hrel
      have HS := membersUpTo_succ x k
      have hle := membersUpTo_le x k
      have HS2 : Hid (membersUpTo x (k + 1) = membersUpTo x k ++ (if hasc x k then [(k : Int)] else [])) := HS
      clear HS
      by_cases hlt : k < 5
      · have hk64 : 0 ≤ (k : Int) ∧ (k : Int) < 64 := by omega
        cases hh : hasc x k
        · have hk2 : (bits BinOp.and IntKind.i64 (x / 2 ^ k) 1 == 1) = false := hh
          go_wp2_with (first | (go_at_call 157; refine Calls.mono (Ans.eqb (c_l2Valid _ _) hst) ?_; rintro e w1 ⟨rfl, hbn⟩; replace hI := hI.keep hbn; replace hb := bel_to (w := w) (by first | exact hb | exact hb.alloc hb.size _ | exact (hb.alloc hb.size _).alloc (Nat.le_trans hb.size (by simp)) _ | exact hb.setCell (by simp [hb.size]) _) hbn; clear hbn))
          go_roundw
          case rel => exact ⟨k + 1, by go_num, by omega, by rw [HS2.out, hh]; simpa using hI, hb⟩
          case measure => simp [intOf]; omega
        · have hk2 : (bits BinOp.and IntKind.i64 (x / 2 ^ k) 1 == 1) = true := hh
          go_wp2_with (first | (go_at_call 157; refine Calls.mono (Ans.eqb (c_l2Valid _ _) hst) ?_; rintro e w1 ⟨rfl, hbn⟩; replace hI := hI.keep hbn; replace hb := bel_to (w := w) (by first | exact hb | exact hb.alloc hb.size _ | exact (hb.alloc hb.size _).alloc (Nat.le_trans hb.size (by simp)) _ | exact hb.setCell (by simp [hb.size]) _) hbn; clear hbn) | (at_builtin; refine wpList_append_own _ rfl _ _ 69 rfl w.heap.size 3 i0 (.int .i64 0) 1 8 Try.underlying69 hi hz0 hz1 hz2 rfl (by decide) _ _ _ rfl (World.ownsRow.alloc hI _) _ 1 1 [.int .i64 ((k : Int))] rfl rfl (by intro j u hj; match j, hj with | 0, hj => simp at hj; subst hj; simp [Addr.add]) (by intro u hu; simp at hu; subst hu; rfl) (by unfold maxLen; omega) (by omega) (by have := hb.size; simp; omega) ?_; intro v' w1 hown hgrow _; replace hb := (hb.alloc hb.size _).grown hgrow (by have := hb.size; simp; omega) (fun g hg => (World.ownsRow.lt hI g hg).1); replace hI := OwnI.snoc hown; clear hown hgrow))
          go_roundw
          case rel => exact ⟨k + 1, by go_num, by omega, by rw [HS2.out, hh]; exact hI, hb⟩
          case measure => simp [intOf]; omega
      · have hkk : k = 5 := by omega
        have HK : Hid (k = 5) := hkk
        clear hkk
        go_wp2_with (first | (go_at_call 157; refine Calls.mono (Ans.eqb (c_l2Valid _ _) hst) ?_; rintro e w1 ⟨rfl, hbn⟩; replace hI := hI.keep hbn; replace hb := bel_to (w := w) (by first | exact hb | exact hb.alloc hb.size _ | exact (hb.alloc hb.size _).alloc (Nat.le_trans hb.size (by simp)) _ | exact hb.setCell (by simp [hb.size]) _) hbn; clear hbn))
        go_ret
        exact ⟨_, rfl, by rw [HM.out, ← HK.out]; exact hI, hb⟩

theorem c_specCountMembers (x : Int) (w : World) : Ans Try.prog 137 #[.int .i64 x] w (.int .i64 (membersF x).length) := by
  unfold Ans
  have hl := members_len x
  go_enter Try.func137, Try.ntmps137
  go_wp2_with fail
  refine (c_specMembers x _).mono ?_
  rintro e w1 ⟨v1, rfl, hM, hb⟩
  generalize hMM : membersF x = M at *
  have HMM : Hid (membersF x = M) := hMM
  clear hMM
  obtain ⟨o1, c1, rfl⟩ := hM.shape
  go_wp2
  go_ret
  exact ⟨ret_int (by rw [HMM.out]), hb⟩
def szP (s : Nat) (x : Int) : Bool := ((membersF x).length : Int) == s
def bySize (n s : Nat) : List Int := (List.range s).flatMap fun t => flt (szP t) (2 ^ n)
theorem bySize_succ (n s : Nat) : bySize n (s + 1) = bySize n s ++ flt (szP s) (2 ^ n) := by unfold bySize; rw [List.range_succ, List.flatMap_append]; simp
theorem bySize_len (n s : Nat) (hn : n ≤ 5) : (bySize n s).length ≤ 32 * s := by
  induction s with
  | zero => simp [bySize]
  | succ s ih =>
    rw [bySize_succ, List.length_append]
    have := flt_le (szP s) (2 ^ n)
    have h : ∀ n < 6, 2 ^ n ≤ 32 := by decide
    have := h n (by omega)
    omega
def keyS (x : Fin 32) : Int := (pcN x.val : Int) * 32 + (x.val : Int)
theorem keyS_lt (x y : Fin 32) : ltOf cfS x y = decide (keyS x < keyS y) := by
  rw [ltS, decide_eq_decide]
  have h1 := x.isLt
  have h2 := y.isLt
  unfold keyS
  constructor <;> intro h <;> omega
theorem keyS_inj {x y : Fin 32} (h : keyS x = keyS y) : x = y := by
  have h1 := x.isLt
  have h2 := y.isLt
  unfold keyS at h
  exact Fin.ext (by omega)
theorem sortS_up {L : List (Fin 32)} (hd : L.Nodup) : Up ((sortS L).map keyS) := by
  unfold Up
  rw [List.pairwise_map]
  have h1 := List.pairwise_mergeSort (le := fun (x y : Fin 32) => !(ltOf cfS) y x) (fun a b c h1 h2 => by
    simp only [keyS_lt, Bool.not_eq_true', decide_eq_false_iff_not] at *; omega) (fun a b => by
    simp only [keyS_lt, Bool.or_eq_true, Bool.not_eq_true', decide_eq_false_iff_not]; omega) L
  have h2 : (sortS L).Nodup := (List.mergeSort_perm L _).nodup_iff.2 hd
  have h3 := h1.and h2
  refine h3.imp ?_
  rintro a b ⟨h, hne⟩
  simp only [keyS_lt, Bool.not_eq_true', decide_eq_false_iff_not] at h
  have : keyS a ≠ keyS b := fun e => hne (keyS_inj e)
  omega
def byF (n : Nat) : List (Fin 32) := (List.range (n + 1)).flatMap fun s => (finsB (2 ^ n)).filter fun x => pcN x.val == s
theorem byF_up : ∀ n < 6, Up ((byF n).map keyS) := by unfold Up; decide +kernel
theorem byF_mem : ∀ n < 6, ∀ x : Fin 32, x ∈ byF n ↔ x ∈ finsB (2 ^ n) := by decide +kernel
theorem byF_val : ∀ n < 6, valS (byF n) = bySize n (n + 1) := by decide +kernel
theorem finsB_nodup : ∀ n < 6, (finsB (2 ^ n)).Nodup := by decide +kernel
theorem map_inj : ∀ {A B : List (Fin 32)}, A.map keyS = B.map keyS → A = B
  | [], [], _ => rfl
  | [], b :: B, h => by simp at h
  | a :: A, [], h => by simp at h
  | a :: A, b :: B, h => by
    simp only [List.map_cons, List.cons.injEq] at h
    rw [keyS_inj h.1, map_inj h.2]
theorem parts_bySize (n : Nat) (hn : n ≤ 5) : partsF n = bySize n (n + 1) := by
  unfold partsF
  rw [if_pos ⟨by omega, by omega⟩, Int.toNat_natCast, ← byF_val n (by omega)]
  congr 1
  refine map_inj (up_ext (sortS_up (finsB_nodup n (by omega))) (byF_up n (by omega)) fun z => ?_)
  rw [List.mem_map, List.mem_map]
  constructor
  · rintro ⟨x, hx, e⟩; exact ⟨x, (byF_mem n (by omega) x).2 ((List.mergeSort_perm _ _).mem_iff.1 hx), e⟩
  · rintro ⟨x, hx, e⟩; exact ⟨x, (List.mergeSort_perm _ _).mem_iff.2 ((byF_mem n (by omega) x).1 hx), e⟩
set_option maxHeartbeats 800000 in
theorem c_specPartsBySize (n : Int) (w : World) :
    Calls Try.prog 102 #[.int .i64 n] w fun e w' => ∃ v, e = .returned v ∧ OwnI w' w.heap.size v (partsF n) ∧ Below w.heap.size w w' := by
  obtain ⟨i0, hi, hz0, hz1, hz2⟩ := info_parts info_int
  have hb := (Below.refl w.heap.size w).alloc (Nat.le_refl _) (.cells #[] 3)
  have hI := OwnI.empty w w.heap.size (Nat.le_refl _)
  by_cases hok : 0 ≤ n ∧ n ≤ 5
  case neg =>
    have HM : Hid (partsF n = []) := by show partsF n = []; unfold partsF; rw [if_neg hok]
    have hin : inB n 0 5 = false := by simp [inB]; omega
    go_enter Try.func102, Try.ntmps102
    go_wp2
    go_loopw [3, 4] (fun v i wr => i = .int .i64 0 ∧ OwnI wr w.heap.size v [] ∧ Below w.heap.size w wr) (fun _ _ _ => 0)
    case atStart => exact ⟨rfl, hI, hb⟩
    case round =>
      clear hI hb
      obtain ⟨rfl, hI, hb⟩ := hrel
      by_cases h0 : 0 ≤ n
      · go_wp2_with (first | (go_at_call 95; refine Calls.mono (Ans.eqb (c_l1In _ _ _ _) hin) ?_; rintro e w1 ⟨rfl, hbn⟩; replace hI := hI.keep hbn; replace hb := bel_to (w := w) (by first | exact hb | exact hb.alloc hb.size _ | exact (hb.alloc hb.size _).alloc (Nat.le_trans hb.size (by simp)) _ | exact hb.setCell (by simp [hb.size]) _) hbn; clear hbn))
        go_ret
        exact ⟨_, rfl, by rw [HM.out]; exact hI, hb⟩
      · go_wp2
        go_ret
        exact ⟨_, rfl, by rw [HM.out]; exact hI, hb⟩
  obtain ⟨N, rfl⟩ := Int.eq_ofNat_of_zero_le hok.1
  have hN5 : N ≤ 5 := by omega
  have HM : Hid (partsF N = bySize N (N + 1)) := parts_bySize N hN5
  have hin : inB N 0 5 = true := by simp [inB]; omega
  have hn01 : 0 ≤ (N : Int) ∧ (N : Int) ≤ 5 := by omega
  have hp32 : 2 ^ N ≤ 32 := by
    have h : ∀ n < 6, 2 ^ n ≤ 32 := by decide
    exact h N (by omega)
  have hAll : allM (N : Int) = ((2 ^ N : Nat) : Int) - 1 := by unfold allM; rw [Int.toNat_natCast]; push_cast; rfl
  generalize hQ : 2 ^ N = Q at *
  have HBS : Hid (∀ s, bySize N (s + 1) = bySize N s ++ flt (szP s) Q) := fun s => by rw [← hQ]; exact bySize_succ N s
  clear hok
  go_enter Try.func102, Try.ntmps102
  go_wp2
  go_loopw [3, 4] (fun v i wr => ∃ s : Nat, i = .int .i64 s ∧ s ≤ N + 1 ∧ OwnI wr w.heap.size v (bySize N s) ∧ Below w.heap.size w wr) (fun _ i _ => N + 1 - (intOf i).toNat)
  case atStart => exact ⟨0, rfl, Nat.zero_le _, by simpa [bySize] using hI, hb⟩
  case round =>
    clear hI hb
    obtain ⟨s, rfl, hs, hI, hb⟩ := hrel
    have hbl := bySize_len N s hN5
    by_cases hlt : s ≤ N
    · have hB : Hid (bySize N (s + 1) = bySize N s ++ flt (szP s) Q) := HBS.out s
      generalize bySize N s = F at *
      go_wp2_with (first | (go_at_call 95; refine Calls.mono (Ans.eqb (c_l1In _ _ _ _) hin) ?_; rintro e w1 ⟨rfl, hbn⟩; replace hI := hI.keep hbn; replace hb := bel_to (w := w) (by first | exact hb | exact hb.alloc hb.size _ | exact (hb.alloc hb.size _).alloc (Nat.le_trans hb.size (by simp)) _ | exact hb.setCell (by simp [hb.size]) _) hbn; clear hbn))
      go_loopw [3, 5] (fun v i wr => ∃ k : Nat, i = .int .i64 k ∧ k ≤ Q ∧ OwnI wr w.heap.size v (F ++ flt (szP s) k) ∧ Below w.heap.size w wr) (fun _ i _ => Q - (intOf i).toNat)
      case atStart => exact ⟨0, rfl, Nat.zero_le _, by simpa [flt] using hI, hb⟩
      case round =>
        clear hI hb
        obtain ⟨k, rfl, hk, hI, hb⟩ := hrel
        have hfk := flt_le (szP s) k
        have hfl : (F ++ flt (szP s) k).length ≤ 300 := by rw [List.length_append]; omega
        by_cases hlk : k < Q
        · have hd : decide ((k : Int) ≤ (Q : Int) - 1) = true := by simp; omega
          have HS : Hid (flt (szP s) (k + 1) = flt (szP s) k ++ (if szP s k then [(k : Int)] else [])) := flt_succ _ k
          have HA : Hid (F ++ flt (szP s) (k + 1) = (F ++ flt (szP s) k) ++ (if szP s k then [(k : Int)] else [])) := by
            show F ++ flt (szP s) (k + 1) = (F ++ flt (szP s) k) ++ (if szP s k then [(k : Int)] else [])
            rw [HS.out, List.append_assoc]
          have hml := members_len (k : Int)
          have HZ : Hid (szP s (k : Int) = (((membersF (k : Int)).length : Int) == s)) := rfl
          clear HS
          generalize F ++ flt (szP s) k = F2 at *
          cases hz : (((membersF (k : Int)).length : Int) == s)
          · go_wp2_with (first | (go_at_call 88; refine Calls.mono (c_l2All _ hn01 _) ?_; rintro e w1 ⟨rfl, hbn⟩; replace hI := hI.keep hbn; replace hb := bel_to (w := w) (by first | exact hb | exact hb.alloc hb.size _ | exact (hb.alloc hb.size _).alloc (Nat.le_trans hb.size (by simp)) _ | exact hb.setCell (by simp [hb.size]) _) hbn; clear hbn) | (go_at_call 137; refine Calls.mono (c_specCountMembers _ _) ?_; rintro e w1 ⟨rfl, hbn⟩; replace hI := hI.keep hbn; replace hb := bel_to (w := w) (by first | exact hb | exact hb.alloc hb.size _ | exact (hb.alloc hb.size _).alloc (Nat.le_trans hb.size (by simp)) _ | exact hb.setCell (by simp [hb.size]) _) hbn; clear hbn) | fail)
            go_roundw
            case rel => exact ⟨k + 1, by go_num, by omega, by rw [HA.out, HZ.out, hz]; simpa using hI, hb⟩
            case measure => simp [intOf]; omega
          · go_wp2_with (first | (go_at_call 88; refine Calls.mono (c_l2All _ hn01 _) ?_; rintro e w1 ⟨rfl, hbn⟩; replace hI := hI.keep hbn; replace hb := bel_to (w := w) (by first | exact hb | exact hb.alloc hb.size _ | exact (hb.alloc hb.size _).alloc (Nat.le_trans hb.size (by simp)) _ | exact hb.setCell (by simp [hb.size]) _) hbn; clear hbn) | (go_at_call 137; refine Calls.mono (c_specCountMembers _ _) ?_; rintro e w1 ⟨rfl, hbn⟩; replace hI := hI.keep hbn; replace hb := bel_to (w := w) (by first | exact hb | exact hb.alloc hb.size _ | exact (hb.alloc hb.size _).alloc (Nat.le_trans hb.size (by simp)) _ | exact hb.setCell (by simp [hb.size]) _) hbn; clear hbn) | (at_builtin; refine wpList_append_own _ rfl _ _ 69 rfl w.heap.size 3 i0 (.int .i64 0) 1 8 Try.underlying69 hi hz0 hz1 hz2 rfl (by decide) _ _ _ rfl (World.ownsRow.alloc hI _) _ 1 1 [.int .i64 ((k : Int))] rfl rfl (by intro j u hj; match j, hj with | 0, hj => simp at hj; subst hj; simp [Addr.add]) (by intro u hu; simp at hu; subst hu; rfl) (by unfold maxLen; omega) (by omega) (by have := hb.size; simp; omega) ?_; intro v' w1 hown hgrow _; replace hb := (hb.alloc hb.size _).grown hgrow (by have := hb.size; simp; omega) (fun g hg => (World.ownsRow.lt hI g hg).1); replace hI := OwnI.snoc hown; clear hown hgrow) | fail)
            go_roundw
            case rel => exact ⟨k + 1, by go_num, by omega, by rw [HA.out, HZ.out, hz]; exact hI, hb⟩
            case measure => simp [intOf]; omega
        · have hkk : k = Q := by omega
          have HA : Hid (bySize N (s + 1) = F ++ flt (szP s) k) := by show bySize N (s + 1) = F ++ flt (szP s) k; rw [hB.out, hkk]
          have hd : decide ((k : Int) ≤ (Q : Int) - 1) = false := by simp; omega
          clear hkk
          go_wp2_with (first | (go_at_call 88; refine Calls.mono (c_l2All _ hn01 _) ?_; rintro e w1 ⟨rfl, hbn⟩; replace hI := hI.keep hbn; replace hb := bel_to (w := w) (by first | exact hb | exact hb.alloc hb.size _ | exact (hb.alloc hb.size _).alloc (Nat.le_trans hb.size (by simp)) _ | exact hb.setCell (by simp [hb.size]) _) hbn; clear hbn) | fail)
          go_roundw
          case rel => exact ⟨s + 1, by go_num, by omega, by rw [HA.out]; exact hI, hb⟩
          case measure => simp [intOf]; omega
    · have hss : s = N + 1 := by omega
      have HE : Hid (bySize N s = partsF N) := by show bySize N s = partsF N; rw [hss, HM.out]
      clear hss
      go_wp2
      go_ret
      exact ⟨_, rfl, by rw [← HE.out]; exact hI, hb⟩
end Go.Proofs.Ytkanbnbofoabeaa
namespace Go.Proofs.Ytkanbnbofoabeaa
open Go.RowKit
set_option linter.unusedVariables false
set_option maxRecDepth 100000

theorem OwnD.empty (w : World) (base : Nat) (hb : base ≤ w.heap.size) : OwnD (w.alloc (.cells #[] 33)) base (.slice (some ⟨w.heap.size, 0, none⟩) 0 0) [] :=
  World.ownsRow_lit w #[] 0 hb (Nat.zero_le _) rfl
/-- The cells of a list of dependencies, as append asks for them. -/
theorem DepsAt.cells {w : World} {b off : Nat} {D : List (Int × Int)} (h : DepsAt w (some ⟨b, off, none⟩) D) (j : Nat) (u : Value) (hu : (dcells D)[j]? = some u) : w.cell? ((⟨b, off, none⟩ : Addr).add j) = some u := by
  have hj : j < D.length * 2 := by
    rw [← dcells_length]
    rcases Nat.lt_or_ge j (dcells D).length with h | h
    · exact h
    · rw [List.getElem?_eq_none h] at hu; cases hu
  obtain ⟨b', off', e, _, hc⟩ := h.at_ (by omega)
  simp only [Option.some.injEq, Addr.mk.injEq, and_true] at e
  obtain ⟨rfl, rfl⟩ := e
  have e : (⟨b, off, none⟩ : Addr).add j = ⟨b, off + j, none⟩ := by unfold Addr.add; split <;> simp_all
  rw [e]
  have hk := hc (j / 2) (by omega)
  have hd := dcells_at D (j / 2) (by omega)
  rcases Nat.mod_two_eq_zero_or_one j with hm | hm
  · have ej : j / 2 * 2 = j := by omega
    rw [ej] at hk hd
    rw [hk.1, ← hd.1]; exact hu
  · have ej : j / 2 * 2 + 1 = j := by omega
    have e2 : off + j / 2 * 2 + 1 = off + j := by omega
    rw [ej] at hd
    rw [e2] at hk
    rw [hk.2, ← hd.2]; exact hu
theorem DepsAt.cellsAny {w : World} {a : Addr} {D : List (Int × Int)} (h : DepsAt w (some a) D) (j : Nat) (u : Value) (hu : (dcells D)[j]? = some u) : w.cell? (a.add j) = some u := by
  have h0 : 0 < D.length := by
    rcases Nat.eq_zero_or_pos D.length with h0 | h0
    · have e : D = [] := List.eq_nil_of_length_eq_zero h0
      subst e; cases hu
    · exact h0
  obtain ⟨b', off', e, _, hc⟩ := h.at_ h0
  simp only [Option.some.injEq] at e
  subst e
  exact h.cells j u hu
theorem dcells_one (D : List (Int × Int)) : ∀ u ∈ dcells D, u.oneCell' = true := by
  intro u hu
  simp only [dcells, List.mem_flatMap, encD] at hu
  obtain ⟨d, _, hd⟩ := hu
  simp at hd
  rcases hd with rfl | rfl <;> rfl
theorem OwnD.joined {w : World} {base : Nat} {v : Value} {A B : List (Int × Int)} (h : w.ownsRow base 33 2 v (A.length + B.length) (dcells A ++ dcells B)) : OwnD w base v (A ++ B) := by
  unfold OwnD
  rw [List.length_append, dcells_append]
  exact h

theorem c_copyDeps (oa) (cap : Nat) (D : List (Int × Int)) (w : World) (hD : DepsAt w oa D) (hnil : oa = none → cap = 0) :
    Calls Try.prog 136 #[.slice oa D.length cap] w fun e w' => ∃ v, e = .returned v ∧ OwnD w' w.heap.size v D ∧ Below w.heap.size w w' := by
  obtain ⟨i0, hi, hz0, hz1, hz2⟩ := info_parts info_dep
  have hn : D.length ≤ 1073741824 := hD.len
  have hb := (Below.refl w.heap.size w).alloc (Nat.le_refl _) (.cells #[] 33)
  have hI := OwnD.empty w w.heap.size (Nat.le_refl _)
  rcases oa with _ | ⟨b, off, sp⟩
  · have h0 : D.length = 0 := by
      rcases Nat.eq_zero_or_pos D.length with h | h
      · exact h
      · obtain ⟨b, off, e, _⟩ := hD.at_ h; cases e
    have hnl : D = [] := List.eq_nil_of_length_eq_zero h0
    have hcap : cap = 0 := hnil rfl
    subst hnl hcap
    go_enter Try.func136, Try.ntmps136
    go_wp2_with (first | (at_builtin; refine wpList_append_own_none rfl _ _ 31 rfl w.heap.size 33 i0 2 Try.underlying31 hi _ _ _ rfl hI rfl ?_))
    go_ret
    exact ⟨_, rfl, hI, hb⟩
  · have HB : Hid (∀ j u, (dcells D)[j]? = some u → (w.alloc (.cells #[] 33)).cell? ((⟨b, off, sp⟩ : Addr).add j) = some u) := fun j u hu => (hD.keep hb).cellsAny j u hu
    go_enter Try.func136, Try.ntmps136
    go_wp2_with (first | (at_builtin; refine wpList_append_own _ rfl _ _ 31 rfl w.heap.size 33 i0 (.agg #[.int .i64 0, .int .i64 0]) 2 16 Try.underlying31 hi hz0 hz1 hz2 rfl (by decide) _ _ _ rfl hI _ D.length _ (dcells D) rfl (dcells_length D) HB.out (dcells_one D) (by unfold maxLen; simp; omega) (by simp; omega) (by simp) ?_; intro v' w1 hown hgrow _))
    have hI2 := OwnD.joined (A := []) (B := D) (by simpa using hown)
    have hb2 : Below w.heap.size w w1 := hb.grown hgrow (by simp) (fun g hg => (World.ownsRow.lt hI g hg).1)
    clear hown hgrow
    go_wp2
    go_ret
    exact ⟨_, rfl, by simpa using hI2, hb2⟩

theorem dcells_take : ∀ (D : List (Int × Int)) (i : Nat), dcells (D.take i) = (dcells D).take (i * 2)
  | [], i => by simp [dcells]
  | d :: D, 0 => by simp [dcells]
  | d :: D, i + 1 => by
    have e : (i + 1) * 2 = i * 2 + 1 + 1 := by omega
    rw [List.take_succ_cons, dcells_cons, dcells_cons, e, List.take_succ_cons, List.take_succ_cons, dcells_take D i]
theorem dcells_drop : ∀ (D : List (Int × Int)) (i : Nat), dcells (D.drop i) = (dcells D).drop (i * 2)
  | [], i => by simp [dcells]
  | d :: D, 0 => by simp [dcells]
  | d :: D, i + 1 => by
    have e : (i + 1) * 2 = i * 2 + 1 + 1 := by omega
    rw [List.drop_succ_cons, dcells_cons, e, List.drop_succ_cons, List.drop_succ_cons, dcells_drop D i]
def eraD (D : List (Int × Int)) (i : Nat) : List (Int × Int) := D.take i ++ D.drop (i + 1)
theorem ownsTake {w : World} {base : Nat} {v : Value} {i : Nat} {D : List (Int × Int)} (h : w.ownsRow base 33 2 v (0 + i) (dcells [] ++ dcells (D.take i))) : w.ownsRow base 33 2 v i (dcells (D.take i)) := by
  have e : dcells [] ++ dcells (D.take i) = dcells (D.take i) := rfl
  rw [e, Nat.zero_add] at h; exact h
theorem ownsErase {w : World} {base : Nat} {v : Value} {i : Nat} {D : List (Int × Int)} (hil : i < D.length) (h : w.ownsRow base 33 2 v (i + (D.length - (i + 1))) (dcells (D.take i) ++ dcells (D.drop (i + 1)))) : OwnD w base v (eraD D i) := by
  unfold OwnD eraD
  have e : (D.take i ++ D.drop (i + 1)).length = i + (D.length - (i + 1)) := by rw [List.length_append, List.length_take, List.length_drop]; omega
  rw [e, dcells_append]; exact h
theorem ownsLast {w : World} {base : Nat} {v : Value} {i : Nat} {D : List (Int × Int)} (hil : D.length = i + 1) (h : w.ownsRow base 33 2 v (i + 0) (dcells (D.take i) ++ [])) : OwnD w base v (eraD D i) := by
  refine ownsErase (by omega) ?_
  rw [List.drop_of_length_le (by omega), hil, Nat.sub_self]; exact h
end Go.Proofs.Ytkanbnbofoabeaa
namespace Go.Proofs.Ytkanbnbofoabeaa
open Go.RowKit
set_option linter.unusedVariables false
set_option maxRecDepth 100000

def anyIns (T : List Int) (x : Int) : Bool := T.any fun y => ins y x
def stepM (p : Int → Int → Bool) (r : Int) (T : List Int) (x : Int) : List Int := if (!hasc x r && !anyIns T x) && p x r then T ++ [x] else T
def takenF (p : Int → Int → Bool) (r : Int) (L : List Int) : List Int := L.foldl (stepM p r) []
def colF (p : Int → Int → Bool) (P : List Int) (r : Int) : List (Int × Int) := (takenF p r P).map fun x => (x, r)
def colsF (p : Int → Int → Bool) (P : List Int) (n : Nat) : List (Int × Int) := (List.range n).flatMap fun (r : Nat) => colF p P (r : Int)
theorem taken_succ (p : Int → Int → Bool) (r : Int) {L : List Int} {k : Nat} (h : k < L.length) : takenF p r (L.take (k + 1)) = stepM p r (takenF p r (L.take k)) (nth L k) := by
  unfold takenF
  rw [List.take_add_one, nth_eq h, List.foldl_append]; rfl
theorem stepM_len (p : Int → Int → Bool) (r : Int) (T : List Int) (x : Int) : (stepM p r T x).length ≤ T.length + 1 := by
  unfold stepM; split <;> simp
theorem taken_len (p : Int → Int → Bool) (r : Int) (L : List Int) : ∀ k, k ≤ L.length → (takenF p r (L.take k)).length ≤ k
  | 0, _ => by simp [takenF]
  | k + 1, h => by
    rw [taken_succ p r (by omega)]
    have h1 := taken_len p r L k (by omega)
    have h2 := stepM_len p r (takenF p r (L.take k)) (nth L k)
    omega
theorem colF_len (p : Int → Int → Bool) (P : List Int) (r : Int) : (colF p P r).length ≤ P.length := by
  unfold colF
  rw [List.length_map]
  have := taken_len p r P P.length (Nat.le_refl _)
  rw [List.take_length] at this
  exact this
theorem colsF_succ (p : Int → Int → Bool) (P : List Int) (n : Nat) : colsF p P (n + 1) = colsF p P n ++ colF p P n := by unfold colsF; rw [List.range_succ, List.flatMap_append]; simp
theorem colsF_len (p : Int → Int → Bool) (P : List Int) : ∀ n, (colsF p P n).length ≤ P.length * n
  | 0 => by simp [colsF]
  | n + 1 => by
    rw [colsF_succ, List.length_append, Nat.mul_succ]
    have h1 := colsF_len p P n
    have h2 := colF_len p P n
    omega
theorem own_snocD {w : World} {base : Nat} {v : Value} {A : List (Int × Int)} {l r : Int} (h : w.ownsRow base 33 2 v (A.length + 1) (dcells A ++ [.int .i64 l, .int .i64 r])) : OwnD w base v (A ++ [(l, r)]) := OwnD.joined (B := [(l, r)]) h
theorem OwnD.past {w w' : World} {base : Nat} {M v v' : Value} {L : List (Int × Int)} {o : Obj} (h : OwnD w base M L) (hg : (w.alloc o).grownBy w' v.ownBlock) (ha : Apart M v) (hf : Fresh (w.alloc o) v v') : OwnD w' base M L ∧ Apart M v' :=
  ⟨OwnD.far (World.ownsRow.alloc h o) hg ha, Apart.next (World.ownsRow.alloc h o) ha hf⟩
theorem c_hasPart (oa) (cap : Nat) (L : List Int) (x : Int) (w : World) (hL : IntsAt w oa L) :
    Ans Try.prog 140 #[.slice oa L.length cap, .int .i64 x] w (.bool (anyIns L x)) := by
  unfold Ans
  have hn : L.length ≤ 1073741824 := hL.len
  go_enter Try.func140, Try.ntmps140
  go_wp2
  go_loopw [9] (fun i wr => ∃ k : Nat, i = .int .i64 k ∧ k ≤ L.length ∧ (L.take k).all (fun y => !ins y x) = true ∧ Below w.heap.size w wr) (fun i _ => L.length - (intOf i).toNat)
  case atStart => exact ⟨0, rfl, Nat.zero_le _, by simp, Below.refl _ _⟩
  case round =>
    obtain ⟨k, rfl, hk, hall, hb⟩ := hrel
    have HA : Hid ((L.take k).all (fun y => !ins y x) = true) := hall
    clear hall
    by_cases hlt : k < L.length
    · obtain ⟨b, off, rfl, hbs, hc⟩ := hL.at_ (by omega)
      have hc1 := cell_keep (hc k hlt) hb
      have HT : Hid ((L.take (k + 1)).all (fun y => !ins y x) = ((L.take k).all (fun y => !ins y x) && !ins (nth L k) x)) := all_take_succ (fun y => !ins y x) L k hlt
      have HY : Hid (ins (nth L k) x = true → anyIns L x = true) := fun h => List.any_eq_true.2 ⟨nth L k, List.mem_iff_getElem?.2 ⟨k, nth_eq hlt⟩, h⟩
      clear hc
      generalize nth L k = y at *
      cases hi : ins y x
      · go_wp2_with (first | (go_at_call 119; refine Calls.mono (Ans.eqb (c_inside _ _ _) hi) ?_; rintro e w1 ⟨rfl, hbn⟩; replace hb := bel_to (w := w) (by first | exact hb | exact hb.alloc hb.size _ | exact (hb.alloc hb.size _).alloc (Nat.le_trans hb.size (by simp)) _ | exact hb.setCell (by simp [hb.size]) _) hbn; clear hbn))
        go_roundw
        case rel => exact ⟨k + 1, by go_num, by omega, by rw [HT.out, HA.out, hi]; rfl, hb⟩
        case measure => simp [intOf]; omega
      · go_wp2_with (first | (go_at_call 119; refine Calls.mono (Ans.eqb (c_inside _ _ _) hi) ?_; rintro e w1 ⟨rfl, hbn⟩; replace hb := bel_to (w := w) (by first | exact hb | exact hb.alloc hb.size _ | exact (hb.alloc hb.size _).alloc (Nat.le_trans hb.size (by simp)) _ | exact hb.setCell (by simp [hb.size]) _) hbn; clear hbn))
        go_ret
        exact ⟨ret_bool (HY.out hi).symm, hb⟩
    · have hkk : k = L.length := by omega
      have HS : Hid (anyIns L x = false) := by
        have h := HA.out
        rw [hkk, List.take_length, List.all_eq_true] at h
        show anyIns L x = false
        unfold anyIns
        rw [List.any_eq_false]
        intro y hy
        have := h y hy
        simpa using this
      clear hkk
      go_wp2
      go_ret
      exact ⟨ret_bool HS.out.symm, hb⟩

end Go.Proofs.Ytkanbnbofoabeaa
namespace Go.Proofs.Ytkanbnbofoabeaa
open Go.RowKit
set_option linter.unusedVariables false
set_option maxRecDepth 100000

def isMinF (n : Int) (R : List (List Int)) (m l r : Int) : Bool :=
  askF n R m l r && (holdsF R m l r && (!hasc l r && (membersF l).all fun c => !holdsF R m (dif l (one c)) r))
theorem dif_le {x c : Int} (hx : St x) (hc : Co c) : 0 ≤ dif x (one c) ∧ dif x (one c) ≤ x := by
  obtain ⟨n, hn, rfl⟩ := st_nat hx; obtain ⟨k, hk, rfl⟩ := co_nat hc
  have h : ∀ n < 32, ∀ k < 5, 0 ≤ dif ((n : Nat) : Int) (one ((k : Nat) : Int)) ∧ dif ((n : Nat) : Int) (one ((k : Nat) : Int)) ≤ ((n : Nat) : Int) := by decide +kernel
  exact h n hn k hk
theorem ask_less {n : Int} {R : List (List Int)} {m l r c : Int} (h : askF n R m l r = true) (hc : Co c) : askF n R m (dif l (one c)) r = true := by
  unfold askF at h ⊢
  simp only [Bool.and_eq_true] at h ⊢
  obtain ⟨⟨ht, hm⟩, hd⟩ := h
  obtain ⟨hl, hr⟩ := dep_of hd (isTab_of ht).2.1
  refine ⟨⟨ht, hm⟩, ?_⟩
  have h2 := dif_le hl hc
  unfold isDepF isAttr at hd ⊢
  simp only [Bool.and_eq_true, decide_eq_true_eq] at hd ⊢
  obtain ⟨⟨⟨a, ⟨⟨b, c'⟩, d⟩, e⟩, f⟩, g⟩ := hd
  exact ⟨⟨⟨a, ⟨⟨b, c'⟩, h2.1⟩, by omega⟩, f⟩, g⟩

end Go.Proofs.Ytkanbnbofoabeaa
namespace Go.Proofs.Ytkanbnbofoabeaa
open Go.RowKit
set_option linter.unusedVariables false
set_option maxRecDepth 100000

/-- what l7Minimal says -/
def l7F (n : Int) (R : List (List Int)) (m l r : Int) : Bool := !hasc l r && (holdsF R m l r && (membersUpTo l n.toNat).all fun c => !holdsF R m (dif l (one c)) r)
theorem members_below {n l : Int} (h0 : 0 ≤ n) (h5 : n ≤ 5) (hl : 0 ≤ l) (hn : l < 2 ^ n.toNat) : membersUpTo l n.toNat = membersF l := by
  obtain ⟨k, rfl⟩ := Int.eq_ofNat_of_zero_le h0
  obtain ⟨x, rfl⟩ := Int.eq_ofNat_of_zero_le hl
  have hk : k < 6 := by omega
  have h32 : ∀ m < 6, (2 : Int) ^ ((m : Nat) : Int).toNat ≤ 32 := by decide
  have hx : x < 32 := by have := h32 k hk; omega
  have h : ∀ k < 6, ∀ x < 32, ((x : Nat) : Int) < 2 ^ ((k : Nat) : Int).toNat → membersUpTo ((x : Nat) : Int) ((k : Nat) : Int).toNat = membersF ((x : Nat) : Int) := by decide +kernel
  exact h k hk x hx hn
theorem isMin_l7 {n : Int} {R : List (List Int)} {m l r : Int} (h : askF n R m l r = true) : isMinF n R m l r = l7F n R m l r := by
  have h' := h
  unfold askF at h'
  simp only [Bool.and_eq_true] at h'
  have h5 := (isTab_of h'.1.1).2.1
  have hd := h'.2
  unfold isDepF isAttr at hd
  simp only [Bool.and_eq_true, decide_eq_true_eq] at hd
  unfold isMinF l7F
  rw [h, members_below (by omega) h5 hd.1.1.2.1.2 hd.1.1.2.2]
  cases hasc l r <;> cases holdsF R m l r <;> rfl
end Go.Proofs.Ytkanbnbofoabeaa
namespace Go.Proofs.Ytkanbnbofoabeaa
open Go.RowKit
set_option linter.unusedVariables false
set_option maxRecDepth 100000

def keyI (x : Int) : Int := (card x : Int) * 32 + x
theorem keyI_fin : ∀ x : Fin 32, keyI (x.val : Int) = keyS x := by decide +kernel
theorem parts_up {N : Nat} (hN : N ≤ 5) : Up ((partsF N).map keyI) := by
  unfold partsF
  rw [if_pos ⟨by omega, by omega⟩, Int.toNat_natCast]
  have h := sortS_up (finsB_nodup N (by omega))
  unfold valS
  rw [List.map_map]
  have e : (keyI ∘ fun (x : Fin 32) => (x.val : Int)) = keyS := funext keyI_fin
  rw [e]
  exact h
theorem up_index {P : List Int} {f : Int → Int} (h : Up (P.map f)) {k : Nat} (hk : k < P.length) : (∀ z ∈ P, f z < f (nth P k) → z ∈ P.take k) ∧ ∀ y ∈ P.take k, f y < f (nth P k) := by
  unfold Up at h
  rw [List.pairwise_map, List.pairwise_iff_getElem] at h
  have ek : P[k] = nth P k := by have := nth_eq hk; rw [List.getElem?_eq_getElem hk] at this; injection this
  constructor
  · intro z hz hlt
    obtain ⟨j, hj, e⟩ := List.mem_iff_getElem.1 hz
    rcases Nat.lt_or_ge j k with h' | h'
    · exact List.mem_iff_getElem.2 ⟨j, by rw [List.length_take]; omega, by rw [List.getElem_take]; exact e⟩
    · exfalso
      rcases Nat.lt_or_ge k j with h'' | h''
      · have := h k j hk hj h''
        rw [ek, e] at this
        omega
      · have : j = k := by omega
        subst this
        rw [ek] at e
        rw [e] at hlt
        omega
  · intro y hy
    obtain ⟨j, hj, e⟩ := List.mem_iff_getElem.1 hy
    rw [List.length_take] at hj
    rw [List.getElem_take] at e
    have := h j k (by omega) hk (by omega)
    rw [e, ek] at this
    exact this
theorem viol_down {R : List (List Int)} {m r x y : Int} {i k : Nat} (hx : St x) (hy : St y) (hA : (row R i).length ≤ 5) (hi : ins x y = true) (h : violF R m y r i k = true) : violF R m x r i k = true := by
  unfold violF at h ⊢
  simp only [Bool.and_eq_true] at h ⊢
  exact ⟨ins_trans hx hy (agreeF_st hA) hi h.1, h.2⟩
theorem holds_up {R : List (List Int)} {m r x y : Int} (hR : ∀ i, i < R.length → (row R i).length ≤ 5) (hx : St x) (hy : St y) (hi : ins x y = true) (h : holdsF R m x r = true) : holdsF R m y r = true := by
  unfold holdsF at h ⊢
  rw [decide_eq_true_eq] at h ⊢
  intro i hil k hk hik
  cases hv : violF R m y r i k
  · rfl
  · have := viol_down (k := k) hx hy (hR i hil) hi hv
    rw [h i hil k hk hik] at this
    cases this
theorem le_of_ins {x y : Int} (hx : St x) (hy : St y) (h : ins x y = true) : x ≤ y := by
  obtain ⟨n, hn, rfl⟩ := st_nat hx; obtain ⟨k, hk, rfl⟩ := st_nat hy
  have h' : ∀ n < 32, ∀ k < 32, ins ((n : Nat) : Int) ((k : Nat) : Int) = true → n ≤ k := by decide +kernel
  have := h' n hn k hk h
  omega
theorem ins_dif {y x c : Int} (hy : St y) (hx : St x) (hc : Co c) (h : ins y x = true) (hn : hasc y c = false) : ins y (dif x (one c)) = true :=
  (ins_iff hy (dif_st hx (one_st hc))).2 fun d hd hyd => by
    rw [hasc_dif hx (one_st hc) hd, hasc_one hc hd, (ins_iff hy hx).1 h d hd hyd]
    have : c ≠ d := fun e => by subst e; rw [hn] at hyd; cases hyd
    simp [this]
theorem dif_ins {x c : Int} (hx : St x) (hc : Co c) : ins (dif x (one c)) x = true :=
  (ins_iff (dif_st hx (one_st hc)) hx).2 fun d hd h => by
    rw [hasc_dif hx (one_st hc) hd] at h
    simp only [Bool.and_eq_true] at h
    exact h.1
theorem dif_not {x c : Int} (hx : St x) (hc : Co c) : hasc (dif x (one c)) c = false := by
  rw [hasc_dif hx (one_st hc) hc, hasc_one hc hc]; simp
theorem lacks {x y : Int} (hx : St x) (hy : St y) (h : ins y x = true) (hne : y ≠ x) : ∃ c, Co c ∧ hasc x c = true ∧ hasc y c = false := by
  refine Classical.byContradiction fun hn => hne (set_ext hy hx fun c hc => ?_)
  cases e : hasc x c
  · cases e' : hasc y c
    · rfl
    · rw [(ins_iff hy hx).1 h c hc e'] at e; cases e
  · cases e' : hasc y c
    · exact absurd ⟨c, hc, e, e'⟩ hn
    · rfl
theorem taken_filter {N : Nat} {R : List (List Int)} {m r : Int} (hN : N ≤ 5) (hR : ∀ i, i < R.length → (row R i).length ≤ 5) (hr : 0 ≤ r ∧ r < 5) :
    ∀ k, k ≤ (partsF N).length → takenF (fun x r => holdsF R m x r) r ((partsF N).take k) = ((partsF N).take k).filter fun x => l7F N R m x r
  | 0, _ => by simp [takenF]
  | k + 1, hk => by
    have hlt : k < (partsF N).length := by omega
    rw [taken_succ _ _ hlt, taken_filter hN hR hr k (by omega), filter_take_succ _ _ _ hlt]
    have hup := up_index (parts_up hN) hlt
    have hxm : nth (partsF N) k ∈ partsF N := List.mem_iff_getElem?.2 ⟨k, nth_eq hlt⟩
    generalize nth (partsF N) k = x at *
    have hpm : ∀ z, z ∈ partsF N ↔ 0 ≤ z ∧ z < 2 ^ N := fun z => by
      have := partsF_mem (n := (N : Int)) (by omega) (by omega) (x := z)
      rw [Int.toNat_natCast] at this
      exact this
    have h32 := (pow_wrap (n := (N : Int)) (by omega) (by omega)).2.1
    rw [Int.toNat_natCast] at h32
    have hxr := (hpm x).1 hxm
    have sx : St x := ⟨hxr.1, by omega⟩
    have key : ((!hasc x r && !anyIns (((partsF N).take k).filter fun x => l7F N R m x r) x) && holdsF R m x r) = l7F N R m x r := by
      have hmb : membersUpTo x N = membersF x := by
        have := members_below (n := (N : Int)) (by omega) (by omega) hxr.1 (by rw [Int.toNat_natCast]; exact hxr.2)
        rw [Int.toNat_natCast] at this
        exact this
      rw [Bool.eq_iff_iff]
      generalize hTl : ((partsF N).take k).filter (fun x => l7F N R m x r) = Tl
      unfold l7F
      rw [Int.toNat_natCast, hmb]
      simp only [Bool.and_eq_true, Bool.not_eq_true', List.all_eq_true]
      constructor
      · rintro ⟨⟨h1, h2⟩, h3⟩
        refine ⟨h1, h3, fun c hc => ?_⟩
        obtain ⟨cc, ch⟩ := members_co c hc
        cases hd : holdsF R m (dif x (one c)) r
        · rfl
        · exfalso
          have sd := dif_st sx (one_st cc)
          obtain ⟨z, hz, hzi⟩ := exists_min (p := fun y => holdsF R m y r) (card (dif x (one c))) (dif x (one c)) (Nat.le_refl _) sd hd
          obtain ⟨sz, pz, mz⟩ := minL_mem.1 hz
          have hzx := ins_trans sz sd sx hzi (dif_ins sx cc)
          have hzr : hasc z r = false := by
            cases e : hasc z r
            · rfl
            · rw [(ins_iff sz sx).1 hzx r hr e] at h1; cases h1
          have hne : z ≠ x := fun e => by
            subst e
            have := (ins_iff sz sd).1 hzi c cc ch
            rw [dif_not sz cc] at this; cases this
          have hzl := le_of_ins sz sx hzx
          have hzm : z ∈ partsF N := (hpm z).2 ⟨sz.1, by omega⟩
          have hcard := card_lt sz sx hzx hne
          have hzt := hup.1 z hzm (by unfold keyI; omega)
          have hz7 : l7F N R m z r = true := by
            have hmz : membersUpTo z N = membersF z := by
              have := members_below (n := (N : Int)) (by omega) (by omega) sz.1 (by rw [Int.toNat_natCast]; omega)
              rw [Int.toNat_natCast] at this
              exact this
            unfold l7F
            rw [Int.toNat_natCast, hmz]
            simp only [Bool.and_eq_true, Bool.not_eq_true', List.all_eq_true]
            refine ⟨hzr, pz, fun c' hc' => ?_⟩
            obtain ⟨cc', ch'⟩ := members_co c' hc'
            cases hd' : holdsF R m (dif z (one c')) r
            · rfl
            · exfalso
              have := mz _ (dif_st sz (one_st cc')) hd' (dif_ins sz cc')
              have h4 := dif_not sz cc'
              rw [this, ch'] at h4; cases h4
          have : anyIns Tl x = true := List.any_eq_true.2 ⟨z, by rw [← hTl]; exact List.mem_filter.2 ⟨hzt, hz7⟩, hzx⟩
          rw [this] at h2; cases h2
      · rintro ⟨h1, h3, h4⟩
        refine ⟨⟨h1, ?_⟩, h3⟩
        cases ha : anyIns Tl x
        · rfl
        · exfalso
          obtain ⟨y, hy, hyx⟩ := List.any_eq_true.1 ha
          rw [← hTl] at hy
          obtain ⟨hyt, hy7⟩ := List.mem_filter.1 hy
          have hyr := (hpm y).1 (List.mem_of_mem_take hyt)
          have sy : St y := ⟨hyr.1, by omega⟩
          have hlt2 := hup.2 y hyt
          have hne : y ≠ x := fun e => by subst e; omega
          obtain ⟨c, cc, cx, cy⟩ := lacks sx sy hyx hne
          have hpy : holdsF R m y r = true := by
            unfold l7F at hy7
            simp only [Bool.and_eq_true] at hy7
            exact hy7.2.1
          have := holds_up hR sy (dif_st sx (one_st cc)) (ins_dif sy sx cc hyx cy) hpy
          rw [h4 c (members_mem sx cc cx)] at this
          cases this
    unfold stepM
    rw [key]
    split
    · rfl
    · simp
def minDepsF (n : Int) (R : List (List Int)) (m : Int) : List (Int × Int) := if isTabF n R && modeF m then colsF (fun x r => holdsF R m x r) (partsF n) n.toNat else []
def colG (n : Int) (R : List (List Int)) (m : Int) (L : List Int) (r : Int) : List (Int × Int) := (L.filter fun x => l7F n R m x r).map fun x => (x, r)
def colsG (n : Int) (R : List (List Int)) (m : Int) (k : Nat) : List (Int × Int) := (List.range k).flatMap fun (r : Nat) => colG n R m (partsF n) (r : Int)
theorem colsG_succ (n : Int) (R : List (List Int)) (m : Int) (k : Nat) : colsG n R m (k + 1) = colsG n R m k ++ colG n R m (partsF n) k := by unfold colsG; rw [List.range_succ, List.flatMap_append]; simp
theorem cols_same {N : Nat} {R : List (List Int)} {m : Int} (hN : N ≤ 5) (hR : ∀ i, i < R.length → (row R i).length ≤ 5) : ∀ k, k ≤ N → colsF (fun x r => holdsF R m x r) (partsF N) k = colsG N R m k
  | 0, _ => by simp [colsF, colsG]
  | k + 1, hk => by
    rw [colsF_succ, colsG_succ, cols_same hN hR k (by omega)]
    congr 1
    unfold colF colG
    have h := taken_filter (m := m) (r := (k : Int)) hN hR (by omega) (partsF N).length (Nat.le_refl _)
    rw [List.take_length] at h
    rw [h]
theorem minDeps_len (n : Int) (R : List (List Int)) (m : Int) : (minDepsF n R m).length ≤ Room := by
  unfold minDepsF
  split
  · next h =>
    simp only [Bool.and_eq_true] at h
    obtain ⟨h1, h5, _, _⟩ := isTab_of h.1
    have a := colsF_len (fun x r => holdsF R m x r) (partsF n) n.toNat
    have b := partsF_len n
    have c : (partsF n).length * n.toNat ≤ 32 * 5 := Nat.mul_le_mul b (by omega)
    unfold Room; omega
  · simp
end Go.Proofs.Ytkanbnbofoabeaa
namespace Go.Proofs.Ytkanbnbofoabeaa
open Go.RowKit
set_option linter.unusedVariables false
set_option maxRecDepth 100000

theorem OwnD.nil (w : World) (base : Nat) : OwnD w base (.slice none 0 0) [] := ⟨rfl, Or.inl ⟨rfl, rfl⟩⟩
theorem emptyD_behind {w' : World} {B j : Nat} {v : Value} (h : w'.cell? ⟨B, j, none⟩ = some v) : OwnD (w'.alloc (.cells #[] 33)) (B + 1) (.slice (some ⟨w'.heap.size, 0, none⟩) 0 0) [] := OwnD.empty _ _ (World.block_lt_of_cell? _ _ h)
theorem colG_len (n : Int) (R : List (List Int)) (m : Int) (L : List Int) (r : Int) : (colG n R m L r).length ≤ L.length := by
  unfold colG
  rw [List.length_map]
  exact List.length_filter_le _ _
theorem colsG_len (n : Int) (R : List (List Int)) (m : Int) : ∀ k, (colsG n R m k).length ≤ 32 * k
  | 0 => by simp [colsG]
  | k + 1 => by
    rw [colsG_succ, List.length_append]
    have h1 := colsG_len n R m k
    have h2 := colG_len n R m (partsF n) k
    have h3 := partsF_len n
    omega
end Go.Proofs.Ytkanbnbofoabeaa
namespace Go.Proofs.Ytkanbnbofoabeaa
open Go.RowKit
set_option linter.unusedVariables false
set_option maxRecDepth 100000

def finsOf (T : List Int) : List (Fin 32) := T.map fun x => Fin.ofNat 32 x.toNat
theorem fin_val {x : Int} (h : St x) : (((Fin.ofNat 32 x.toNat : Fin 32).val : Nat) : Int) = x := by
  obtain ⟨n, hn, rfl⟩ := st_nat h
  have : n % 32 = n := Nat.mod_eq_of_lt hn
  simp [Fin.ofNat, this]
theorem valS_fins {T : List Int} (h : ∀ x ∈ T, St x) : valS (finsOf T) = T := by
  unfold valS finsOf
  rw [List.map_map]
  have : ∀ T : List Int, (∀ x ∈ T, St x) → T.map ((fun x : Fin 32 => (x.val : Int)) ∘ fun x : Int => (Fin.ofNat 32 x.toNat : Fin 32)) = T := by
    intro T
    induction T with
    | nil => intro _; rfl
    | cons x T ih =>
      intro h
      rw [List.map_cons, ih fun y hy => h y (List.mem_cons_of_mem _ hy)]
      congr 1
      exact fin_val (h x (List.mem_cons_self ..))
  exact this T h
theorem fins_mem {T : List Int} (h : ∀ x ∈ T, St x) {x : Fin 32} : x ∈ finsOf T ↔ (x.val : Int) ∈ T := by
  unfold finsOf
  rw [List.mem_map]
  constructor
  · rintro ⟨y, hy, rfl⟩; rw [fin_val (h y hy)]; exact hy
  · intro hx; exact ⟨_, hx, Fin.ext (by simp [Fin.ofNat])⟩
theorem fins_nodup {T : List Int} (hu : Up T) (h : ∀ x ∈ T, St x) : (finsOf T).Nodup := by
  unfold finsOf List.Nodup
  rw [List.pairwise_map]
  refine List.Pairwise.imp_of_mem (R := (· < ·)) ?_ hu
  intro a b ha hb hab e
  have h1 := fin_val (h a ha)
  have h2 := fin_val (h b hb)
  rw [e] at h1
  omega
theorem sort_filter {N : Nat} (hN : N ≤ 5) {T : List Int} (hu : Up T) (hT : ∀ x ∈ T, 0 ≤ x ∧ x < 2 ^ N) : valS (sortS (finsOf T)) = (partsF N).filter (inB' T) := by
  have hp := pow_nat (n := (N : Int)) (by omega) (by omega)
  rw [Int.toNat_natCast] at hp
  have hS : ∀ x ∈ T, St x := fun x hx => ⟨(hT x hx).1, by have := (hT x hx).2; omega⟩
  unfold partsF
  rw [if_pos ⟨by omega, by omega⟩, Int.toNat_natCast]
  unfold valS
  rw [List.filter_map]
  congr 1
  refine map_inj (up_ext (sortS_up (fins_nodup hu hS)) ?_ fun z => ?_)
  · have h := sortS_up (finsB_nodup N (by omega))
    unfold Up at *
    rw [List.pairwise_map] at *
    exact h.filter _
  · rw [List.mem_map, List.mem_map]
    have key : ∀ x : Fin 32, x ∈ sortS (finsOf T) ↔ x ∈ (sortS (finsB (2 ^ N))).filter (inB' T ∘ fun x => (x.val : Int)) := by
      intro x
      have e1 : x ∈ sortS (finsOf T) ↔ x ∈ finsOf T := (List.mergeSort_perm _ _).mem_iff
      have e2 : x ∈ sortS (finsB (2 ^ N)) ↔ x ∈ finsB (2 ^ N) := (List.mergeSort_perm _ _).mem_iff
      rw [e1, fins_mem hS, List.mem_filter, e2]
      have e3 : (inB' T ∘ fun (x : Fin 32) => (x.val : Int)) x = true ↔ (x.val : Int) ∈ T := by simp [inB']
      rw [e3]
      refine ⟨fun h => ⟨?_, h⟩, fun h => h.2⟩
      have hx := (hT _ h).2
      unfold finsB
      rw [List.mem_map]
      refine ⟨x.val, List.mem_range.2 (by omega), ?_⟩
      exact Fin.ext (by simp [Fin.ofNat])
    constructor
    · rintro ⟨x, hx, e⟩; exact ⟨x, (key x).1 hx, e⟩
    · rintro ⟨x, hx, e⟩; exact ⟨x, (key x).2 hx, e⟩
theorem minF_up (L : List Int) : Up (minF L) := by
  unfold minF
  split
  · exact flt_up _ _
  · exact List.Pairwise.nil
theorem transF_up (L : List Int) (n : Int) : Up (transF L n) := by
  unfold transF
  split
  · exact minF_up _
  · exact List.Pairwise.nil
theorem transF_low {L : List Int} {N : Nat} (hN : N ≤ 5) : ∀ x ∈ transF L N, 0 ≤ x ∧ x < 2 ^ N := by
  intro x hx
  have hp := pow_nat (n := (N : Int)) (by omega) (by omega)
  rw [Int.toNat_natCast] at hp
  unfold transF at hx
  split at hx
  · unfold minF at hx
    split at hx
    · have h := (flt_mem.1 hx).2
      simp only [Bool.and_eq_true] at h
      have h2 : x ∈ flt (hitsF L) (2 ^ ((N : Int)).toNat) := by simpa [inB'] using h.1
      have h3 := (flt_mem.1 h2).1
      rw [Int.toNat_natCast] at h3
      exact ⟨h3.1, by omega⟩
    · cases hx
  · cases hx
theorem transF_len32 (L : List Int) (n : Int) : (transF L n).length ≤ 32 := by
  unfold transF
  split
  · exact minF_len _
  · simp
def colT (P T : List Int) (r : Int) : List (Int × Int) := (P.filter (inB' T)).map fun x => (x, r)
def tranR (n : Int) (R : List (List Int)) (m r : Int) : List Int := transF (diffF n R m r) n
def colsT (n : Int) (R : List (List Int)) (m : Int) (k : Nat) : List (Int × Int) := (List.range k).flatMap fun (r : Nat) => colT (partsF n) (tranR n R m r) r
def depsTF (n : Int) (R : List (List Int)) (m : Int) : List (Int × Int) := if isTabF n R && modeF m then colsT n R m n.toNat else []
theorem colsT_succ (n : Int) (R : List (List Int)) (m : Int) (k : Nat) : colsT n R m (k + 1) = colsT n R m k ++ colT (partsF n) (tranR n R m k) k := by unfold colsT; rw [List.range_succ, List.flatMap_append]; simp
theorem colT_len (P T : List Int) (r : Int) : (colT P T r).length ≤ P.length := by unfold colT; rw [List.length_map]; exact List.length_filter_le _ _
theorem colsT_len (n : Int) (R : List (List Int)) (m : Int) : ∀ k, (colsT n R m k).length ≤ 32 * k
  | 0 => by simp [colsT]
  | k + 1 => by
    rw [colsT_succ, List.length_append]
    have h1 := colsT_len n R m k
    have h2 := colT_len (partsF n) (tranR n R m k) k
    have h3 := partsF_len n
    omega
theorem depsT_len (n : Int) (R : List (List Int)) (m : Int) : (depsTF n R m).length ≤ Room := by
  unfold depsTF
  split
  · next h =>
    simp only [Bool.and_eq_true] at h
    obtain ⟨h1, h5, _⟩ := isTab_of h.1
    have := colsT_len n R m n.toNat
    have : n.toNat ≤ 5 := by omega
    unfold Room; omega
  · simp
theorem c_SortAny (oa) (cap base : Nat) (T : List Int) (w : World) (hL : T.length ≤ 32) (hS : ∀ x ∈ T, St x) (h : OwnI w base (.slice oa T.length cap) T) :
    Calls Try.prog 116 #[.slice oa T.length cap, .func (.func 117) #[] #[]] w fun e w' => e = .returned (.tuple #[]) ∧ OwnI w' base (.slice oa T.length cap) (valS (sortS (finsOf T))) ∧ w.grownBy w' (Value.slice oa T.length cap).ownBlock := by
  have hv := valS_fins hS
  have hfl : (finsOf T).length = T.length := by simp [finsOf]
  by_cases h0 : finsOf T = []
  · have hT : T = [] := by cases T with
      | nil => rfl
      | cons x T => simp [finsOf] at h0
    subst hT
    refine (Try.slices_SortFunc_none (α := Fin 32) oa cap _ w).mono ?_
    rintro e w' ⟨rfl, rfl⟩
    exact ⟨rfl, by simpa [finsOf, sortS, valS] using h, grown_refl _ _⟩
  · have hc := c_SortParts oa cap base (finsOf T) w (by rw [hfl]; unfold Room; omega) h0 (by rw [hv]; exact h)
    rw [hfl] at hc
    exact hc
end Go.Proofs.Ytkanbnbofoabeaa
namespace Go.Proofs.Ytkanbnbofoabeaa
open Go.RowKit
set_option linter.unusedVariables false
set_option maxRecDepth 100000

theorem colT_succ {P T : List Int} {r : Int} {k : Nat} (h : k < P.length) : colT (P.take (k + 1)) T r = colT (P.take k) T r ++ (if inB' T (nth P k) then [(nth P k, r)] else []) := by
  unfold colT
  rw [filter_take_succ _ _ _ h, List.map_append]
  congr 1
  split <;> simp
theorem depsT_ok {N : Nat} {R : List (List Int)} {m : Int} (h : (isTabF N R && modeF m) = true) : depsTF N R m = colsT N R m N := by unfold depsTF; rw [if_pos h, Int.toNat_natCast]
set_option maxHeartbeats 3200000 in
theorem c_DepsByTransversals (n : Int) (oa) (cap : Nat) (R : List (List Int)) (m : Int) (w : World) (hR : RowsAt w oa R) (hcap : R.length ≤ cap) :
    Calls Try.prog 61 #[.agg #[.int .i64 n, .slice oa R.length cap], .int .i64 m] w fun e w' => ∃ v, e = .returned v ∧ OwnD w' w.heap.size v (depsTF n R m) ∧ Below w.heap.size w w' := by
  obtain ⟨j0, hj, hy0, hy1, hy2⟩ := info_parts info_dep
  have hb := bel2 w (.cells #[.int .i64 n, .slice oa R.length cap] 28) (.cells #[] 33)
  have a0 := two_a w #[.int .i64 n, .slice oa R.length cap] 28 #[] 33 0 _ rfl
  have a1 := two_a w #[.int .i64 n, .slice oa R.length cap] 28 #[] 33 1 _ rfl
  have hO : OwnD ((w.alloc (.cells #[.int .i64 n, .slice oa R.length cap] 28)).alloc (.cells #[] 33)) (w.heap.size + 1) (.slice (some ⟨w.heap.size + 1, 0, none⟩) 0 0) [] := by
    have h := (OwnD.empty (w.alloc (.cells #[.int .i64 n, .slice oa R.length cap] 28)) _ (Nat.le_refl _))
    simpa using h
  cases h1 : isTabF n R
  · have HM : Hid (depsTF n R m = []) := by show depsTF n R m = []; unfold depsTF; rw [h1]; rfl
    go_enter Try.func61, Try.ntmps61
    go_wp2_with (first | (go_at_call 79; refine Calls.mono (Ans.eqb (c_IsTable _ _ _ _ _ (hR.keep hb)) h1) ?_; rintro e w1 ⟨rfl, hbn⟩; replace a0 := cell_keep a0 hbn; replace a1 := cell_keep a1 hbn; replace hO := hO.keep hbn; replace hb := bel_to (w := w) (by first | exact hb | exact hb.alloc hb.size _ | exact (hb.alloc hb.size _).alloc (Nat.le_trans hb.size (by simp)) _ | exact hb.setCell (by simp [hb.size]) _) hbn; clear hbn))
    go_ret
    exact ⟨_, rfl, by rw [HM.out]; exact hO.based (Nat.le_succ _), hb⟩
  cases h2 : modeF m
  · have HM : Hid (depsTF n R m = []) := by show depsTF n R m = []; unfold depsTF; rw [h1, h2]; rfl
    go_enter Try.func61, Try.ntmps61
    go_wp2_with (first | (go_at_call 79; refine Calls.mono (Ans.eqb (c_IsTable _ _ _ _ _ (hR.keep hb)) h1) ?_; rintro e w1 ⟨rfl, hbn⟩; replace a0 := cell_keep a0 hbn; replace a1 := cell_keep a1 hbn; replace hO := hO.keep hbn; replace hb := bel_to (w := w) (by first | exact hb | exact hb.alloc hb.size _ | exact (hb.alloc hb.size _).alloc (Nat.le_trans hb.size (by simp)) _ | exact hb.setCell (by simp [hb.size]) _) hbn; clear hbn) | (go_at_call 80; refine Calls.mono (Ans.eqb (c_isMode _ _) h2) ?_; rintro e w1 ⟨rfl, hbn⟩; replace a0 := cell_keep a0 hbn; replace a1 := cell_keep a1 hbn; replace hO := hO.keep hbn; replace hb := bel_to (w := w) (by first | exact hb | exact hb.alloc hb.size _ | exact (hb.alloc hb.size _).alloc (Nat.le_trans hb.size (by simp)) _ | exact hb.setCell (by simp [hb.size]) _) hbn; clear hbn))
    go_ret
    exact ⟨_, rfl, by rw [HM.out]; exact hO.based (Nat.le_succ _), hb⟩
  obtain ⟨hn1, hn5, _, _⟩ := isTab_of h1
  obtain ⟨N, rfl⟩ := Int.eq_ofNat_of_zero_le (show 0 ≤ n by omega)
  have hN5 : N ≤ 5 := by omega
  have HM : Hid (depsTF N R m = colsT N R m N) := depsT_ok (by rw [h1, h2]; rfl)
  have HT1 : Hid (isTabF N R = true) := h1
  have hpl := partsF_len N
  have HGS : Hid (∀ k : Nat, colsT N R m (k + 1) = colsT N R m k ++ colT (partsF N) (tranR N R m k) k) := fun k => colsT_succ _ _ _ k
  have HCL : Hid (∀ k : Nat, (colsT N R m k).length ≤ 32 * k) := fun k => colsT_len _ _ _ k
  have HTR : Hid (∀ k : Nat, tranR N R m k = transF (diffF N R m k) N) := fun k => rfl
  have HDL : Hid (∀ k : Nat, (diffF N R m k).length ≤ Room) := fun k => Nat.le_trans (diff_len _ _ _ _) (by unfold Room; omega)
  have HTL : Hid (∀ k : Nat, (tranR N R m k).length ≤ 32 ∧ (∀ x ∈ tranR N R m k, St x) ∧ valS (sortS (finsOf (tranR N R m k))) = (partsF N).filter (inB' (tranR N R m k))) := fun k => by
    have hp := pow_nat (n := (N : Int)) (by omega) (by omega)
    rw [Int.toNat_natCast] at hp
    have hlow := transF_low (L := diffF N R m k) hN5
    refine ⟨transF_len32 _ _, fun x hx => ⟨(hlow x hx).1, by have := (hlow x hx).2; omega⟩, sort_filter hN5 (transF_up _ _) hlow⟩
  clear hn1 hn5
  go_enter Try.func61, Try.ntmps61
  go_wp2_with (first | (go_at_call 79; refine Calls.mono (Ans.eqb (c_IsTable _ _ _ _ _ (hR.keep hb)) h1) ?_; rintro e w1 ⟨rfl, hbn⟩; replace a0 := cell_keep a0 hbn; replace a1 := cell_keep a1 hbn; replace hO := hO.keep hbn; replace hb := bel_to (w := w) (by first | exact hb | exact hb.alloc hb.size _ | exact (hb.alloc hb.size _).alloc (Nat.le_trans hb.size (by simp)) _ | exact hb.setCell (by simp [hb.size]) _) hbn; clear hbn) | (go_at_call 80; refine Calls.mono (Ans.eqb (c_isMode _ _) h2) ?_; rintro e w1 ⟨rfl, hbn⟩; replace a0 := cell_keep a0 hbn; replace a1 := cell_keep a1 hbn; replace hO := hO.keep hbn; replace hb := bel_to (w := w) (by first | exact hb | exact hb.alloc hb.size _ | exact (hb.alloc hb.size _).alloc (Nat.le_trans hb.size (by simp)) _ | exact hb.setCell (by simp [hb.size]) _) hbn; clear hbn))
  go_loopw [5, 6] (fun v i wr => ∃ r : Nat, i = .int .i64 r ∧ r ≤ N ∧ OwnD wr (w.heap.size + 1) v (colsT N R m r) ∧ wr.cell? ⟨w.heap.size, 0, none⟩ = some (.int .i64 N) ∧ wr.cell? ⟨w.heap.size, 1, none⟩ = some (.slice oa R.length cap) ∧ Below w.heap.size w wr) (fun _ i _ => N - (intOf i).toNat)
  case atStart => exact ⟨0, rfl, Nat.zero_le _, by simpa [colsT] using hO, a0, a1, hb⟩
  case round =>
    clear hO a0 a1 hb
    obtain ⟨r, rfl, hr, hO, a0, a1, hb⟩ := hrel
    have hcl := HCL.out r
    by_cases hrt : r < N
    · have HC : Hid (colsT N R m (r + 1) = colsT N R m r ++ colT (partsF N) (tranR N R m r) r) := HGS.out r
      have hcol : Hid ((decide (0 ≤ (r : Int)) && decide ((r : Int) < (N : Int))) = true) := by show (decide (0 ≤ (r : Int)) && decide ((r : Int) < (N : Int))) = true; simp; omega
      obtain ⟨hTl, hTs', hTsort⟩ := HTL.out r
      have HTs : Hid ((∀ x ∈ tranR N R m r, St x) ∧ valS (sortS (finsOf (tranR N R m r))) = (partsF N).filter (inB' (tranR N R m r))) := ⟨hTs', hTsort⟩
      have hDl := HDL.out r
      have HTe : Hid (tranR N R m r = transF (diffF N R m r) N) := HTR.out r
      clear hTs' hTsort
      generalize colsT N R m r = A at *
      generalize tranR N R m r = T at *
      obtain ⟨oO, cO, rfl⟩ := hO.shape
      go_wp2_with fail
      go_region_held3 (fun w' => Below w.heap.size w w' ∧ OwnD w' (w.heap.size + 1) (.slice oO A.length cO) A ∧ w'.cell? ⟨w.heap.size, 0, none⟩ = some (.int .i64 N) ∧ w'.cell? ⟨w.heap.size, 1, none⟩ = some (.slice oa R.length cap))
        (first
          | (rename_i hS _ _; exact ⟨bel_to hS.1 hbn, hS.2.1.keep hbn, cell_keep hS.2.2.1 hbn, cell_keep hS.2.2.2 hbn⟩)
          | exact ⟨hb.drew, hO.keep (Below.refl _ _).drew, cell_keep a0 (Below.refl _ _).drew, cell_keep a1 (Below.refl _ _).drew⟩)
        (first
          | (go_at_call 115; rename_i hS _ _; refine (c_DifferenceSets N _ _ R m r _ (hR.keep hS.1) hcap HT1.out hcol.out).mono ?_; rintro e wz ⟨v1, rfl, hD, hbn⟩; obtain ⟨oD, cD, rfl⟩ := hD.shape)
          | (go_at_call 114; rename_i hS _ _; refine (c_Transversals _ _ _ N _ (hD.ints rfl hDl)).mono ?_; rintro e wz ⟨v2, rfl, hT, hbn⟩; have ap_OT := apart_old hS.2.1 hT; replace hT := hT.based (show w.heap.size + 1 ≤ _ from World.block_lt_of_cell? _ _ hS.2.2.1))
          | fail)
      rename_i hS
      replace hb := hS.1
      replace hO := hS.2.1
      replace a0 := hS.2.2.1
      replace a1 := hS.2.2.2
      clear hS hbn hD
      rw [← HTe.out] at hT
      obtain ⟨oT, cT, rfl⟩ := hT.shape
      go_wp2_with fail
      refine (c_SortAny _ _ _ T _ hTl HTs.out.1 hT).mono ?_
      rintro e w3 ⟨rfl, hF, hg⟩
      rw [HTs.out.2] at hF
      replace hO := OwnD.far hO hg ap_OT
      replace a0 := cell_gr a0 hT (Nat.lt_succ_self _) hg
      replace a1 := cell_gr a1 hT (Nat.lt_succ_self _) hg
      replace hb := hb.grown hg hb.size (fun g hk => Nat.le_of_succ_le (World.ownsRow.lt hT g hk).1)
      clear hg hT
      have HCF : Hid (colT (partsF N) T r = ((partsF N).filter (inB' T)).map fun x => (x, (r : Int))) := rfl
      have hFl : ((partsF N).filter (inB' T)).length = T.length := by
        obtain ⟨o9, c9, e9⟩ := hF.shape
        simp only [Value.slice.injEq] at e9
        exact e9.2.1.symm
      generalize (partsF N).filter (inB' T) = F at *
      have hFr : F.length ≤ 32 := by omega
      rw [← hFl] at hF
      rw [← hFl] at ap_OT
      rw [← hFl]
      have HFL : Hid (F.length = T.length) := hFl
      clear hFl
      have hFR : F.length ≤ Room := by unfold Room; omega
      go_wp2
      go_loopw [5, 37] (fun v i wr => ∃ k : Nat, i = .int .i64 k ∧ k ≤ F.length ∧ OwnD wr (w.heap.size + 1) v (A ++ (F.take k).map fun x => (x, (r : Int))) ∧ OwnI wr (w.heap.size + 1) (.slice oT F.length cT) F ∧ Apart (.slice oT F.length cT) v ∧ wr.cell? ⟨w.heap.size, 0, none⟩ = some (.int .i64 N) ∧ wr.cell? ⟨w.heap.size, 1, none⟩ = some (.slice oa R.length cap) ∧ Below w.heap.size w wr) (fun _ i _ => F.length - (intOf i).toNat)
      case atStart => exact ⟨0, rfl, Nat.zero_le _, by simpa using hO, hF, ap_OT.symm, a0, a1, hb⟩
      case round =>
        clear hO hF ap_OT a0 a1 hb
        obtain ⟨k, rfl, hk, hO, hF, ap_FO, a0, a1, hb⟩ := hrel
        by_cases hlk : k < F.length
        · obtain ⟨b2, off2, rfl, hbs2, hca⟩ := (hF.ints rfl hFR).at_ (by omega)
          have hc2 := hca k hlk
          have hOl : (A ++ (F.take k).map fun x => (x, (r : Int))).length ≤ 300 := by
            rw [List.length_append, List.length_map, List.length_take]
            omega
          have HOs : Hid (A ++ ((F.take (k + 1)).map fun x => (x, (r : Int))) = (A ++ (F.take k).map fun x => (x, (r : Int))) ++ [(nth F k, (r : Int))]) := by
            show A ++ ((F.take (k + 1)).map fun x => (x, (r : Int))) = _
            rw [List.take_add_one, nth_eq hlk]; simp
          clear hca
          generalize nth F k = x at *
          generalize (A ++ (F.take k).map fun x => (x, (r : Int))) = C at *
          go_wp2_with (first | (at_builtin; refine wpList_append_fresh rfl _ _ 31 rfl (w.heap.size + 1) 33 j0 (.agg #[.int .i64 0, .int .i64 0]) 2 16 Try.underlying31 hj hy0 hy1 hy2 rfl (by decide) _ _ _ rfl (World.ownsRow.alloc hO _) _ 1 1 [.int .i64 x, .int .i64 (r : Int)] rfl rfl (World.news_of_block (cs := #[.int .i64 x, .int .i64 (r : Int)]) (t := 33) (fr := (0, 0)) (heap_alloc_new _ _)) (by intro u hu; simp at hu; rcases hu with rfl | rfl <;> rfl) (by unfold maxLen; omega) (by omega) (by have := World.block_lt_of_cell? _ _ a1; simp at this; simp; omega) ?_; intro v' w4 hown hgrow hfr; replace hb := (hb.alloc hb.size _).grown hgrow (by have := hb.size; simp; omega) (fun g hg => Nat.le_trans (Nat.le_succ _) (World.ownsRow.lt hO g hg).1); replace a0 := cell_gr (cell_al a0 _) (World.ownsRow.alloc hO _) (by omega) hgrow; replace a1 := cell_gr (cell_al a1 _) (World.ownsRow.alloc hO _) (by omega) hgrow; obtain ⟨hF, ap_FO⟩ := OwnI.past hF hgrow ap_FO hfr; replace hO := own_snocD hown; clear hown hgrow hfr) | fail)
          go_roundw
          case rel => exact ⟨k + 1, by go_num, by omega, by rw [HOs.out]; exact hO, hF, ap_FO, a0, a1, hb⟩
          case measure => simp [intOf]; omega
        · have hkk : k = F.length := by omega
          have HE2 : Hid (colsT N R m (r + 1) = A ++ (F.take k).map fun x => (x, (r : Int))) := by show colsT N R m (r + 1) = _; rw [HC.out, HCF.out, hkk, List.take_length]
          clear hkk
          go_wp2
          go_roundw
          case rel => exact ⟨r + 1, by go_num, by omega, by rw [HE2.out]; exact hO, a0, a1, hb⟩
          case measure => simp [intOf]; omega
    · have hrr : r = N := by omega
      have HE : Hid (colsT N R m r = depsTF N R m) := by show colsT N R m r = _; rw [HM.out, hrr]
      clear hrr
      go_wp2
      go_ret
      exact ⟨_, rfl, by rw [← HE.out]; exact hO.based (Nat.le_succ _), hb⟩
set_option maxHeartbeats 3200000 in
theorem c_specDepsByTransversals (n : Int) (oa) (cap : Nat) (R : List (List Int)) (m : Int) (w : World) (hR : RowsAt w oa R) :
    Calls Try.prog 60 #[.agg #[.int .i64 n, .slice oa R.length cap], .int .i64 m] w fun e w' => ∃ v, e = .returned v ∧ OwnD w' w.heap.size v (depsTF n R m) ∧ Below w.heap.size w w' := by
  obtain ⟨j0, hj, hy0, hy1, hy2⟩ := info_parts info_dep
  have hb := bel2 w (.cells #[.int .i64 n, .slice oa R.length cap] 28) (.cells #[] 33)
  have a0 := two_a w #[.int .i64 n, .slice oa R.length cap] 28 #[] 33 0 _ rfl
  have a1 := two_a w #[.int .i64 n, .slice oa R.length cap] 28 #[] 33 1 _ rfl
  have hO : OwnD ((w.alloc (.cells #[.int .i64 n, .slice oa R.length cap] 28)).alloc (.cells #[] 33)) (w.heap.size + 1) (.slice (some ⟨w.heap.size + 1, 0, none⟩) 0 0) [] := by
    have h := (OwnD.empty (w.alloc (.cells #[.int .i64 n, .slice oa R.length cap] 28)) _ (Nat.le_refl _))
    simpa using h
  cases hf : (isTabF n R && modeF m)
  · have HM : Hid (depsTF n R m = []) := by show depsTF n R m = []; unfold depsTF; rw [hf]; rfl
    go_enter Try.func60, Try.ntmps60
    go_wp2_with (first | (go_at_call 75; refine Calls.mono (Ans.eqb (c_l4Fine _ _ _ _ _ _ (hR.keep hb)) hf) ?_; rintro e w1 ⟨rfl, hbn⟩; replace a0 := cell_keep a0 hbn; replace a1 := cell_keep a1 hbn; replace hO := hO.keep hbn; replace hb := bel_to (w := w) (by first | exact hb | exact hb.alloc hb.size _ | exact (hb.alloc hb.size _).alloc (Nat.le_trans hb.size (by simp)) _ | exact hb.setCell (by simp [hb.size]) _) hbn; clear hbn))
    go_ret
    exact ⟨_, rfl, by rw [HM.out]; exact hO.based (Nat.le_succ _), hb⟩
  have ht : isTabF n R = true := by have := hf; simp only [Bool.and_eq_true] at this; exact this.1
  obtain ⟨hn1, hn5, _, _⟩ := isTab_of ht
  obtain ⟨N, rfl⟩ := Int.eq_ofNat_of_zero_le (show 0 ≤ n by omega)
  have hN5 : N ≤ 5 := by omega
  have HM : Hid (depsTF N R m = colsT N R m N) := depsT_ok hf
  have HT1 : Hid (isTabF N R = true) := ht
  have hpl := partsF_len N
  have HGS : Hid (∀ k : Nat, colsT N R m (k + 1) = colsT N R m k ++ colT (partsF N) (tranR N R m k) k) := fun k => colsT_succ _ _ _ k
  have HCL : Hid (∀ k : Nat, (colsT N R m k).length ≤ 32 * k) := fun k => colsT_len _ _ _ k
  have HTR : Hid (∀ k : Nat, tranR N R m k = transF (diffF N R m k) N) := fun k => rfl
  have HDL : Hid (∀ k : Nat, (diffF N R m k).length ≤ Room) := fun k => Nat.le_trans (diff_len _ _ _ _) (by unfold Room; omega)
  have HTL : Hid (∀ k : Nat, (tranR N R m k).length ≤ Room) := fun k => Nat.le_trans (transF_len32 _ _) (by unfold Room; omega)
  clear ht hn1 hn5
  go_enter Try.func60, Try.ntmps60
  go_wp2_with (first | (go_at_call 75; refine Calls.mono (Ans.eqb (c_l4Fine _ _ _ _ _ _ (hR.keep hb)) hf) ?_; rintro e w1 ⟨rfl, hbn⟩; replace a0 := cell_keep a0 hbn; replace a1 := cell_keep a1 hbn; replace hO := hO.keep hbn; replace hb := bel_to (w := w) (by first | exact hb | exact hb.alloc hb.size _ | exact (hb.alloc hb.size _).alloc (Nat.le_trans hb.size (by simp)) _ | exact hb.setCell (by simp [hb.size]) _) hbn; clear hbn))
  have old := hO
  refine (c_specPartsBySize (N : Int) _).mono ?_
  rintro e w2 ⟨v2, rfl, hP, hbn⟩
  have ap_PO := (apart_old old hP).symm
  replace hO := hO.keep hbn
  replace hP := hP.based (World.block_lt_of_cell? _ _ a1)
  replace a0 := cell_keep a0 hbn
  replace a1 := cell_keep a1 hbn
  replace hb := bel_to hb hbn
  clear old hbn
  generalize partsF N = P at *
  obtain ⟨o1, c1, rfl⟩ := hP.shape
  have hPr : P.length ≤ Room := by unfold Room; omega
  go_wp2
  go_loopw [5, 7] (fun v i wr => ∃ r : Nat, i = .int .i64 r ∧ r ≤ N ∧ OwnD wr (w.heap.size + 1) v (colsT N R m r) ∧ OwnI wr (w.heap.size + 1) (.slice o1 P.length c1) P ∧ Apart (.slice o1 P.length c1) v ∧ wr.cell? ⟨w.heap.size, 0, none⟩ = some (.int .i64 N) ∧ wr.cell? ⟨w.heap.size, 1, none⟩ = some (.slice oa R.length cap) ∧ Below w.heap.size w wr) (fun _ i _ => N - (intOf i).toNat)
  case atStart => exact ⟨0, rfl, Nat.zero_le _, by simpa [colsT] using hO, hP, ap_PO, a0, a1, hb⟩
  case round =>
    clear hO hP ap_PO a0 a1 hb
    obtain ⟨r, rfl, hr, hO, hP, ap_PO, a0, a1, hb⟩ := hrel
    have hcl := HCL.out r
    by_cases hrt : r < N
    · have HC : Hid (colsT N R m (r + 1) = colsT N R m r ++ colT P (tranR N R m r) r) := HGS.out r
      have hcol : Hid (0 ≤ (r : Int) ∧ (r : Int) < (N : Int)) := ⟨by omega, by omega⟩
      have hTl := HTL.out r
      have hDl := HDL.out r
      have HTe : Hid (tranR N R m r = transF (diffF N R m r) N) := HTR.out r
      generalize colsT N R m r = A at *
      generalize tranR N R m r = L at *
      obtain ⟨oO, cO, rfl⟩ := hO.shape
      go_wp2_with fail
      go_region_held3 (fun w' => Below w.heap.size w w' ∧ OwnD w' (w.heap.size + 1) (.slice oO A.length cO) A ∧ OwnI w' (w.heap.size + 1) (.slice o1 P.length c1) P ∧ w'.cell? ⟨w.heap.size, 0, none⟩ = some (.int .i64 N) ∧ w'.cell? ⟨w.heap.size, 1, none⟩ = some (.slice oa R.length cap))
        (first
          | (rename_i hS _ _; exact ⟨bel_to hS.1 hbn, hS.2.1.keep hbn, hS.2.2.1.keep hbn, cell_keep hS.2.2.2.1 hbn, cell_keep hS.2.2.2.2 hbn⟩)
          | exact ⟨hb.drew, hO.keep (Below.refl _ _).drew, hP.keep (Below.refl _ _).drew, cell_keep a0 (Below.refl _ _).drew, cell_keep a1 (Below.refl _ _).drew⟩)
        (first
          | (go_at_call 113; rename_i hS _ _; refine (c_specDifferenceSets N _ _ R m r _ (hR.keep hS.1) HT1.out hcol.out).mono ?_; rintro e wz ⟨v1, rfl, hD, hbn⟩; obtain ⟨oD, cD, rfl⟩ := hD.shape)
          | (go_at_call 112; rename_i hS _ _; refine (c_specTransversals _ _ _ N _ (hD.ints rfl hDl)).mono ?_; rintro e wz ⟨v2, rfl, hL, hbn⟩; have ap_OL := apart_old hS.2.1 hL; replace hL := hL.based (show w.heap.size + 1 ≤ _ from World.block_lt_of_cell? _ _ hS.2.2.2.1))
          | fail)
      rename_i hS
      replace hb := hS.1
      replace hO := hS.2.1
      replace hP := hS.2.2.1
      replace a0 := hS.2.2.2.1
      replace a1 := hS.2.2.2.2
      clear hS hbn hD
      rw [← HTe.out] at hL
      obtain ⟨oL, cL, rfl⟩ := hL.shape
      go_wp2
      go_loopw [5, 9] (fun v i wr => ∃ k : Nat, i = .int .i64 k ∧ k ≤ P.length ∧ OwnD wr (w.heap.size + 1) v (A ++ colT (P.take k) L r) ∧ OwnI wr (w.heap.size + 1) (.slice oL L.length cL) L ∧ OwnI wr (w.heap.size + 1) (.slice o1 P.length c1) P ∧ Apart (.slice o1 P.length c1) v ∧ Apart (.slice oL L.length cL) v ∧ wr.cell? ⟨w.heap.size, 0, none⟩ = some (.int .i64 N) ∧ wr.cell? ⟨w.heap.size, 1, none⟩ = some (.slice oa R.length cap) ∧ Below w.heap.size w wr) (fun _ i _ => P.length - (intOf i).toNat)
      case atStart => exact ⟨0, rfl, Nat.zero_le _, by simpa [colT] using hO, hL, hP, ap_PO, ap_OL.symm, a0, a1, hb⟩
      case round =>
        clear hO hP hL ap_PO ap_OL a0 a1 hb
        obtain ⟨k, rfl, hk, hO, hL, hP, ap_PO, ap_LO, a0, a1, hb⟩ := hrel
        by_cases hlk : k < P.length
        · obtain ⟨b2, off2, rfl, hbs2, hca⟩ := (hP.ints rfl hPr).at_ (by omega)
          have hc2 := hca k hlk
          have hOl : (A ++ colT (P.take k) L r).length ≤ 300 := by
            have h := colT_len (P.take k) L r
            rw [List.length_take] at h
            rw [List.length_append]
            omega
          have HOs : Hid (A ++ colT (P.take (k + 1)) L r = (A ++ colT (P.take k) L r) ++ (if inB' L (nth P k) then [(nth P k, (r : Int))] else [])) := by
            show A ++ colT (P.take (k + 1)) L r = _
            rw [colT_succ hlk, List.append_assoc]
          clear hca
          generalize nth P k = x at *
          generalize A ++ colT (P.take k) L r = C at *
          cases h1 : inB' L x
          · go_wp2_with (first | (go_at_call 104; refine Calls.mono (Ans.eqb (c_l2Has _ _ _ _ _ (hL.ints rfl hTl)) h1) ?_; rintro e w1 ⟨rfl, hbn⟩; replace a0 := cell_keep a0 hbn; replace a1 := cell_keep a1 hbn; replace hc2 := cell_keep hc2 hbn; replace hO := hO.keep hbn; replace hP := hP.keep hbn; replace hL := hL.keep hbn; replace hb := bel_to (w := w) (by first | exact hb | exact hb.alloc hb.size _ | exact (hb.alloc hb.size _).alloc (Nat.le_trans hb.size (by simp)) _ | exact hb.setCell (by simp [hb.size]) _) hbn; clear hbn) | fail)
            go_roundw
            case rel => exact ⟨k + 1, by go_num, by omega, by rw [HOs.out, h1]; simpa using hO, hL, hP, ap_PO, ap_LO, a0, a1, hb⟩
            case measure => simp [intOf]; omega
          · go_wp2_with (first | (go_at_call 104; refine Calls.mono (Ans.eqb (c_l2Has _ _ _ _ _ (hL.ints rfl hTl)) h1) ?_; rintro e w1 ⟨rfl, hbn⟩; replace a0 := cell_keep a0 hbn; replace a1 := cell_keep a1 hbn; replace hc2 := cell_keep hc2 hbn; replace hO := hO.keep hbn; replace hP := hP.keep hbn; replace hL := hL.keep hbn; replace hb := bel_to (w := w) (by first | exact hb | exact hb.alloc hb.size _ | exact (hb.alloc hb.size _).alloc (Nat.le_trans hb.size (by simp)) _ | exact hb.setCell (by simp [hb.size]) _) hbn; clear hbn) | (at_builtin; refine wpList_append_fresh rfl _ _ 31 rfl (w.heap.size + 1) 33 j0 (.agg #[.int .i64 0, .int .i64 0]) 2 16 Try.underlying31 hj hy0 hy1 hy2 rfl (by decide) _ _ _ rfl (World.ownsRow.alloc hO _) _ 1 1 [.int .i64 x, .int .i64 (r : Int)] rfl rfl (World.news_of_block (cs := #[.int .i64 x, .int .i64 (r : Int)]) (t := 33) (fr := (0, 0)) (heap_alloc_new _ _)) (by intro u hu; simp at hu; rcases hu with rfl | rfl <;> rfl) (by unfold maxLen; omega) (by omega) (by have := World.block_lt_of_cell? _ _ a1; simp at this; simp; omega) ?_; intro v' w4 hown hgrow hfr; replace hb := (hb.alloc hb.size _).grown hgrow (by have := hb.size; simp; omega) (fun g hg => Nat.le_trans (Nat.le_succ _) (World.ownsRow.lt hO g hg).1); replace a0 := cell_gr (cell_al a0 _) (World.ownsRow.alloc hO _) (by omega) hgrow; replace a1 := cell_gr (cell_al a1 _) (World.ownsRow.alloc hO _) (by omega) hgrow; obtain ⟨hP, ap_PO⟩ := OwnI.past hP hgrow ap_PO hfr; obtain ⟨hL, ap_LO⟩ := OwnI.past hL hgrow ap_LO hfr; replace hO := own_snocD hown; clear hown hgrow hfr) | fail)
            go_roundw
            case rel => exact ⟨k + 1, by go_num, by omega, by rw [HOs.out, h1]; exact hO, hL, hP, ap_PO, ap_LO, a0, a1, hb⟩
            case measure => simp [intOf]; omega
        · have hkk : k = P.length := by omega
          have HE2 : Hid (colsT N R m (r + 1) = A ++ colT (P.take k) L r) := by show colsT N R m (r + 1) = _; rw [HC.out, hkk, List.take_length]
          clear hkk
          go_wp2
          go_roundw
          case rel => exact ⟨r + 1, by go_num, by omega, by rw [HE2.out]; exact hO, hP, ap_PO, a0, a1, hb⟩
          case measure => simp [intOf]; omega
    · have hrr : r = N := by omega
      have HE : Hid (colsT N R m r = depsTF N R m) := by show colsT N R m r = _; rw [HM.out, hrr]
      clear hrr
      go_wp2
      go_ret
      exact ⟨_, rfl, by rw [← HE.out]; exact hO.based (Nat.le_succ _), hb⟩
end Go.Proofs.Ytkanbnbofoabeaa
namespace Go.Proofs.Ytkanbnbofoabeaa
open Go.RowKit
set_option linter.unusedVariables false
set_option maxRecDepth 100000

theorem c_eqIntSS (oa ob) (ca cb : Nat) (R : List (List Int)) (w : World) (hA : RowsAt w oa R) (hB : RowsAt w ob R) :
    Ans Try.prog 71 #[.slice oa R.length ca, .slice ob R.length cb] w (.bool true) := by
  unfold Ans
  have hn : R.length ≤ 1073741824 := hA.len
  have hne : ((R.length : Int) != R.length) = false := by simp
  go_enter Try.func71, Try.ntmps71
  go_wp2
  go_loopw [5] (fun i wr => ∃ k : Nat, i = .int .i64 k ∧ k ≤ R.length ∧ Below w.heap.size w wr) (fun i _ => R.length - (intOf i).toNat)
  case atStart => exact ⟨0, rfl, Nat.zero_le _, Below.refl _ _⟩
  case round =>
    obtain ⟨k, rfl, hk, hb⟩ := hrel
    by_cases hlt : k < R.length
    · obtain ⟨b1, off1, rfl, hbs1, hca⟩ := hA.at_ (by omega)
      obtain ⟨b2, off2, rfl, hbs2, hcb⟩ := hB.at_ (by omega)
      obtain ⟨o1, c1, h1, hr1⟩ := hca k hlt
      obtain ⟨o2, c2, h2, hr2⟩ := hcb k hlt
      have hc1 := cell_keep h1 hb
      have hc2 := cell_keep h2 hb
      have hx1 := fun (x : After wr) => (hr1.keep hb).keep x.bel
      have hx2 := fun (x : After wr) => (hr2.keep hb).keep x.bel
      clear hca hcb h1 h2 hr1 hr2
      go_wp2_with fail
      (refine wp_region_after (by kernel_rfl) (by kernel_rfl) ?_; have q_hc1 := fun (x : After _) => cell_keep hc1 x.bel; have q_hc2 := fun (x : After _) => cell_keep hc2 x.bel; (repeat (go_big_quiet_step ((first | (go_at_call 57; exact Ans.after (Ans.eqb (b' := true) (c_eqIntS _ _ _ _ _ _ _ (hx1 _) (hx2 _)) (by simp))))))); clear q_hc1; clear q_hc2; refine wpQuiet_nil ?_; rintro _ ⟨⟨w1, hbn⟩, rfl⟩; (try simp only [After.w]); replace hc1 := cell_keep hc1 hbn; replace hc2 := cell_keep hc2 hbn; replace hb := bel_to (w := w) (by first | exact hb | exact hb.alloc hb.size _ | exact (hb.alloc hb.size _).alloc (Nat.le_trans hb.size (by simp)) _ | exact hb.setCell (by simp [hb.size]) _) hbn; clear hbn)
      go_wp2
      go_roundw
      case rel => exact ⟨k + 1, by go_num, by omega, hb⟩
      case measure => simp [intOf]; omega
    · go_wp2
      go_ret
      exact ⟨rfl, hb⟩

def tabV (n : Int) (o : Option Addr) (l c : Nat) : Value := .agg #[.int .i64 n, .slice o l c]
theorem c_szTable (n : Int) (oa) (l cap : Nat) (Ln : Nat → Nat) (w : World) (h : RowsIn w oa l Ln) :
    Calls Try.prog 26 #[.agg #[.int .i64 n, .slice oa l cap], .int .i64 1048576] w fun e w' => (∃ x : Int, e = .returned (.int .i64 x) ∧ (x = -1 ∨ (0 ≤ x ∧ x ≤ 1048576 ∧ l ≤ 1048576 ∧ ∀ r, r < l → Ln r ≤ 1048576))) ∧ Below w.heap.size w w' := by
  have hb := (Below.refl w.heap.size w).alloc (Nat.le_refl _) (.cells #[.int .i64 n, .slice oa l cap] 40)
  have h2 : RowsIn (w.alloc (.cells #[.int .i64 n, .slice oa l cap] 40)) oa l Ln := ⟨h.len, fun h0 => by
    obtain ⟨b, off, e, hlt, hr⟩ := h.rows h0
    have hk := (Below.refl w.heap.size w).alloc (Nat.le_refl _) (.cells #[.int .i64 n, .slice oa l cap] 40)
    exact ⟨b, off, e, Nat.lt_of_lt_of_le hlt hk.size, fun r hrl => by
      obtain ⟨m, o, c, h1, h2⟩ := hr r hrl
      exact ⟨m, o, c, cell_keep h1 hk, fun hq => by
        obtain ⟨L, e1, e2⟩ := h2 hq
        exact ⟨L, e1, e2.keep hk⟩⟩⟩⟩
  go_enter Try.func26, Try.ntmps26
  go_wp2_with fail
  refine (c_szIntSS _ _ _ _ _ h2).mono ?_
  rintro e w1 ⟨⟨x, rfl, hx⟩, hbn⟩
  replace hb := bel_to hb hbn
  clear hbn
  rcases hx with rfl | ⟨h0, h1, h3, h4⟩
  · go_wp2
    go_ret
    exact ⟨⟨_, rfl, .inl rfl⟩, hb⟩
  · go_wp2
    go_ret
    exact ⟨⟨_, rfl, .inr ⟨h0, h1, h3, h4⟩⟩, hb⟩
theorem c_eqTable (n : Int) (oa ob) (ca cb : Nat) (R : List (List Int)) (w : World) (hA : RowsAt w oa R) (hB : RowsAt w ob R) :
    Ans Try.prog 21 #[.agg #[.int .i64 n, .slice oa R.length ca], .agg #[.int .i64 n, .slice ob R.length cb]] w (.bool true) := by
  unfold Ans
  have hne : (n != n) = false := by simp
  have hb := ((Below.refl w.heap.size w).alloc (Nat.le_refl _) (.cells #[.int .i64 n, .slice oa R.length ca] 28)).alloc (by simp) (.cells #[.int .i64 n, .slice ob R.length cb] 28)
  go_enter Try.func21, Try.ntmps21
  go_wp2_with (first | (go_at_call 71; refine Calls.mono (c_eqIntSS _ _ _ _ _ _ (hA.keep hb) (hB.keep hb)) ?_; rintro e w1 ⟨rfl, hbn⟩; replace hb := bel_to (w := w) (by first | exact hb | exact hb.alloc hb.size _ | exact (hb.alloc hb.size _).alloc (Nat.le_trans hb.size (by simp)) _ | exact hb.setCell (by simp [hb.size]) _) hbn; clear hbn))
  go_ret
  exact ⟨rfl, hb⟩
theorem c_toTable (n : Int) (oa) (ca : Nat) (R : List (List Int)) (w : World) (hR : RowsAt w oa R) :
    Calls Try.prog 28 #[.agg #[.int .i64 n, .slice oa R.length ca]] w fun e w' => ∃ o c, e = .returned (.agg #[.int .i64 n, .slice o R.length c]) ∧ RowsAt w' o R ∧ Below w.heap.size w w' := by
  have hb0 := ((((Below.refl w.heap.size w).alloc (Nat.le_refl _) (.cells #[.int .i64 n, .slice oa R.length ca] 40)).alloc (by simp) (.cells #[.int .i64 0, .slice none 0 0] 28)).alloc (by simp; omega) (.cells #[.int .i64 n, .slice none 0 0] 28))
  go_enter Try.func28, Try.ntmps28
  go_wp2_with fail
  refine (c_toIntSS _ _ _ _ (hR.keep hb0)).mono ?_
  rintro e w1 ⟨o, c, rfl, hN, hbn⟩
  have k1 : Blk w1 (w.heap.size + 1) #[.int .i64 0, .slice none 0 0] 28 := by
    have := (Blk.new (w.alloc (.cells #[.int .i64 n, .slice oa R.length ca] 40)) #[.int .i64 0, .slice none 0 0] 28).alloc (.cells #[.int .i64 n, .slice none 0 0] 28)
    simp only [World.size_alloc] at this
    exact this.keep hbn
  have k2 : Blk w1 (w.heap.size + 1 + 1) #[.int .i64 n, .slice none 0 0] 28 := by
    have := Blk.new ((w.alloc (.cells #[.int .i64 n, .slice oa R.length ca] 40)).alloc (.cells #[.int .i64 0, .slice none 0 0] 28)) #[.int .i64 n, .slice none 0 0] 28
    simp only [World.size_alloc] at this
    exact this.keep hbn
  have a10 := k1.cell 0 _ rfl
  have a11 := k1.cell 1 _ rfl
  have f10 := k1.free 0
  have f11 := k1.free 1
  have a20 := k2.cell 0 _ rfl
  have a21 := k2.cell 1 _ rfl
  have f20 := k2.free 0
  have f21 := k2.free 1
  replace hb0 := bel_to hb0 hbn
  clear hbn k1 k2
  go_wp2
  exact bodyPost_ret (v := .agg #[.int .i64 n, .slice o R.length c]) (by simp [results, Try.results28, go_sem, a10, a11, a20, a21]) rfl
    ⟨o, c, rfl, (((hN.far 1 _ (by simp)).far 0 _ (by simp)).far 1 _ (by simp)).rows, Below.setCell (Below.setCell (Below.setCell hb0 (by simp; omega) _) (by simp) _) (by simp) _⟩
end Go.Proofs.Ytkanbnbofoabeaa
