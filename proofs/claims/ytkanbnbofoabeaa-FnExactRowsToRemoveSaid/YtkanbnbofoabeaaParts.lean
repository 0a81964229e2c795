/- PartsBySize, of the program. -/
import Derived.Test.YtkanbnbofoabeaaMin4
namespace Go.Proofs.Ytkanbnbofoabeaa
open Go.RowKit Go.Shelf Go.Lib Go.Sort
set_option linter.unusedVariables false
set_option maxRecDepth 100000

def pcN (x : Nat) : Nat := ((List.range 5).filter fun c => x.testBit c).length
def cfN (x y : Nat) : Int := if (pcN x : Int) = pcN y then (x : Int) - y else (pcN x : Int) - pcN y
theorem pcN_le (x : Nat) : pcN x ≤ 5 := by
  have := List.length_filter_le (fun c => x.testBit c) (List.range 5)
  simpa [pcN] using this
theorem u64_small : ∀ x < 32, IntKind.u64.wrap ((x : Nat) : Int) = ((x : Nat) : Int) := by decide +kernel
theorem c_OnesCount64 (x : Nat) (hx : x < 32) (w : World) : Calls Try.prog 172 #[.int .u64 x] w fun e w' => e = .returned (.int .i64 (pcN x)) ∧ w' = w := by
  go_enter Try.func172, Try.ntmps172
  go_wp2
  go_ret
  refine ⟨ret_int ?_, rfl⟩
  clear w
  revert x
  decide +kernel
theorem c_OnesCount (x : Nat) (hx : x < 32) (w : World) : Calls Try.prog 150 #[.int .u64 x] w fun e w' => e = .returned (.int .i64 (pcN x)) ∧ w' = w := by
  go_enter Try.func150, Try.ntmps150
  go_wp2_with (first | (go_at_call 172; refine (c_OnesCount64 x hx _).mono ?_; rintro e w' ⟨rfl, rfl⟩))
  go_ret
  exact ⟨rfl, rfl⟩
theorem c_compareSets (x y : Nat) (hx : x < 32) (hy : y < 32) (w : World) : Calls Try.prog 117 #[.int .i64 x, .int .i64 y] w fun e w' => e = .returned (.int .i64 (cfN x y)) ∧ w' = w := by
  have hwx := u64_small x hx
  have hwy := u64_small y hy
  have px := pcN_le x
  have py := pcN_le y
  by_cases h : (pcN x : Int) = pcN y
  · have hc : cfN x y = (x : Int) - y := by unfold cfN; rw [if_pos h]
    have hne : ((pcN x : Int) != pcN y) = false := by simp [h]
    rw [hc]
    have HH : Hid ((pcN x : Int) = pcN y) := h
    clear h hc
    have hq : True := trivial
    go_enter Try.func117, Try.ntmps117
    go_wp2_with (first | (clear hq; go_at_call 150; refine (c_OnesCount x hx _).mono ?_; rintro e w' ⟨rfl, rfl⟩) | (go_at_call 150; refine (c_OnesCount y hy _).mono ?_; rintro e w' ⟨rfl, rfl⟩))
    go_ret
    exact ⟨rfl, rfl⟩
  · have hc : cfN x y = (pcN x : Int) - pcN y := by unfold cfN; rw [if_neg h]
    have hne : ((pcN x : Int) != pcN y) = true := by simp; omega
    rw [hc]
    clear h hc
    have hq : True := trivial
    go_enter Try.func117, Try.ntmps117
    go_wp2_with (first | (clear hq; go_at_call 150; refine (c_OnesCount x hx _).mono ?_; rintro e w' ⟨rfl, rfl⟩) | (go_at_call 150; refine (c_OnesCount y hy _).mono ?_; rintro e w' ⟨rfl, rfl⟩))
    go_ret
    exact ⟨rfl, rfl⟩

def fvS (x : Fin 32) : Value := .int .i64 (x.val : Int)
def cfS (x y : Fin 32) : Int := cfN x.val y.val
theorem ltS (x y : Fin 32) : ltOf cfS x y = decide (pcN x.val < pcN y.val ∨ (pcN x.val = pcN y.val ∧ x.val < y.val)) := by
  unfold ltOf cfS cfN
  rw [decide_eq_decide]
  split
  · next h => constructor <;> intro h' <;> omega
  · next h => constructor <;> intro h' <;> omega
theorem swoS : SWO (ltOf cfS) where
  irrefl x := by rw [ltS]; simp
  trans x y z h1 h2 := by rw [ltS] at *; simp only [decide_eq_true_eq] at *; omega
  ntrans x y z h1 h2 := by rw [ltS] at *; simp only [decide_eq_false_iff_not] at *; omega
theorem totS (x y : Fin 32) (h1 : ltOf cfS x y = false) (h2 : ltOf cfS y x = false) : x = y := by
  rw [ltS] at *
  simp only [decide_eq_false_iff_not] at *
  exact Fin.ext (by omega)
def sortS (L : List (Fin 32)) : List (Fin 32) := L.mergeSort fun x y => !(ltOf cfS) y x
def valS (L : List (Fin 32)) : List Int := L.map fun x => (x.val : Int)
theorem cmpS (blk off size : Nat) (w : World) : CmpLays1 Try.prog 117 #[] fvS cfS blk off size w :=
  fun m os dk hs x y => (c_compareSets x.val y.val x.isLt y.isLt _).mono fun e w' ⟨he, hw⟩ => ⟨he, 0, #[], by rw [hw, grow_empty]; rfl⟩
theorem putRow_fin (w : World) (g : Nat) (L : List (Fin 32)) : putRow fvS w g 0 L.toArray = putRow (Value.int .i64) w g 0 (valS L).toArray := by
  unfold putRow
  congr 1
  funext c
  unfold putCells valS
  congr 1
  funext k x
  by_cases h : k < L.length
  · rw [if_pos (by simp; omega), if_pos (by simp; omega), getElem!_pos _ _ (by simp; omega), getElem!_pos _ _ (by simp; omega)]
    simp [fvS]
  · rw [if_neg (by simp; omega), if_neg (by simp; omega)]
theorem c_SortParts (oa) (cap base : Nat) (L : List (Fin 32)) (w : World) (hL : L.length ≤ Room) (h0 : L ≠ []) (h : OwnI w base (.slice oa (valS L).length cap) (valS L)) :
    Calls Try.prog 116 #[.slice oa L.length cap, .func (.func 117) #[] #[]] w fun e w' => e = .returned (.tuple #[]) ∧ OwnI w' base (.slice oa L.length cap) (valS (sortS L)) ∧ w.grownBy w' (Value.slice oa L.length cap).ownBlock := by
  have hl : (valS L).length = L.length := by simp [valS]
  have hs : (valS (sortS L)).length = (valS L).length := by simp [valS, sortS, List.length_mergeSort]
  unfold Room at hL
  rcases h.2 with ⟨hv, hn⟩ | ⟨g, c, cur, hv, hbase, hb, h1, h2, h3, h4⟩
  · exact absurd (List.eq_nil_of_length_eq_zero (by omega)) h0
  · simp only [Value.slice.injEq] at hv
    obtain ⟨rfl, _, rfl⟩ := hv
    have hg : g < w.heap.size := (Array.getElem?_eq_some_iff.1 hb).1
    have hH : Holds fvS w g 0 L.toArray := by
      intro j hj
      have hj : j < L.length := by simpa using hj
      have hc := h.cell rfl j (by omega)
      refine ⟨?_, by rw [Nat.zero_add]; exact hc.2⟩
      rw [Nat.zero_add, hc.1, getElem!_pos _ _ (by simpa using hj)]
      simp [fvS, nth, valS, List.getD, hj]
    have eg : ∀ args w, (callFunc 117 args).run Try.prog w = .ok (.enter 117 args) w := enters_of Try.func117 (by kernel_rfl) rfl
    have hcon := Try.slices_SortFunc_total fvS (fun _ => rfl) cfS swoS 117 #[] g 0 cap L.toArray w eg (cmpS _ _ _ _) hH hg (by simp; omega) totS
    simp only [List.size_toArray] at hcon
    refine hcon.mono fun e w' ⟨he, n, os, hw⟩ => ⟨he, ?_, ?_⟩
    · have e1 : sortWorld fvS w g 0 n (L.toArray.toList.mergeSort fun x y => !(ltOf cfS) y x).toArray os = Go.Sort.grow (putRow (Value.int .i64) (Go.Sort.ahead w n) g 0 (valS (sortS L)).toArray) os := by
        unfold sortWorld
        rw [← putRow_fin]
        rfl
      rw [hw, e1]
      have := ownsRow_sortedI (n := n) (os := os) (ts := valS (sortS L)) hs hbase hb h1 h2 h3
      unfold OwnI
      rw [hs]
      rw [hl] at this ⊢
      exact this
    · have e1 : sortWorld fvS w g 0 n (L.toArray.toList.mergeSort fun x y => !(ltOf cfS) y x).toArray os = Go.Sort.grow (putRow (Value.int .i64) (Go.Sort.ahead w n) g 0 (valS (sortS L)).toArray) os := by
        unfold sortWorld
        rw [← putRow_fin]
        rfl
      rw [hw, e1]
      exact grownBy_sortedI _

def finsB (k : Nat) : List (Fin 32) := (List.range k).map fun i => Fin.ofNat 32 i
theorem flt_fin : ∀ N < 33, flt (fun _ => true) N = valS (finsB N) := by decide +kernel
def partsF (n : Int) : List Int := if 0 ≤ n ∧ n ≤ 5 then valS (sortS (finsB (2 ^ n.toNat))) else []
theorem partsF_mem {n : Int} (h0 : 0 ≤ n) (h5 : n ≤ 5) {x : Int} : x ∈ partsF n ↔ 0 ≤ x ∧ x < 2 ^ n.toNat := by
  have hp := pow_nat h0 h5
  unfold partsF
  rw [if_pos ⟨h0, h5⟩]
  have e : x ∈ valS (sortS (finsB (2 ^ n.toNat))) ↔ x ∈ valS (finsB (2 ^ n.toNat)) := by
    unfold valS sortS
    rw [List.mem_map, List.mem_map]
    constructor
    · rintro ⟨y, hy, e⟩; exact ⟨y, (List.mergeSort_perm _ _).mem_iff.1 hy, e⟩
    · rintro ⟨y, hy, e⟩; exact ⟨y, (List.mergeSort_perm _ _).mem_iff.2 hy, e⟩
  rw [e, ← flt_fin _ (by omega), flt_mem, hp.1]
  simp
theorem partsF_len (n : Int) : (partsF n).length ≤ 32 := by
  unfold partsF
  split
  · next h =>
    have hp := pow_nat h.1 h.2
    simp [valS, sortS, List.length_mergeSort, finsB]
    exact hp.2.1
  · simp
set_option maxHeartbeats 400000 in
theorem c_PartsBySize (n : Int) (w : World) :
    Calls Try.prog 110 #[.int .i64 n] w fun e w' => ∃ v, e = .returned v ∧ OwnI w' w.heap.size v (partsF n) ∧ Below w.heap.size w w' := by
  obtain ⟨i0, hi, hz0, hz1, hz2⟩ := info_parts info_int
  have hb := (Below.refl w.heap.size w).alloc (Nat.le_refl _) (.cells #[] 3)
  have hI := OwnI.empty w w.heap.size (Nat.le_refl _)
  by_cases h0 : 0 ≤ n
  case neg =>
    have HM : Hid (partsF n = []) := by show partsF n = []; unfold partsF; rw [if_neg (by omega)]
    go_enter Try.func110, Try.ntmps110
    go_wp2
    go_ret
    exact ⟨_, rfl, by rw [HM.out]; exact hI, hb⟩
  by_cases h5 : n ≤ 5
  case neg =>
    have HM : Hid (partsF n = []) := by show partsF n = []; unfold partsF; rw [if_neg (by omega)]
    go_enter Try.func110, Try.ntmps110
    go_wp2
    go_ret
    exact ⟨_, rfl, by rw [HM.out]; exact hI, hb⟩
  have HM : Hid (partsF n = valS (sortS (finsB (2 ^ n.toNat)))) := by show partsF n = _; unfold partsF; rw [if_pos ⟨h0, h5⟩]
  have hp := (pow_wrap h0 h5).1
  obtain ⟨hp1, hp2, hp3⟩ := pow_nat h0 h5
  generalize hQ : (2 : Nat) ^ n.toNat = N at *
  have hp4 : wrap64 (2 ^ n.toNat) = N := by rw [hp, ← hp1]
  clear hp hp1 hQ
  go_enter Try.func110, Try.ntmps110
  go_wp2
  go_loopw [3, 4] (fun v i wr => ∃ k : Nat, i = .int .i64 k ∧ k ≤ N ∧ OwnI wr w.heap.size v (flt (fun _ => true) k) ∧ Below w.heap.size w wr) (fun _ i _ => N - (intOf i).toNat)
  case atStart => exact ⟨0, rfl, Nat.zero_le _, hI, hb⟩
  case round =>
    clear hI hb
    obtain ⟨k, rfl, hk, hI, hb⟩ := hrel
    have HS : Hid (flt (fun _ => true) (k + 1) = flt (fun _ => true) k ++ [(k : Int)]) := by show flt (fun _ => true) (k + 1) = flt (fun _ => true) k ++ [(k : Int)]; rw [flt_succ]; simp
    have hle := flt_le (fun _ => true) k
    by_cases hlt : k < N
    · go_wp2_with (first | (at_builtin; refine wpList_append_own _ rfl _ _ 69 rfl w.heap.size 3 i0 (.int .i64 0) 1 8 Try.underlying69 hi hz0 hz1 hz2 rfl (by decide) _ _ _ rfl (World.ownsRow.alloc hI _) _ 1 1 [.int .i64 ((k : Int))] rfl rfl (by intro j u hj; match j, hj with | 0, hj => simp at hj; subst hj; simp [Addr.add]) (by intro u hu; simp at hu; subst hu; rfl) (by unfold maxLen; omega) (by omega) (by have := hb.size; simp; omega) ?_; intro v' w1 hown hgrow _; replace hb := (hb.alloc hb.size _).grown hgrow (by have := hb.size; simp; omega) (fun g hg => (World.ownsRow.lt hI g hg).1); replace hI := OwnI.snoc hown; clear hown hgrow) | fail)
      go_roundw
      case rel => exact ⟨k + 1, by go_num, by omega, by rw [HS.out]; exact hI, hb⟩
      case measure => simp [intOf]; omega
    · have hkk : k = N := by omega
      have HF : Hid (flt (fun _ => true) k = valS (finsB N)) := by show flt (fun _ => true) k = valS (finsB N); rw [hkk]; exact flt_fin N (by omega)
      rw [HF.out] at hI
      have hfl : (finsB N).length = N := by simp [finsB]
      have hne : finsB N ≠ [] := by intro e; rw [e] at hfl; simp at hfl; omega
      have hr : (finsB N).length ≤ Room := by rw [hfl]; unfold Room; omega
      have HL : Hid ((valS (finsB N)).length = (finsB N).length) := by show (valS (finsB N)).length = (finsB N).length; simp [valS]
      clear hkk hle HS HF hfl
      obtain ⟨oF, cF, e1⟩ := hI.shape
      rw [HL.out] at e1
      subst e1
      have hI' : OwnI wr w.heap.size (.slice oF (valS (finsB N)).length cF) (valS (finsB N)) := by rw [HL.out]; exact hI
      go_wp2_with fail
      refine (c_SortParts _ _ _ _ _ hr hne hI').mono ?_
      rintro e w1 ⟨rfl, hR, hg⟩
      replace hb := hb.grown hg hb.size (fun g hk => (World.ownsRow.lt hI g hk).1)
      clear hg hI hI'
      go_wp2
      go_ret
      exact ⟨_, rfl, by rw [HM.out]; exact hR, hb⟩
end Go.Proofs.Ytkanbnbofoabeaa
