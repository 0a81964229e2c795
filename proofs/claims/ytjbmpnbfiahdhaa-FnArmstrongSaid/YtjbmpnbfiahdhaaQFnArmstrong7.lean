/- Contracts and lemmas for FnArmstrong, part 7 of 7. -/
import Derived.Test.YtjbmpnbfiahdhaaQFnArmstrong1
import Derived.Test.YtjbmpnbfiahdhaaQFnArmstrong2
import Derived.Test.YtjbmpnbfiahdhaaQFnArmstrong3
import Derived.Test.YtjbmpnbfiahdhaaQFnArmstrong4
import Derived.Test.YtjbmpnbfiahdhaaQFnArmstrong5
import Derived.Test.YtjbmpnbfiahdhaaQFnArmstrong6
import Derived.Deep.CutRange
import Derived.Deep.RegionHeld3
namespace Go.Proofs.Ytjbmpnbfiahdhaa
open Go.RowKit
set_option linter.unusedVariables false
set_option maxRecDepth 100000

def bordP (R : List (List Int)) (m r x : Int) : Bool := !hasc x r && !holdsF R m x r
def bordOk (n : Int) (R : List (List Int)) (m r : Int) : Bool := (isTabF n R && modeF m) && (decide (0 ≤ r) && decide (r < n))
def bordF (n : Int) (R : List (List Int)) (m r : Int) : List Int := if bordOk n R m r then maxF (flt (bordP R m r) (2 ^ n.toNat)) else []
theorem bord_len (n : Int) (R : List (List Int)) (m r : Int) : (bordF n R m r).length ≤ Room := by
  unfold bordF
  split
  · have := maxF_len (flt (bordP R m r) (2 ^ n.toNat)); unfold Room; omega
  · simp
theorem all_same {p : Int → Bool} {L M : List Int} (h : ∀ x, x ∈ L ↔ x ∈ M) : L.all p = M.all p := by
  rw [Bool.eq_iff_iff, List.all_eq_true, List.all_eq_true]
  exact ⟨fun H x hx => H x ((h x).2 hx), fun H x hx => H x ((h x).1 hx)⟩
theorem maxF_same {L M : List Int} (h : ∀ x, x ∈ L ↔ x ∈ M) (hl : L.length ≤ 100) (hm : M.length ≤ 100) : maxF L = maxF M := by
  unfold maxF
  have e1 : setsF L = setsF M := all_same h
  have e2 : (fun x => inB' L x && maxB L x) = fun x => inB' M x && maxB M x := by
    funext x
    unfold inB' maxB
    rw [all_same h]
    congr 1
    rw [decide_eq_decide]
    exact h x
  rw [e1, e2]
  simp [hl, hm]
theorem bord_dep {n : Int} {R : List (List Int)} {m r x : Int} (h : bordOk n R m r = true) (h0 : 0 ≤ x) (hx : x < 2 ^ n.toNat) : askF n R m x r = true ∧ St x := by
  unfold bordOk at h
  simp only [Bool.and_eq_true, decide_eq_true_eq] at h
  obtain ⟨⟨ht, hm⟩, hr0, hrn⟩ := h
  obtain ⟨h1, h5, _, _⟩ := isTab_of ht
  have hp := (pow_wrap (n := n) (by omega) h5).2.1
  refine ⟨?_, ⟨h0, by omega⟩⟩
  unfold askF isDepF isAttr
  rw [ht, hm]
  simp only [Bool.and_eq_true, decide_eq_true_eq, Bool.and_self, Bool.true_and]
  exact ⟨⟨⟨h1, ⟨⟨⟨by omega, h5⟩, h0⟩, hx⟩⟩, hr0⟩, hrn⟩
end Go.Proofs.Ytjbmpnbfiahdhaa
namespace Go.Proofs.Ytjbmpnbfiahdhaa
open Go.RowKit
set_option linter.unusedVariables false
set_option maxRecDepth 100000

theorem OwnD.nil (w : World) (base : Nat) : OwnD w base (.slice none 0 0) [] := ⟨rfl, Or.inl ⟨rfl, rfl⟩⟩
theorem emptyD_behind {w' : World} {B j : Nat} {v : Value} (h : w'.cell? ⟨B, j, none⟩ = some v) : OwnD (w'.alloc (.cells #[] 55)) (B + 1) (.slice (some ⟨w'.heap.size, 0, none⟩) 0 0) [] := OwnD.empty _ _ (World.block_lt_of_cell? _ _ h)
theorem colG_len (n : Int) (R : List (List Int)) (m : Int) (L : List Int) (r : Int) : (colG n R m L r).length ≤ L.length := by
  unfold colG
  rw [List.length_map]
  exact List.length_filter_le _ _
theorem colsG_len (n : Int) (R : List (List Int)) (m : Int) : ∀ k, (colsG n R m k).length ≤ 32 * k
  | 0 => by simp [colsG]
  | k + 1 => by
    rw [colsG_succ, List.length_append]
    have h1 := colsG_len n R m k
    have h2 := colG_len n R m (partsF n) k
    have h3 := partsF_len n
    omega
set_option maxHeartbeats 1600000 in
theorem c_specMinimalDeps (n : Int) (oa) (cap : Nat) (R : List (List Int)) (m : Int) (w : World) (hR : RowsAt w oa R) :
    Calls Try.prog 141 #[.agg #[.int .i64 n, .slice oa R.length cap], .int .i64 m] w fun e w' => ∃ v, e = .returned v ∧ OwnD w' w.heap.size v (minDepsF n R m) ∧ Below w.heap.size w w' := by
  obtain ⟨j0, hj, hy0, hy1, hy2⟩ := info_parts info_dep
  have hb := bel2 w (.cells #[.int .i64 n, .slice oa R.length cap] 26) (.cells #[] 55)
  have a0 := two_a w #[.int .i64 n, .slice oa R.length cap] 26 #[] 55 0 _ rfl
  have a1 := two_a w #[.int .i64 n, .slice oa R.length cap] 26 #[] 55 1 _ rfl
  have hO : OwnD ((w.alloc (.cells #[.int .i64 n, .slice oa R.length cap] 26)).alloc (.cells #[] 55)) (w.heap.size + 1) (.slice (some ⟨w.heap.size + 1, 0, none⟩) 0 0) [] := by
    have h := (OwnD.empty (w.alloc (.cells #[.int .i64 n, .slice oa R.length cap] 26)) _ (Nat.le_refl _))
    simpa using h
  cases hf : (isTabF n R && modeF m)
  · have HM : Hid (minDepsF n R m = []) := by show minDepsF n R m = []; unfold minDepsF; rw [hf]; rfl
    go_enter Try.func141, Try.ntmps141
    go_wp2_with (first | (go_at_call 89; refine Calls.mono (Ans.eqb (c_l4Fine _ _ _ _ _ _ (hR.keep hb)) hf) ?_; rintro e w1 ⟨rfl, hbn⟩; replace a0 := cell_keep a0 hbn; replace a1 := cell_keep a1 hbn; replace hO := hO.keep hbn; replace hb := bel_to (w := w) (by first | exact hb | exact hb.alloc hb.size _ | exact (hb.alloc hb.size _).alloc (Nat.le_trans hb.size (by simp)) _ | exact hb.setCell (by simp [hb.size]) _) hbn; clear hbn))
    go_ret
    exact ⟨_, rfl, by rw [HM.out]; exact hO.based (Nat.le_succ _), hb⟩
  have ht : isTabF n R = true := by have := hf; simp only [Bool.and_eq_true] at this; exact this.1
  obtain ⟨hn1, hn5, _, hlen⟩ := isTab_of ht
  obtain ⟨N, rfl⟩ := Int.eq_ofNat_of_zero_le (show 0 ≤ n by omega)
  have hN5 : N ≤ 5 := by omega
  have HM : Hid (minDepsF N R m = colsG N R m N) := by
    show minDepsF N R m = _
    unfold minDepsF
    rw [if_pos hf, Int.toNat_natCast]
    exact cols_same hN5 (fun i hi => by have := hlen i hi; omega) N (Nat.le_refl _)
  have HH : Hid (∀ (w' : World) (x r : Int), St x → Co r → RowsAt w' oa R → Ans Try.prog 182 #[.agg #[.int .i64 N, .slice oa R.length cap], .int .i64 m, .agg #[.int .i64 x, .int .i64 r]] w' (.bool (l7F N R m x r))) := fun w' x r hx hr h => c_l7Minimal N oa cap R m x r w' h ht hx hr
  have hpl := partsF_len N
  have HPS : Hid (∀ x ∈ partsF N, St x) := fun x hx => by
    have h := (partsF_mem (n := N) (by omega) (by omega)).1 hx
    have h2 := (pow_wrap (n := (N : Int)) (by omega) (by omega)).2.1
    exact ⟨h.1, by omega⟩
  clear ht hlen
  go_enter Try.func141, Try.ntmps141
  go_wp2_with (first | (go_at_call 89; refine Calls.mono (Ans.eqb (c_l4Fine _ _ _ _ _ _ (hR.keep hb)) hf) ?_; rintro e w1 ⟨rfl, hbn⟩; replace a0 := cell_keep a0 hbn; replace a1 := cell_keep a1 hbn; replace hO := hO.keep hbn; replace hb := bel_to (w := w) (by first | exact hb | exact hb.alloc hb.size _ | exact (hb.alloc hb.size _).alloc (Nat.le_trans hb.size (by simp)) _ | exact hb.setCell (by simp [hb.size]) _) hbn; clear hbn))
  have old := hO
  refine (c_specPartsBySize (N : Int) _).mono ?_
  rintro e w2 ⟨v2, rfl, hP, hbn⟩
  have ap_PO := (apart_old old hP).symm
  replace hO := hO.keep hbn
  replace hP := hP.based (World.block_lt_of_cell? _ _ a1)
  replace a0 := cell_keep a0 hbn
  replace a1 := cell_keep a1 hbn
  replace hb := bel_to hb hbn
  clear old hbn
  have HGS : Hid (∀ k : Nat, colsG N R m (k + 1) = colsG N R m k ++ colG N R m (partsF N) k) := fun k => colsG_succ _ _ _ k
  generalize partsF N = P at *
  obtain ⟨o1, c1, rfl⟩ := hP.shape
  have hPr : P.length ≤ Room := by unfold Room; omega
  go_wp2
  go_loopw [5, 7] (fun v i wr => ∃ r : Nat, i = .int .i64 r ∧ r ≤ N ∧ OwnD wr (w.heap.size + 1) v (colsG N R m r) ∧ OwnI wr (w.heap.size + 1) (.slice o1 P.length c1) P ∧ Apart (.slice o1 P.length c1) v ∧ wr.cell? ⟨w.heap.size, 0, none⟩ = some (.int .i64 N) ∧ wr.cell? ⟨w.heap.size, 1, none⟩ = some (.slice oa R.length cap) ∧ Below w.heap.size w wr) (fun _ i _ => N - (intOf i).toNat)
  case atStart => exact ⟨0, rfl, Nat.zero_le _, by simpa [colsG] using hO, hP, ap_PO, a0, a1, hb⟩
  case round =>
    clear hO hP ap_PO a0 a1 hb
    obtain ⟨r, rfl, hr, hO, hP, ap_PO, a0, a1, hb⟩ := hrel
    have hcl := colsG_len N R m r
    by_cases hlt : r < N
    · have HC : Hid (colsG N R m (r + 1) = colsG N R m r ++ colG N R m P r) := HGS.out r
      have hco : Hid (Co (r : Int)) := ⟨by omega, by omega⟩
      generalize colsG N R m r = A at *
      go_wp2
      go_loopw [5, 8] (fun v i wr => ∃ k : Nat, i = .int .i64 k ∧ k ≤ P.length ∧ OwnD wr (w.heap.size + 1) v (A ++ colG N R m (P.take k) r) ∧ OwnI wr (w.heap.size + 1) (.slice o1 P.length c1) P ∧ Apart (.slice o1 P.length c1) v ∧ wr.cell? ⟨w.heap.size, 0, none⟩ = some (.int .i64 N) ∧ wr.cell? ⟨w.heap.size, 1, none⟩ = some (.slice oa R.length cap) ∧ Below w.heap.size w wr) (fun _ i _ => P.length - (intOf i).toNat)
      case atStart => exact ⟨0, rfl, Nat.zero_le _, by simpa [colG] using hO, hP, ap_PO, a0, a1, hb⟩
      case round =>
        clear hO hP ap_PO a0 a1 hb
        obtain ⟨k, rfl, hk, hO, hP, ap_PO, a0, a1, hb⟩ := hrel
        by_cases hlk : k < P.length
        · obtain ⟨b2, off2, rfl, hbs2, hca⟩ := (hP.ints rfl hPr).at_ (by omega)
          have hc2 := hca k hlk
          have hst : Hid (St (nth P k)) := HPS.out _ (List.mem_iff_getElem?.2 ⟨k, nth_eq hlk⟩)
          have hOl : (A ++ colG N R m (P.take k) r).length ≤ 300 := by
            have h := colG_len N R m (P.take k) r
            rw [List.length_take] at h
            rw [List.length_append]
            omega
          have HOs : Hid (A ++ colG N R m (P.take (k + 1)) r = (A ++ colG N R m (P.take k) r) ++ (if l7F N R m (nth P k) r then [(nth P k, (r : Int))] else [])) := by
            show A ++ colG N R m (P.take (k + 1)) r = (A ++ colG N R m (P.take k) r) ++ (if l7F N R m (nth P k) r then [(nth P k, (r : Int))] else [])
            unfold colG
            rw [filter_take_succ _ _ _ hlk, List.map_append, List.append_assoc]
            congr 2
            split <;> simp
          clear hca
          generalize nth P k = x at *
          generalize A ++ colG N R m (P.take k) r = C at *
          have e0 := box_at wr #[.int .i64 x, .int .i64 (r : Int)] 55 0 _ rfl
          have e1 := box_at wr #[.int .i64 x, .int .i64 (r : Int)] 55 1 _ rfl
          replace a0 := cell_al a0 (.cells #[.int .i64 x, .int .i64 (r : Int)] 55)
          replace a1 := cell_al a1 (.cells #[.int .i64 x, .int .i64 (r : Int)] 55)
          cases h1 : l7F N R m x (r : Int)
          · go_wp2_with fail
            refine Calls.mono (Ans.eqb (b' := false) (HH.out _ x (r : Int) hst.out hco.out (hR.keep (hb.alloc hb.size _))) h1) ?_
            rintro e w3 ⟨rfl, hbn⟩
            replace a0 := cell_keep a0 hbn
            replace a1 := cell_keep a1 hbn
            replace hO := OwnD.keep (World.ownsRow.alloc hO _) hbn
            replace hP := OwnI.keep (World.ownsRow.alloc hP _) hbn
            replace hb := bel_to (hb.alloc hb.size _) hbn
            clear hbn e0 e1
            go_wp2
            go_roundw
            case rel => exact ⟨k + 1, by go_num, by omega, by rw [HOs.out, h1]; simpa using hO, hP, ap_PO, a0, a1, hb⟩
            case measure => simp [intOf]; omega
          · go_wp2_with fail
            refine Calls.mono (Ans.eqb (b' := true) (HH.out _ x (r : Int) hst.out hco.out (hR.keep (hb.alloc hb.size _))) h1) ?_
            rintro e w3 ⟨rfl, hbn⟩
            replace a0 := cell_keep a0 hbn
            replace a1 := cell_keep a1 hbn
            replace e0 := cell_keep e0 hbn
            replace e1 := cell_keep e1 hbn
            replace hO := OwnD.keep (World.ownsRow.alloc hO _) hbn
            replace hP := OwnI.keep (World.ownsRow.alloc hP _) hbn
            replace hb := bel_to (hb.alloc hb.size _) hbn
            clear hbn hc2
            go_wp2_with (first | (at_builtin; refine wpList_append_fresh rfl _ _ 29 rfl (w.heap.size + 1) 55 j0 (.agg #[.int .i64 0, .int .i64 0]) 2 16 Try.underlying29 hj hy0 hy1 hy2 rfl (by decide) _ _ _ rfl (World.ownsRow.alloc hO _) _ 1 1 [.int .i64 x, .int .i64 (r : Int)] rfl rfl (World.news_of_block (cs := #[.int .i64 x, .int .i64 (r : Int)]) (t := 55) (fr := (0, 0)) (heap_alloc_new _ _)) (by intro u hu; simp at hu; rcases hu with rfl | rfl <;> rfl) (by unfold maxLen; omega) (by omega) (by have := World.block_lt_of_cell? _ _ a1; simp at this; simp; omega) ?_; intro v' w4 hown hgrow hfr; replace hb := (hb.alloc hb.size _).grown hgrow (by have := hb.size; simp; omega) (fun g hg => Nat.le_trans (Nat.le_succ _) (World.ownsRow.lt hO g hg).1); replace a0 := cell_gr (cell_al a0 _) (World.ownsRow.alloc hO _) (by omega) hgrow; replace a1 := cell_gr (cell_al a1 _) (World.ownsRow.alloc hO _) (by omega) hgrow; obtain ⟨hP, ap_PO⟩ := OwnI.past hP hgrow ap_PO hfr; replace hO := own_snocD hown; clear hown hgrow hfr) | fail)
            go_roundw
            case rel => exact ⟨k + 1, by go_num, by omega, by rw [HOs.out, h1]; exact hO, hP, ap_PO, a0, a1, hb⟩
            case measure => simp [intOf]; omega
        · have hkk : k = P.length := by omega
          have HE : Hid (colsG N R m (r + 1) = A ++ colG N R m (P.take k) r) := by
            show colsG N R m (r + 1) = A ++ colG N R m (P.take k) r
            rw [HC.out, hkk, List.take_length]
          clear hkk
          go_wp2
          go_roundw
          case rel => exact ⟨r + 1, by go_num, by omega, by rw [HE.out]; exact hO, hP, ap_PO, a0, a1, hb⟩
          case measure => simp [intOf]; omega
    · have hrr : r = N := by omega
      have HE : Hid (colsG N R m r = minDepsF N R m) := by show colsG N R m r = minDepsF N R m; rw [HM.out, hrr]
      clear hrr
      go_wp2
      go_ret
      exact ⟨_, rfl, by rw [← HE.out]; exact hO.based (Nat.le_succ _), hb⟩
end Go.Proofs.Ytjbmpnbfiahdhaa
namespace Go.Proofs.Ytjbmpnbfiahdhaa
open Go.RowKit
set_option linter.unusedVariables false
set_option maxRecDepth 100000

theorem minDeps_len2 (n : Int) (R : List (List Int)) (m : Int) : (minDepsF n R m).length ≤ 160 := by
  unfold minDepsF
  split
  · next h =>
    simp only [Bool.and_eq_true] at h
    obtain ⟨h1, h5, _⟩ := isTab_of h.1
    have a := colsF_len (fun x r => holdsF R m x r) (partsF n) n.toNat
    have b := partsF_len n
    have c : n.toNat ≤ 5 := by omega
    have : (partsF n).length * n.toNat ≤ 32 * 5 := Nat.mul_le_mul b c
    omega
  · simp
def DrawsTabD (f : FuncId) (oa : Option Addr) (mc cap : Nat) (w : World) : Prop :=
  Calls Try.prog f #[.slice oa mc cap] w fun e w' => ∃ (n m : Int) (o : Option Addr) (c : Nat) (xs : List Value) (R : List (List Int)) (od : Option Addr) (cd : Nat) (Q : List (Int × Int)), e = .returned (.tuple #[.agg #[.int .i64 n, .slice o R.length c], .int .i64 m, .slice od Q.length cd]) ∧ OwnRows w' w.heap.size (.slice o R.length c) xs R ∧ OwnD w' w.heap.size (.slice od Q.length cd) Q ∧ (R.length ≤ 13 ∧ ∀ j, j < R.length → (row R j).length ≤ 5) ∧ Q.length ≤ 4097 ∧ Below w.heap.size w w'
def DrawsIL (f : FuncId) (oa : Option Addr) (mc cap : Nat) (w : World) : Prop :=
  Calls Try.prog f #[.slice oa mc cap] w fun e w' => ∃ (n : Int) (o : Option Addr) (c : Nat) (A : List Int), e = .returned (.tuple #[.int .i64 n, .slice o A.length c]) ∧ OwnI w' w.heap.size (.slice o A.length c) A ∧ A.length ≤ 32 ∧ Below w.heap.size w w'
set_option maxHeartbeats 1600000 in
theorem c_DrawArmstrongTable (oa) (m cap : Nat) (hm : m ≤ 1048576) (w : World) (hB : BytesAt w oa m) :
    Calls Try.prog 63 #[.slice oa m cap] w fun e w' => ∃ n o c D, e = .returned (.tuple #[.int .i64 n, .slice o (D.length : Nat) c]) ∧ OwnD w' w.heap.size (.slice o D.length c) D ∧ D.length ≤ 5 ∧ Below w.heap.size w w' := by
  go_enter Try.func63, Try.ntmps63
  go_wp2_with fail
  refine (c_l1New oa m cap hm _ hB).mono ?_
  rintro e w1 ⟨rfl, hc1, hb⟩
  have hlt1 := hc1.lt
  go_wp2_with fail
  refine (c_l10Draw _ _ hc1).mono ?_
  rintro e w2 ⟨n, o, c, D, rfl, hI, hD, hc2, hg⟩
  replace hb := below_cur hb hg (Nat.le_refl _)
  replace hI := hI.based (show w.heap.size + 1 ≤ _ by omega)
  clear hc1 hg
  go_wp2
  exact bodyPost_ret (v := .tuple #[.int .i64 n, .slice o D.length c]) (by simp [results, Try.results63, go_sem]) rfl ⟨n, o, c, D, rfl, hI.based (Nat.le_succ _), hD, hb⟩
set_option maxHeartbeats 3200000 in
theorem c_DrawSatisfiesAll (oa) (mc cap : Nat) (hm : mc ≤ 1048576) (w : World) (hB : BytesAt w oa mc) : DrawsTabD 65 oa mc cap w := by
  unfold DrawsTabD
  obtain ⟨i0, hi, hz0, hz1, hz2⟩ := info_parts info_dep
  have hb := (Below.refl w.heap.size w).alloc (Nat.le_refl _) (.cells #[.int .i64 0, .slice none 0 0] 26)
  have kZ := Blk.new w #[.int .i64 0, .slice none 0 0] 26
  go_enter Try.func65, Try.ntmps65
  go_wp2_with fail
  refine (c_l1New oa mc cap hm _ (hB.keep hb)).mono ?_
  rintro e w1 ⟨rfl, hc1, hbn⟩
  replace kZ := kZ.keep hbn
  replace hb := bel_to hb hbn
  simp only [World.size_alloc] at hc1 ⊢
  clear hbn
  have hz := kZ.lt
  go_wp2_with fail
  refine (c_l4Draw _ _ hc1).mono ?_
  rintro e w2 ⟨n, m, o, c, xs, R, rfl, hO, ⟨hRl, hlen⟩, hc2, hg⟩
  have HLn : Hid (∀ j, j < R.length → (row R j).length ≤ 5) := hlen
  have HLR : Hid (∀ j, j < R.length → (row R j).length ≤ Room) := fun j hj => Nat.le_trans (hlen j hj) (by unfold Room; omega)
  have hRR : R.length ≤ Room := by unfold Room; omega
  clear hlen
  have hlt1 := hc1.lt
  have hsz := hg.size
  replace hb := below_cur hb hg (by omega)
  replace kZ := kZ.cur hg (show w.heap.size ≠ w.heap.size + 1 by omega)
  clear hc1 hg
  have kT := Blk.new w2 #[.int .i64 n, .slice o R.length c] 26
  have hba := (Below.refl w2.heap.size w2).alloc (Nat.le_refl _) (.cells #[.int .i64 n, .slice o R.length c] 26)
  replace kZ := kZ.keep hba
  replace hO := hO.keep hba
  replace hc2 := hc2.keep hba
  replace hb := bel_to hb hba
  clear hba
  go_upto_region 3 with fail
  generalize w2.alloc (.cells #[.int .i64 n, .slice o R.length c] 26) = w3 at *
  obtain ⟨k6, hk6⟩ : ∃ k, w2.heap.size = k := ⟨_, rfl⟩
  rw [hk6] at kT hsz
  simp only [hk6]
  clear hk6
  have n0 := kT.cell 0 (.int .i64 n) rfl
  have n1 := kT.cell 1 (.slice o R.length c) rfl
  go_wp2_with fail
  refine (c_specMinimalDeps n o c R m _ (hO.read hRR HLR.out)).mono ?_
  rintro e w4 ⟨v, rfl, hD, hbn⟩
  have apD := OwnRows.fresh hO hD
  have hk4 := kT.lt
  have hdl := minDeps_len n R m
  have hlt3 := hc2.lt
  have old := (show Hid (∀ g, v.ownBlock = some g → w3.heap.size ≤ g) from fun g e => (World.ownsRow.lt hD g e).1)
  replace hD := hD.based (show w.heap.size + 2 ≤ w3.heap.size by omega)
  replace kZ := kZ.keep hbn
  replace kT := kT.keep hbn
  replace hO := hO.keep hbn
  replace hc2 := hc2.keep hbn
  replace hb := bel_to hb hbn
  clear hbn n0 n1
  obtain ⟨od, cd, rfl⟩ := hD.shape
  have hDR : (minDepsF n R m).length ≤ 4096 := Nat.le_trans (minDeps_len2 n R m) (by omega)
  generalize minDepsF n R m = Q at *
  go_wp2_with fail
  refine (c_l1Once _ 2 (by omega) _ hc2).mono ?_
  rintro e w5 ⟨t, rfl, hc5, hg⟩
  replace hb := below_cur hb hg (by omega)
  replace kZ := kZ.cur hg (show w.heap.size ≠ w.heap.size + 1 by omega)
  replace kT := kT.cur hg (show k6 ≠ w.heap.size + 1 by omega)
  replace hO := hO.cur hg (show w.heap.size + 1 < w1.heap.size by omega)
  replace hD := hD.cur hg (show w.heap.size + 1 < w.heap.size + 2 by omega)
  clear hc2 hg
  cases t
  · skip
    have n0 := kT.cell 0 (.int .i64 n) rfl
    have n1 := kT.cell 1 (.slice o R.length c) rfl
    have z0 := kZ.cell 0 (.int .i64 0) rfl
    have z1 := kZ.cell 1 (.slice none 0 0) rfl
    have f0 := kZ.free 0
    have f1 := kZ.free 1
    have k2 : Blk _ w.heap.size #[.int .i64 n, .slice o R.length c] 26 := (kZ.set 0 (.int .i64 n)).set 1 (.slice o R.length c)
    have q0 := k2.cell 0 (.int .i64 n) rfl
    have q1 := k2.cell 1 (.slice o R.length c) rfl
    go_wp2
    refine bodyPost_ret (v := .tuple #[.agg #[.int .i64 n, .slice o R.length c], .int .i64 m, .slice od Q.length cd]) (by simp only [results, Try.results65]; simp [go_sem, q0, q1]) rfl ?_
    exact ⟨n, m, o, c, xs, R, od, cd, Q, rfl, ((hO.far_set 0 (.int .i64 n) (show w.heap.size < w1.heap.size by omega)).far_set 1 (.slice o R.length c) (show w.heap.size < w1.heap.size by omega)).based (by omega), ((hD.setBelow (show w.heap.size < w.heap.size + 2 by omega)).setBelow (show w.heap.size < w.heap.size + 2 by omega)).based (by omega), ⟨hRl, HLn.out⟩, by omega, bel_set2 hb (Nat.le_refl _) _ _⟩
  · have n0 := kT.cell 0 (.int .i64 n) rfl
    go_wp2_with fail
    refine (c_l6Any _ n _ hc5).mono ?_
    rintro e w6 ⟨l, r, rfl, hc6, hg⟩
    replace hb := below_cur hb hg (by omega)
    replace kZ := kZ.cur hg (show w.heap.size ≠ w.heap.size + 1 by omega)
    replace kT := kT.cur hg (show k6 ≠ w.heap.size + 1 by omega)
    replace hO := hO.cur hg (show w.heap.size + 1 < w1.heap.size by omega)
    replace hD := hD.cur hg (show w.heap.size + 1 < w.heap.size + 2 by omega)
    clear hc5 hg n0
    have hbz := hb.size
    have hk66 := kT.lt
    go_wp2_with (first |  (at_builtin; refine wpList_append_fresh rfl _ _ 29 rfl (w.heap.size + 2) 55 i0 (.agg #[.int .i64 0, .int .i64 0]) 2 16 Try.underlying29 hi hz0 hz1 hz2 rfl (by decide) _ _ _ rfl (World.ownsRow.alloc hD _) _ 1 1 [.int .i64 l, .int .i64 r] rfl rfl (World.news_of_block (cs := #[.int .i64 l, .int .i64 r]) (t := 55) (fr := (0, 0)) (heap_new_at (by simp))) (by intro u hu; simp at hu; rcases hu with rfl | rfl <;> rfl) (by unfold maxLen; omega) (by omega) (by simp; omega) ?_; intro v7 w7 hown hgrow hfr; have hba := (Below.refl w6.heap.size w6).alloc (Nat.le_refl _) (.cells #[.int .i64 l, .int .i64 r] 55); have hlo := fun g e => (World.ownsRow.lt hD g e).1; have kT7 := (kT.keep hba).grown hgrow (fun e => by have := old.out _ e.symm; omega); have kZ7 := (kZ.keep hba).grown hgrow (fun e => by have := old.out _ e.symm; omega); have hO7 := (hO.keep hba).far hgrow apD; have hb7 := (bel_to hb hba).grown hgrow (bel_to hb hba).size (fun g e => by have := hlo g e; omega); have hD7 : OwnD w7 (w.heap.size + 2) v7 (Q ++ [(l, r)]) := OwnD.snoc hown; obtain ⟨o7, c7, rfl⟩ := hD7.shape; have n0 := kT7.cell 0 (.int .i64 n) rfl; have n1 := kT7.cell 1 (.slice o R.length c) rfl; have z0 := kZ7.cell 0 (.int .i64 0) rfl; have z1 := kZ7.cell 1 (.slice none 0 0) rfl; have f0 := kZ7.free 0; have f1 := kZ7.free 1; clear hown hgrow hfr) | fail)
    have hql : (Q ++ [(l, r)]).length ≤ 4097 := by simp; omega
    have k2 : Blk _ w.heap.size #[.int .i64 n, .slice o R.length c] 26 := (kZ7.set 0 (.int .i64 n)).set 1 (.slice o R.length c)
    have q0 := k2.cell 0 (.int .i64 n) rfl
    have q1 := k2.cell 1 (.slice o R.length c) rfl
    refine bodyPost_ret (v := .tuple #[.agg #[.int .i64 n, .slice o R.length c], .int .i64 m, .slice o7 (Q ++ [(l, r)]).length c7]) (by simp only [results, Try.results65]; simp [go_sem, q0, q1]) rfl ?_
    exact ⟨n, m, o, c, xs, R, o7, c7, (Q ++ [(l, r)]), rfl, ((hO7.far_set 0 (.int .i64 n) (show w.heap.size < w1.heap.size by omega)).far_set 1 (.slice o R.length c) (show w.heap.size < w1.heap.size by omega)).based (by omega), ((hD7.setBelow (show w.heap.size < w.heap.size + 2 by omega)).setBelow (show w.heap.size < w.heap.size + 2 by omega)).based (by omega), ⟨hRl, HLn.out⟩, hql, bel_set2 hb7 (Nat.le_refl _) _ _⟩
set_option maxHeartbeats 3200000 in
theorem c_DrawDepsOfAgreeSets (oa) (mc cap : Nat) (hm : mc ≤ 1048576) (w : World) (hB : BytesAt w oa mc) : DrawsIL 66 oa mc cap w := by
  unfold DrawsIL
  obtain ⟨i0, hi, hz0, hz1, hz2⟩ := info_parts info_dep
  go_enter Try.func66, Try.ntmps66
  go_wp2_with fail
  refine (c_l1New oa mc cap hm _ hB).mono ?_
  rintro e w1 ⟨rfl, hc1, hb⟩
  go_wp2_with fail
  refine (c_l4Draw _ _ hc1).mono ?_
  rintro e w2 ⟨n, m, o, c, xs, R, rfl, hO, ⟨hRl, hlen⟩, hc2, hg⟩
  have HLn : Hid (∀ j, j < R.length → (row R j).length ≤ 5) := hlen
  have HLR : Hid (∀ j, j < R.length → (row R j).length ≤ Room) := fun j hj => Nat.le_trans (hlen j hj) (by unfold Room; omega)
  have hRR : R.length ≤ Room := by unfold Room; omega
  clear hlen
  have hlt1 := hc1.lt
  have hsz := hg.size
  replace hb := below_cur hb hg (by omega)
  clear hc1 hg
  have kT := Blk.new w2 #[.int .i64 n, .slice o R.length c] 26
  have hba := (Below.refl w2.heap.size w2).alloc (Nat.le_refl _) (.cells #[.int .i64 n, .slice o R.length c] 26)
  replace hO := hO.keep hba
  replace hc2 := hc2.keep hba
  replace hb := bel_to hb hba
  clear hba
  go_upto_region 3 with fail
  generalize w2.alloc (.cells #[.int .i64 n, .slice o R.length c] 26) = w3 at *
  obtain ⟨k6, hk6⟩ : ∃ k, w2.heap.size = k := ⟨_, rfl⟩
  rw [hk6] at kT hsz
  simp only [hk6]
  clear hk6
  go_wp2_with fail
  refine (c_l1Once _ 4 (by omega) _ hc2).mono ?_
  rintro e w4 ⟨t, rfl, hc4, hg⟩
  replace hb := below_cur hb hg (by omega)
  replace kT := kT.cur hg (show k6 ≠ w.heap.size by omega)
  replace hO := hO.cur hg (show w.heap.size < w1.heap.size by omega)
  clear hc2 hg
  have hk4 := kT.lt
  cases t
  · have hd := hO.read hRR HLR.out
    have n0 := kT.cell 0 (.int .i64 n) rfl
    have n1 := kT.cell 1 (.slice o R.length c) rfl
    have n0d := kT.drew.cell 0 (.int .i64 n) rfl
    have n1d := kT.drew.cell 1 (.slice o R.length c) rfl
    go_wp2_with fail
    go_region_law (first
      | ((try go_simp); refine (c_specAgreeSets n o c R m _ (by first | exact hd | exact hd.keep (Below.refl _ _).drew)).mono ?_; rintro e w5 ⟨v, rfl, hI, hbn⟩; obtain ⟨oi, ci, rfl⟩ := hI.shape; have hb5 := bel_to (w := w) (by first | exact hb | exact hb.drew) hbn; have h45 := bel_to (w := w4) (by first | exact (Below.refl _ _).drew | exact Below.refl _ _) hbn; have p0 := cell_keep n0 h45; have p1 := cell_keep n1 h45; have hI5 := hI.based (show w.heap.size ≤ _ by simp; omega); clear hbn)
      | fail)
    all_goals
      have hl := agreeSets_len n R m
      generalize agreeSetsF n R m = A at *
      go_wp2
      exact bodyPost_ret (v := .tuple #[.int .i64 n, .slice oi A.length ci]) (by simp [results, Try.results66, go_sem]) rfl ⟨n, oi, ci, A, rfl, hI5, by omega, hb5⟩
  · go_wp2_with fail
    refine (c_l1Below _ 7 (by omega) _ hc4).mono ?_
    rintro e w5 ⟨q, rfl, hq0, hq1, _, hc5, hg⟩
    have hq2 := hq1 (by omega)
    replace hb := below_cur hb hg (by omega)
    clear hc4 hg hq1
    go_wp2_with fail
    refine (c_l4List _ _ hc5).mono ?_
    rintro e w6 ⟨oi, ci, A, rfl, hI, hl, hc6, hg⟩
    have hz5 := hb.size
    replace hb := below_cur hb hg (by omega)
    go_wp2
    exact bodyPost_ret (v := .tuple #[.int .i64 (5 - q), .slice oi A.length ci]) (by simp [results, Try.results66, go_sem]) rfl ⟨5 - q, oi, ci, A, rfl, hI.based (by omega), by omega, hb⟩
end Go.Proofs.Ytjbmpnbfiahdhaa
namespace Go.Proofs.Ytjbmpnbfiahdhaa
open Go.RowKit
set_option linter.unusedVariables false
set_option maxRecDepth 100000

theorem c_big (oa) (m cap : Nat) (w : World) : Ans Try.prog 30 #[.slice oa m cap] w (.bool (decide ((1048576 : Int) < m))) := by
  unfold Ans
  go_enter Try.func30, Try.ntmps30
  go_wp2
  go_ret
  exact ⟨ret_bool (by simp), Below.refl _ _⟩
theorem c_lawSameInts (oa ob) (ca cb : Nat) (L : List Int) (w : World) (hA : IntsAt w oa L) (hB : IntsAt w ob L) :
    Ans Try.prog 46 #[.slice oa L.length ca, .slice ob L.length cb] w (.bool true) := by
  unfold Ans
  have hn : L.length ≤ 1073741824 := hA.len
  have hne : ((L.length : Int) != L.length) = false := by simp
  go_enter Try.func46, Try.ntmps46
  go_wp2
  go_loopw [5] (fun i wr => ∃ k : Nat, i = .int .i64 k ∧ k ≤ L.length ∧ Below w.heap.size w wr) (fun i _ => L.length - (intOf i).toNat)
  case atStart => exact ⟨0, rfl, Nat.zero_le _, Below.refl _ _⟩
  case round =>
    obtain ⟨k, rfl, hk, hb⟩ := hrel
    by_cases hlt : k < L.length
    · obtain ⟨b, off, rfl, hbs, hc⟩ := hA.at_ (by omega)
      obtain ⟨b', off', rfl, hbs', hc'⟩ := hB.at_ (by omega)
      have h1 := cell_keep (hc k hlt) hb
      have h2 := cell_keep (hc' k hlt) hb
      have hx : (nth L k != nth L k) = false := by simp
      clear hc hc'
      go_wp2_with fail
      (refine wp_region_after (by kernel_rfl) (by kernel_rfl) ?_; have q_h1 := fun (x : After _) => cell_keep h1 x.bel; have q_h2 := fun (x : After _) => cell_keep h2 x.bel; (repeat (go_big_quiet_step (fail))); clear q_h1; clear q_h2; refine wpQuiet_nil ?_; rintro _ ⟨⟨w1, hbn⟩, rfl⟩; (try simp only [After.w]); replace h1 := cell_keep h1 hbn; replace h2 := cell_keep h2 hbn; replace hb := bel_to (w := w) (by first | exact hb | exact hb.alloc hb.size _ | exact (hb.alloc hb.size _).alloc (Nat.le_trans hb.size (by simp)) _ | exact hb.setCell (by simp [hb.size]) _) hbn; clear hbn)
      go_wp2
      go_roundw
      case rel => exact ⟨k + 1, by go_num, by omega, hb⟩
      case measure => simp [intOf]; omega
    · have hkk : k = L.length := by omega
      have HK : Hid (k = L.length) := hkk
      clear hkk
      go_wp2
      go_ret
      exact ⟨rfl, hb⟩
theorem c_lawHas (oa) (ca : Nat) (L : List Int) (x : Int) (w : World) (hA : IntsAt w oa L) (hx : x ∈ L) :
    Ans Try.prog 42 #[.slice oa L.length ca, .int .i64 x] w (.bool true) := by
  unfold Ans
  have hn : L.length ≤ 1073741824 := hA.len
  obtain ⟨j0, hj0⟩ := List.mem_iff_getElem?.1 hx
  have hjl : j0 < L.length := (List.getElem?_eq_some_iff.1 hj0).1
  have HJ : Hid (nth L j0 = x) := by rw [nth_eq hjl] at hj0; exact Option.some.inj hj0
  clear hj0 hx
  go_enter Try.func42, Try.ntmps42
  go_wp2
  go_loopw [5] (fun i wr => ∃ k : Nat, i = .int .i64 k ∧ k ≤ j0 ∧ Below w.heap.size w wr) (fun i _ => L.length - (intOf i).toNat)
  case atStart => exact ⟨0, rfl, Nat.zero_le _, Below.refl _ _⟩
  case round =>
    obtain ⟨k, rfl, hk, hb⟩ := hrel
    have hlt : k < L.length := by omega
    obtain ⟨b, off, rfl, hbs, hc⟩ := hA.at_ (by omega)
    have h1 := cell_keep (hc k hlt) hb
    clear hc
    have HN : Hid (nth L k ≠ x → k < j0) := fun h => by
      have h2 := HJ.out
      rcases Nat.lt_or_ge k j0 with h' | h'
      · exact h'
      · have : k = j0 := by omega
        subst this; exact absurd h2 h
    generalize nth L k = y at *
    by_cases hy : y = x
    · go_wp2
      go_ret
      exact ⟨rfl, hb⟩
    · have hk2 := HN.out hy
      go_wp2
      go_roundw
      case rel => exact ⟨k + 1, by go_num, by omega, hb⟩
      case measure => simp [intOf]; omega
end Go.Proofs.Ytjbmpnbfiahdhaa
namespace Go.Proofs.Ytjbmpnbfiahdhaa
open Go.RowKit
set_option linter.unusedVariables false
set_option maxRecDepth 100000

def agOk (L : List Int) (x r : Int) : Bool := L.all fun y => !(ins x y && !hasc y r)
def depsAOk (n : Int) (L : List Int) : Bool := (decide (1 ≤ n) && decide (n ≤ 5)) && L.all (isAttr n)
def depsAF (n : Int) (L : List Int) : List (Int × Int) := if depsAOk n L then colsF (agOk L) (partsF n) n.toNat else []
theorem depsA_len (n : Int) (L : List Int) : (depsAF n L).length ≤ Room := by
  unfold depsAF
  split
  · next h =>
    unfold depsAOk at h
    simp only [Bool.and_eq_true, decide_eq_true_eq] at h
    have a := colsF_len (agOk L) (partsF n) n.toNat
    have b := partsF_len n
    have c : (partsF n).length * n.toNat ≤ 32 * 5 := Nat.mul_le_mul b (by omega)
    unfold Room; omega
  · simp
theorem c_closA (oa) (cap : Nat) (L : List Int) (x r : Int) (B : Nat) (w : World) (hL : IntsAt w oa L) (hr : 0 ≤ r ∧ r < 64) (a0 : w.cell? ⟨B, 0, none⟩ = some (.slice oa L.length cap)) :
    Ans Try.prog 146 #[.agg #[.int .i64 x, .int .i64 r], .pointer (some ⟨B, 0, none⟩)] w (.bool (agOk L x r)) := by
  unfold Ans
  have hn : L.length ≤ 1073741824 := hL.len
  have hb := (Below.refl w.heap.size w).alloc (Nat.le_refl _) (.cells #[.int .i64 x, .int .i64 r] 55)
  have b0 := cell_al a0 (.cells #[.int .i64 x, .int .i64 r] 55)
  have d0 := box_at w #[.int .i64 x, .int .i64 r] 55 0 _ rfl
  have d1 := box_at w #[.int .i64 x, .int .i64 r] 55 1 _ rfl
  go_enter Try.func146, Try.ntmps146
  go_wp2
  go_loopw [8] (fun i wr => ∃ k : Nat, i = .int .i64 k ∧ k ≤ L.length ∧ (L.take k).all (fun y => !(ins x y && !hasc y r)) = true ∧ wr.cell? ⟨w.heap.size, 0, none⟩ = some (.int .i64 x) ∧ wr.cell? ⟨w.heap.size, 1, none⟩ = some (.int .i64 r) ∧ Below w.heap.size w wr) (fun i _ => L.length - (intOf i).toNat)
  case atStart => exact ⟨0, rfl, Nat.zero_le _, by simp, d0, d1, hb⟩
  case round =>
    clear b0 d0 d1 hb
    obtain ⟨k, rfl, hk, hall, d0, d1, hb⟩ := hrel
    have HA : Hid ((L.take k).all (fun y => !(ins x y && !hasc y r)) = true) := hall
    clear hall
    by_cases hlt : k < L.length
    · obtain ⟨b, off, rfl, hbs, hc⟩ := hL.at_ (by omega)
      have hc1 := cell_keep (hc k hlt) hb
      have HT : Hid ((L.take (k + 1)).all (fun y => !(ins x y && !hasc y r)) = ((L.take k).all (fun y => !(ins x y && !hasc y r)) && !(ins x (nth L k) && !hasc (nth L k) r))) := all_take_succ (fun y => !(ins x y && !hasc y r)) L k hlt
      have HF : Hid ((!(ins x (nth L k) && !hasc (nth L k) r)) = false → agOk L x r = false) := all_false (fun y => !(ins x y && !hasc y r)) L k hlt
      clear hc
      generalize nth L k = y at *
      cases h1 : ins x y
      · go_wp2_with (first | (go_at_call 106; refine Calls.mono (Ans.eqb (c_inside _ _ _) h1) ?_; rintro e w1 ⟨rfl, hbn⟩; replace d0 := cell_keep d0 hbn; replace d1 := cell_keep d1 hbn; replace hb := bel_to (w := w) (by first | exact hb | exact hb.alloc hb.size _ | exact (hb.alloc hb.size _).alloc (Nat.le_trans hb.size (by simp)) _ | exact hb.setCell (by simp [hb.size]) _) hbn; clear hbn))
        go_roundw
        case rel => exact ⟨k + 1, by go_num, by omega, by rw [HT.out, HA.out, h1]; rfl, d0, d1, hb⟩
        case measure => simp [intOf]; omega
      · cases h2 : hasc y r
        · go_wp2_with (first | (go_at_call 106; refine Calls.mono (Ans.eqb (c_inside _ _ _) h1) ?_; rintro e w1 ⟨rfl, hbn⟩; replace d0 := cell_keep d0 hbn; replace d1 := cell_keep d1 hbn; replace hb := bel_to (w := w) (by first | exact hb | exact hb.alloc hb.size _ | exact (hb.alloc hb.size _).alloc (Nat.le_trans hb.size (by simp)) _ | exact hb.setCell (by simp [hb.size]) _) hbn; clear hbn) | (go_at_call 105; refine Calls.mono (Ans.eqb (c_has _ _ hr _) h2) ?_; rintro e w1 ⟨rfl, hbn⟩; replace d0 := cell_keep d0 hbn; replace d1 := cell_keep d1 hbn; replace hb := bel_to (w := w) (by first | exact hb | exact hb.alloc hb.size _ | exact (hb.alloc hb.size _).alloc (Nat.le_trans hb.size (by simp)) _ | exact hb.setCell (by simp [hb.size]) _) hbn; clear hbn))
          go_ret
          exact ⟨ret_bool (HF.out (by rw [h1, h2]; rfl)).symm, hb⟩
        · go_wp2_with (first | (go_at_call 106; refine Calls.mono (Ans.eqb (c_inside _ _ _) h1) ?_; rintro e w1 ⟨rfl, hbn⟩; replace d0 := cell_keep d0 hbn; replace d1 := cell_keep d1 hbn; replace hb := bel_to (w := w) (by first | exact hb | exact hb.alloc hb.size _ | exact (hb.alloc hb.size _).alloc (Nat.le_trans hb.size (by simp)) _ | exact hb.setCell (by simp [hb.size]) _) hbn; clear hbn) | (go_at_call 105; refine Calls.mono (Ans.eqb (c_has _ _ hr _) h2) ?_; rintro e w1 ⟨rfl, hbn⟩; replace d0 := cell_keep d0 hbn; replace d1 := cell_keep d1 hbn; replace hb := bel_to (w := w) (by first | exact hb | exact hb.alloc hb.size _ | exact (hb.alloc hb.size _).alloc (Nat.le_trans hb.size (by simp)) _ | exact hb.setCell (by simp [hb.size]) _) hbn; clear hbn))
          go_roundw
          case rel => exact ⟨k + 1, by go_num, by omega, by rw [HT.out, HA.out, h1, h2]; rfl, d0, d1, hb⟩
          case measure => simp [intOf]; omega
    · have hkk : k = L.length := by omega
      have HS : Hid (agOk L x r = true) := by have := HA.out; rw [hkk, List.take_length] at this; exact this
      clear hkk
      go_wp2
      go_ret
      exact ⟨ret_bool HS.out.symm, hb⟩
theorem ownD_nil (w : World) (base : Nat) : OwnD w base (.slice none 0 0) [] := ⟨rfl, Or.inl ⟨rfl, rfl⟩⟩
set_option maxHeartbeats 800000 in
theorem c_DepsOfAgreeSets (n : Int) (oa) (cap : Nat) (L : List Int) (w : World) (hL : IntsAt w oa L) :
    Calls Try.prog 70 #[.int .i64 n, .slice oa L.length cap] w fun e w' => ∃ v, e = .returned v ∧ OwnD w' w.heap.size v (depsAF n L) ∧ Below w.heap.size w w' := by
  have hn : L.length ≤ 1073741824 := hL.len
  have hb := (Below.refl w.heap.size w).alloc (Nat.le_refl _) (.cells #[.slice oa L.length cap] 68)
  have a0 := box_at w #[.slice oa L.length cap] 68 0 _ rfl
  by_cases h1 : 1 ≤ n
  case neg =>
    have HM : Hid (depsAF n L = []) := by show depsAF n L = []; unfold depsAF depsAOk; rw [decide_eq_false h1]; rfl
    go_enter Try.func70, Try.ntmps70
    go_wp2
    go_ret
    exact ⟨_, rfl, by rw [HM.out]; exact ownD_nil _ _, hb⟩
  by_cases h5 : n ≤ 5
  case neg =>
    have HM : Hid (depsAF n L = []) := by show depsAF n L = []; unfold depsAF depsAOk; rw [decide_eq_false h5]; simp
    go_enter Try.func70, Try.ntmps70
    go_wp2
    go_ret
    exact ⟨_, rfl, by rw [HM.out]; exact ownD_nil _ _, hb⟩
  obtain ⟨N, rfl⟩ := Int.eq_ofNat_of_zero_le (show 0 ≤ n by omega)
  have hN5 : N ≤ 5 := by omega
  have HT : Hid (L.all (isAttr N) = true → depsAF N L = colsF (agOk L) (partsF N) N) := fun h => by unfold depsAF depsAOk; rw [h, decide_eq_true h1, decide_eq_true h5, Int.toNat_natCast]; rfl
  have HN : Hid (L.all (isAttr N) = false → depsAF N L = []) := fun h => by unfold depsAF depsAOk; rw [h]; simp
  go_enter Try.func70, Try.ntmps70
  go_wp2
  go_loopw [15] (fun i wr => ∃ k : Nat, i = .int .i64 k ∧ k ≤ L.length ∧ (L.take k).all (isAttr N) = true ∧ wr.cell? ⟨w.heap.size, 0, none⟩ = some (.slice oa L.length cap) ∧ Below w.heap.size w wr) (fun i _ => L.length - (intOf i).toNat)
  case atStart => exact ⟨0, rfl, Nat.zero_le _, by simp, a0, hb⟩
  case round =>
    clear a0 hb
    obtain ⟨k, rfl, hk, hall, a0, hb⟩ := hrel
    have HA : Hid ((L.take k).all (isAttr N) = true) := hall
    clear hall
    by_cases hlt : k < L.length
    · obtain ⟨b, off, rfl, hbs, hc⟩ := hL.at_ (by omega)
      have hc1 := cell_keep (hc k hlt) hb
      have HS : Hid ((L.take (k + 1)).all (isAttr N) = ((L.take k).all (isAttr N) && isAttr N (nth L k))) := all_take_succ _ L k hlt
      have HF : Hid (isAttr N (nth L k) = false → L.all (isAttr N) = false) := all_false _ L k hlt
      clear hc
      generalize nth L k = x at *
      cases hst : isAttr N x
      · go_wp2_with (first | (go_at_call 116; refine Calls.mono (Ans.eqb (c_isAttributes _ _ _) hst) ?_; rintro e w1 ⟨rfl, hbn⟩; replace a0 := cell_keep a0 hbn; replace hb := bel_to (w := w) (by first | exact hb | exact hb.alloc hb.size _ | exact (hb.alloc hb.size _).alloc (Nat.le_trans hb.size (by simp)) _ | exact hb.setCell (by simp [hb.size]) _) hbn; clear hbn))
        go_ret
        exact ⟨_, rfl, by rw [HN.out (HF.out hst)]; exact ownD_nil _ _, hb⟩
      · go_wp2_with (first | (go_at_call 116; refine Calls.mono (Ans.eqb (c_isAttributes _ _ _) hst) ?_; rintro e w1 ⟨rfl, hbn⟩; replace a0 := cell_keep a0 hbn; replace hb := bel_to (w := w) (by first | exact hb | exact hb.alloc hb.size _ | exact (hb.alloc hb.size _).alloc (Nat.le_trans hb.size (by simp)) _ | exact hb.setCell (by simp [hb.size]) _) hbn; clear hbn))
        go_roundw
        case rel => exact ⟨k + 1, by go_num, by omega, by rw [HS.out, HA.out, hst]; rfl, a0, hb⟩
        case measure => simp [intOf]; omega
    · have hkk : k = L.length := by omega
      have HM : Hid (depsAF N L = colsF (agOk L) (partsF N) N) := HT.out (by have := HA.out; rw [hkk, List.take_length] at this; exact this)
      clear hkk
      go_wp2_with fail
      refine (c_minimalDeps_A N hN5 _ (agOk L) _ ?_).mono ?_
      · intro W x r hst hr hx2 hB
        exact c_closA oa cap L x r _ W ((hL.keep hb).keep hB) (by omega) (cell_keep a0 hB)
      rintro e w2 ⟨v2, rfl, hO, hbn⟩
      replace hO := hO.based hb.size
      replace hb := bel_to hb hbn
      clear hbn
      go_wp2
      go_ret
      exact ⟨_, rfl, by rw [HM.out]; exact hO, hb⟩
end Go.Proofs.Ytjbmpnbfiahdhaa
namespace Go.Proofs.Ytjbmpnbfiahdhaa
open Go.RowKit
set_option linter.unusedVariables false
set_option maxRecDepth 100000

def covF (D : List (Int × Int)) (x r : Int) : Bool := D.any fun o => (o.2 == r) && insA o.1 x
theorem c_l8Covered (oa) (cap : Nat) (D : List (Int × Int)) (x r : Int) (w : World) (hD : DepsAt w oa D) :
    Ans Try.prog 148 #[.slice oa D.length cap, .agg #[.int .i64 x, .int .i64 r]] w (.bool (covF D x r)) := by
  unfold Ans
  have hn : D.length ≤ 1073741824 := hD.len
  have hb := (Below.refl w.heap.size w).alloc (Nat.le_refl _) (.cells #[.int .i64 x, .int .i64 r] 55)
  have d0 := box_at w #[.int .i64 x, .int .i64 r] 55 0 _ rfl
  have d1 := box_at w #[.int .i64 x, .int .i64 r] 55 1 _ rfl
  go_enter Try.func148, Try.ntmps148
  go_wp2
  go_loopw [5] (fun i wr => ∃ k : Nat, i = .int .i64 k ∧ k ≤ D.length ∧ (D.take k).all (fun o => !((o.2 == r) && insA o.1 x)) = true ∧ wr.cell? ⟨w.heap.size, 0, none⟩ = some (.int .i64 x) ∧ wr.cell? ⟨w.heap.size, 1, none⟩ = some (.int .i64 r) ∧ Below w.heap.size w wr) (fun i _ => D.length - (intOf i).toNat)
  case atStart => exact ⟨0, rfl, Nat.zero_le _, by simp, d0, d1, hb⟩
  case round =>
    clear d0 d1 hb
    obtain ⟨k, rfl, hk, hall, d0, d1, hb⟩ := hrel
    have HA : Hid ((D.take k).all (fun o => !((o.2 == r) && insA o.1 x)) = true) := hall
    clear hall
    by_cases hlt : k < D.length
    · obtain ⟨b, off, rfl, hbs, hc⟩ := hD.at_ (by omega)
      have hc1 := cell_keep (hc k hlt).1 hb
      have hc2 := cell_keep (hc k hlt).2 hb
      have HT : Hid ((D.take (k + 1)).all (fun o => !((o.2 == r) && insA o.1 x)) = ((D.take k).all (fun o => !((o.2 == r) && insA o.1 x)) && !((nr D k == r) && insA (nl D k) x))) := dall_take_succ (fun o => !((o.2 == r) && insA o.1 x)) D k hlt
      have HY : Hid (((nr D k == r) && insA (nl D k) x) = true → covF D x r = true) := fun h => List.any_eq_true.2 ⟨(nl D k, nr D k), List.mem_iff_getElem?.2 ⟨k, dnth_eq hlt⟩, h⟩
      clear hc
      generalize nl D k = l at *
      generalize nr D k = q at *
      cases h1 : (q == r)
      · go_wp2_with fail
        (refine wp_region_after (by kernel_rfl) (by kernel_rfl) ?_; have q_d0 := fun (x : After _) => cell_keep d0 x.bel; have q_d1 := fun (x : After _) => cell_keep d1 x.bel; have q_hc1 := fun (x : After _) => cell_keep hc1 x.bel; have q_hc2 := fun (x : After _) => cell_keep hc2 x.bel; (repeat (go_big_quiet_step (fail))); clear q_d0; clear q_d1; clear q_hc1; clear q_hc2; refine wpQuiet_nil ?_; rintro _ ⟨⟨w1, hbn⟩, rfl⟩; (try simp only [After.w]); replace d0 := cell_keep d0 hbn; replace d1 := cell_keep d1 hbn; replace hc1 := cell_keep hc1 hbn; replace hc2 := cell_keep hc2 hbn; replace hb := bel_to (w := w) (by first | exact hb | exact hb.alloc hb.size _ | exact (hb.alloc hb.size _).alloc (Nat.le_trans hb.size (by simp)) _ | exact hb.setCell (by simp [hb.size]) _) hbn; clear hbn)
        go_wp2
        go_roundw
        case rel => exact ⟨k + 1, by go_num, by omega, by rw [HT.out, HA.out, h1]; rfl, d0, d1, hb⟩
        case measure => simp [intOf]; omega
      · cases h2 : (bits BinOp.and .i64 l x == l)
        · go_wp2_with fail
          (refine wp_region_after (by kernel_rfl) (by kernel_rfl) ?_; have q_d0 := fun (x : After _) => cell_keep d0 x.bel; have q_d1 := fun (x : After _) => cell_keep d1 x.bel; have q_hc1 := fun (x : After _) => cell_keep hc1 x.bel; have q_hc2 := fun (x : After _) => cell_keep hc2 x.bel; (repeat (go_big_quiet_step (fail))); clear q_d0; clear q_d1; clear q_hc1; clear q_hc2; refine wpQuiet_nil ?_; rintro _ ⟨⟨w1, hbn⟩, rfl⟩; (try simp only [After.w]); replace d0 := cell_keep d0 hbn; replace d1 := cell_keep d1 hbn; replace hc1 := cell_keep hc1 hbn; replace hc2 := cell_keep hc2 hbn; replace hb := bel_to (w := w) (by first | exact hb | exact hb.alloc hb.size _ | exact (hb.alloc hb.size _).alloc (Nat.le_trans hb.size (by simp)) _ | exact hb.setCell (by simp [hb.size]) _) hbn; clear hbn)
          go_wp2
          go_roundw
          case rel => exact ⟨k + 1, by go_num, by omega, by rw [HT.out, HA.out, h1]; unfold insA; rw [h2]; rfl, d0, d1, hb⟩
          case measure => simp [intOf]; omega
        · go_wp2_with fail
          (refine wp_region_after (by kernel_rfl) (by kernel_rfl) ?_; have q_d0 := fun (x : After _) => cell_keep d0 x.bel; have q_d1 := fun (x : After _) => cell_keep d1 x.bel; have q_hc1 := fun (x : After _) => cell_keep hc1 x.bel; have q_hc2 := fun (x : After _) => cell_keep hc2 x.bel; (repeat (go_big_quiet_step (fail))); clear q_d0; clear q_d1; clear q_hc1; clear q_hc2; refine wpQuiet_nil ?_; rintro _ ⟨⟨w1, hbn⟩, rfl⟩; (try simp only [After.w]); replace d0 := cell_keep d0 hbn; replace d1 := cell_keep d1 hbn; replace hc1 := cell_keep hc1 hbn; replace hc2 := cell_keep hc2 hbn; replace hb := bel_to (w := w) (by first | exact hb | exact hb.alloc hb.size _ | exact (hb.alloc hb.size _).alloc (Nat.le_trans hb.size (by simp)) _ | exact hb.setCell (by simp [hb.size]) _) hbn; clear hbn)
          go_wp2
          go_ret
          exact ⟨ret_bool (HY.out (by rw [h1]; unfold insA; rw [h2]; rfl)).symm, hb⟩
    · have hkk : k = D.length := by omega
      have HS : Hid (covF D x r = false) := by
        have h := HA.out
        rw [hkk, List.take_length, List.all_eq_true] at h
        show covF D x r = false
        unfold covF
        rw [List.any_eq_false]
        intro y hy
        have := h y hy
        intro e
        rw [e] at this
        cases this
      clear hkk
      go_wp2
      go_ret
      exact ⟨ret_bool HS.out.symm, hb⟩
end Go.Proofs.Ytjbmpnbfiahdhaa
namespace Go.Proofs.Ytjbmpnbfiahdhaa
open Go.RowKit
set_option linter.unusedVariables false
set_option maxRecDepth 100000

theorem stepM_sub {p : Int → Int → Bool} {r : Int} {T : List Int} {x y : Int} (h : y ∈ stepM p r T x) : y ∈ T ∨ y = x := by
  unfold stepM at h
  split at h
  · simpa using h
  · exact .inl h
theorem taken_sub (p : Int → Int → Bool) (r : Int) (P : List Int) : ∀ k, k ≤ P.length → ∀ y ∈ takenF p r (P.take k), y ∈ P
  | 0, _, y, hy => by simp [takenF] at hy
  | k + 1, hk, y, hy => by
    rw [taken_succ p r (by omega)] at hy
    rcases stepM_sub hy with h | h
    · exact taken_sub p r P k (by omega) y h
    · rw [h]; exact List.mem_iff_getElem?.2 ⟨k, nth_eq (by omega)⟩
theorem cols_right {p : Int → Int → Bool} {P : List Int} {n : Nat} : ∀ o ∈ colsF p P n, o.2 < (n : Int) := by
  intro o ho
  unfold colsF at ho
  obtain ⟨r, hr, ho⟩ := List.mem_flatMap.1 ho
  unfold colF at ho
  obtain ⟨x, _, rfl⟩ := List.mem_map.1 ho
  have := List.mem_range.1 hr
  simp; omega
theorem cov_out {p : Int → Int → Bool} {P T : List Int} {n : Nat} {x : Int} (hT : ∀ y ∈ T, St y) (hx : St x) : covF (colsF p P n ++ T.map fun y => (y, (n : Int))) x n = anyIns T x := by
  unfold covF anyIns
  rw [List.any_append]
  have e1 : (colsF p P n).any (fun o => (o.2 == (n : Int)) && insA o.1 x) = false := by
    rw [List.any_eq_false]
    intro o ho
    have := cols_right o ho
    have : (o.2 == (n : Int)) = false := by simp; omega
    rw [this]; simp
  rw [e1, Bool.false_or, List.any_map, Bool.eq_iff_iff, List.any_eq_true, List.any_eq_true]
  constructor
  · rintro ⟨y, hy, h⟩; exact ⟨y, hy, by simp only [Function.comp, beq_self_eq_true, Bool.true_and] at h; rw [insA_eq (hT y hy) hx] at h; exact h⟩
  · rintro ⟨y, hy, h⟩; exact ⟨y, hy, by simp only [Function.comp, beq_self_eq_true, Bool.true_and]; rw [insA_eq (hT y hy) hx]; exact h⟩
set_option maxHeartbeats 3200000 in
theorem c_specDepsOfAgreeSets (n : Int) (oa) (cap : Nat) (L : List Int) (w : World) (hL : IntsAt w oa L) :
    Calls Try.prog 71 #[.int .i64 n, .slice oa L.length cap] w fun e w' => ∃ v, e = .returned v ∧ OwnD w' w.heap.size v (depsAF n L) ∧ Below w.heap.size w w' := by
  obtain ⟨j0, hj, hy0, hy1, hy2⟩ := info_parts info_dep
  have hn : L.length ≤ 1073741824 := hL.len
  have hb := (Below.refl w.heap.size w).alloc (Nat.le_refl _) (.cells #[] 55)
  have hO := OwnD.empty w w.heap.size (Nat.le_refl _)
  cases hin : inB n 1 5
  · have HM : Hid (depsAF n L = []) := by show depsAF n L = []; unfold depsAF depsAOk; unfold inB at hin; rw [hin]; rfl
    go_enter Try.func71, Try.ntmps71
    go_wp2_with (first | (go_at_call 109; refine Calls.mono (Ans.eqb (c_l1In _ _ _ _) hin) ?_; rintro e w1 ⟨rfl, hbn⟩; replace hO := hO.keep hbn; replace hb := bel_to (w := w) (by first | exact hb | exact hb.alloc hb.size _ | exact (hb.alloc hb.size _).alloc (Nat.le_trans hb.size (by simp)) _ | exact hb.setCell (by simp [hb.size]) _) hbn; clear hbn))
    go_ret
    exact ⟨_, rfl, by rw [HM.out]; exact hO, hb⟩
  have h15 : 1 ≤ n ∧ n ≤ 5 := by unfold inB at hin; simpa using hin
  obtain ⟨N, rfl⟩ := Int.eq_ofNat_of_zero_le (show 0 ≤ n by omega)
  have hN5 : N ≤ 5 := by omega
  have HT0 : Hid (L.all (isAttr N) = true → depsAF N L = colsF (agOk L) (partsF N) N) := fun h => by unfold depsAF depsAOk; rw [h, decide_eq_true h15.1, decide_eq_true h15.2, Int.toNat_natCast]; rfl
  have HN : Hid (L.all (isAttr N) = false → depsAF N L = []) := fun h => by unfold depsAF depsAOk; rw [h]; simp
  go_enter Try.func71, Try.ntmps71
  go_wp2_with (first | (go_at_call 109; refine Calls.mono (Ans.eqb (c_l1In _ _ _ _) hin) ?_; rintro e w1 ⟨rfl, hbn⟩; replace hO := hO.keep hbn; replace hb := bel_to (w := w) (by first | exact hb | exact hb.alloc hb.size _ | exact (hb.alloc hb.size _).alloc (Nat.le_trans hb.size (by simp)) _ | exact hb.setCell (by simp [hb.size]) _) hbn; clear hbn))
  go_loopw [6] (fun i wr => ∃ k : Nat, i = .int .i64 k ∧ k ≤ L.length ∧ (L.take k).all (isAttr N) = true ∧ OwnD wr w.heap.size (.slice (some ⟨w.heap.size, 0, none⟩) 0 0) [] ∧ Below w.heap.size w wr) (fun i _ => L.length - (intOf i).toNat)
  case atStart => exact ⟨0, rfl, Nat.zero_le _, by simp, hO, hb⟩
  case round =>
    clear hO hb
    obtain ⟨k, rfl, hk, hall, hO, hb⟩ := hrel
    have HA : Hid ((L.take k).all (isAttr N) = true) := hall
    clear hall
    by_cases hlt : k < L.length
    · obtain ⟨b, off, rfl, hbs, hc⟩ := hL.at_ (by omega)
      have hc1 := cell_keep (hc k hlt) hb
      have HS : Hid ((L.take (k + 1)).all (isAttr N) = ((L.take k).all (isAttr N) && isAttr N (nth L k))) := all_take_succ _ L k hlt
      have HF : Hid (isAttr N (nth L k) = false → L.all (isAttr N) = false) := all_false _ L k hlt
      clear hc
      generalize nth L k = x at *
      cases hst : isAttr N x
      · go_wp2_with (first | (go_at_call 49; refine Calls.mono (Ans.eqb (c_specIsAttributes _ _ _) hst) ?_; rintro e w1 ⟨rfl, hbn⟩; replace hO := hO.keep hbn; replace hb := bel_to (w := w) (by first | exact hb | exact hb.alloc hb.size _ | exact (hb.alloc hb.size _).alloc (Nat.le_trans hb.size (by simp)) _ | exact hb.setCell (by simp [hb.size]) _) hbn; clear hbn))
        go_ret
        exact ⟨_, rfl, by rw [HN.out (HF.out hst)]; exact hO, hb⟩
      · go_wp2_with (first | (go_at_call 49; refine Calls.mono (Ans.eqb (c_specIsAttributes _ _ _) hst) ?_; rintro e w1 ⟨rfl, hbn⟩; replace hO := hO.keep hbn; replace hb := bel_to (w := w) (by first | exact hb | exact hb.alloc hb.size _ | exact (hb.alloc hb.size _).alloc (Nat.le_trans hb.size (by simp)) _ | exact hb.setCell (by simp [hb.size]) _) hbn; clear hbn))
        go_roundw
        case rel => exact ⟨k + 1, by go_num, by omega, by rw [HS.out, HA.out, hst]; rfl, hO, hb⟩
        case measure => simp [intOf]; omega
    · have hkk : k = L.length := by omega
      have hall : L.all (isAttr N) = true := by have := HA.out; rw [hkk, List.take_length] at this; exact this
      have HM : Hid (depsAF N L = colsF (agOk L) (partsF N) N) := HT0.out hall
      have HLS : Hid (∀ y ∈ L, St y) := fun y hy => (isAttr_st (List.all_eq_true.1 hall y hy)).1
      have hpl := partsF_len N
      have HPS : Hid (∀ x ∈ partsF N, St x) := fun x hx => by
        have h := (partsF_mem (n := N) (by omega) (by omega)).1 hx
        have h2 := (pow_wrap (n := (N : Int)) (by omega) (by omega)).2.1
        exact ⟨h.1, by omega⟩
      clear hkk hall HA
      go_wp2_with fail
      have old := hO
      refine (c_specPartsBySize (N : Int) _).mono ?_
      rintro e w2 ⟨v2, rfl, hP, hbn⟩
      have ap_PO := (apart_old old hP).symm
      replace hO := hO.keep hbn
      replace hP := hP.based hb.size
      replace hb := bel_to hb hbn
      clear old hbn
      have HGS : Hid (∀ k : Nat, colsF (agOk L) (partsF N) (k + 1) = colsF (agOk L) (partsF N) k ++ colF (agOk L) (partsF N) k) := fun k => colsF_succ _ _ _
      have HCL : Hid (∀ k : Nat, (colsF (agOk L) (partsF N) k).length ≤ 32 * k) := fun k => Nat.le_trans (colsF_len _ _ k) (Nat.mul_le_mul_right _ hpl)
      generalize partsF N = P at *
      obtain ⟨o1, c1, rfl⟩ := hP.shape
      have hPr : P.length ≤ Room := by unfold Room; omega
      go_wp2
      go_loopw [5, 8] (fun v i wr => ∃ r : Nat, i = .int .i64 r ∧ r ≤ N ∧ OwnD wr w.heap.size v (colsF (agOk L) P r) ∧ OwnI wr w.heap.size (.slice o1 P.length c1) P ∧ Apart (.slice o1 P.length c1) v ∧ Below w.heap.size w wr) (fun _ i _ => N - (intOf i).toNat)
      case atStart => exact ⟨0, rfl, Nat.zero_le _, by simpa [colsF] using hO, hP, ap_PO, hb⟩
      case round =>
        clear hO hP ap_PO hb
        obtain ⟨r, rfl, hr, hO, hP, ap_PO, hb⟩ := hrel
        have hcl := HCL.out r
        by_cases hrt : r < N
        · have HC : Hid (colsF (agOk L) P (r + 1) = colsF (agOk L) P r ++ colF (agOk L) P r) := HGS.out r
          have HCV : Hid (∀ (T : List Int) (x : Int), (∀ y ∈ T, St y) → St x → covF (colsF (agOk L) P r ++ T.map fun y => (y, (r : Int))) x r = anyIns T x) := fun T x h1 h2 => cov_out h1 h2
          generalize colsF (agOk L) P r = A at *
          go_wp2
          go_loopw [5, 9] (fun v i wr => ∃ k : Nat, i = .int .i64 k ∧ k ≤ P.length ∧ OwnD wr w.heap.size v (A ++ colF (agOk L) (P.take k) r) ∧ OwnI wr w.heap.size (.slice o1 P.length c1) P ∧ Apart (.slice o1 P.length c1) v ∧ Below w.heap.size w wr) (fun _ i _ => P.length - (intOf i).toNat)
          case atStart => exact ⟨0, rfl, Nat.zero_le _, by simpa [colF, takenF] using hO, hP, ap_PO, hb⟩
          case round =>
            clear hO hP ap_PO hb
            obtain ⟨k, rfl, hk, hO, hP, ap_PO, hb⟩ := hrel
            by_cases hlk : k < P.length
            · obtain ⟨b2, off2, rfl, hbs2, hca⟩ := (hP.ints rfl hPr).at_ (by omega)
              have hc2 := hca k hlk
              have hst : Hid (St (nth P k)) := HPS.out _ (List.mem_iff_getElem?.2 ⟨k, nth_eq hlk⟩)
              have hTs : Hid (∀ y ∈ takenF (agOk L) r (P.take k), St y) := fun y hy => HPS.out y (taken_sub _ _ _ k hk y hy)
              have hOl : (A ++ colF (agOk L) (P.take k) r).length ≤ 300 := by
                have h := colF_len (agOk L) (P.take k) r
                rw [List.length_take] at h
                rw [List.length_append]
                omega
              have HOs : Hid (A ++ colF (agOk L) (P.take (k + 1)) r = A ++ (stepM (agOk L) r (takenF (agOk L) r (P.take k)) (nth P k)).map fun x => (x, (r : Int))) := by
                show A ++ colF (agOk L) (P.take (k + 1)) r = A ++ (stepM (agOk L) r (takenF (agOk L) r (P.take k)) (nth P k)).map fun x => (x, (r : Int))
                unfold colF; rw [taken_succ _ _ hlk]
              have HOk : Hid (A ++ colF (agOk L) (P.take k) r = A ++ (takenF (agOk L) r (P.take k)).map fun x => (x, (r : Int))) := rfl
              have HCX : Hid (covF (A ++ colF (agOk L) (P.take k) r) (nth P k) r = anyIns (takenF (agOk L) r (P.take k)) (nth P k)) := by
                show covF (A ++ colF (agOk L) (P.take k) r) (nth P k) r = _
                rw [HOk.out]; exact HCV.out _ _ hTs.out hst.out
              clear hca
              generalize nth P k = x at *
              generalize takenF (agOk L) r (P.take k) = T at *
              generalize A ++ colF (agOk L) (P.take k) r = C at *
              have hCr : C.length ≤ Room := by unfold Room; omega
              have e0 := box_at wr #[.int .i64 x, .int .i64 (r : Int)] 55 0 _ rfl
              have e1 := box_at wr #[.int .i64 x, .int .i64 (r : Int)] 55 1 _ rfl
              obtain ⟨oC, cC, rfl⟩ := hO.shape
              have hcop : Hid (Co (r : Int)) := ⟨by omega, by omega⟩
              have HF0 : Hid (stepM (agOk L) r T x = if (!hasc x r && !covF C x r) && agOk L x r then T ++ [x] else T) := by
                show stepM (agOk L) r T x = _
                unfold stepM; rw [HCX.out]
              replace hO := World.ownsRow.alloc hO (.cells #[.int .i64 x, .int .i64 (r : Int)] 55)
              replace hP := World.ownsRow.alloc hP (.cells #[.int .i64 x, .int .i64 (r : Int)] 55)
              have hB := hb.alloc hb.size (.cells #[.int .i64 x, .int .i64 (r : Int)] 55)
              have hC0 : DepsAt (wr.alloc (.cells #[.int .i64 x, .int .i64 (r : Int)] 55)) oC C := OwnD.deps hO rfl hCr
              have hc3 := cell_al hc2 (.cells #[.int .i64 x, .int .i64 (r : Int)] 55)
              cases h1 : hasc x (r : Int)
              case true =>
                have h1' : (bits BinOp.and .i64 (x / 2 ^ r) 1 == 0) = false := (hasn_eq hst.out hcop.out).trans (by rw [h1]; rfl)
                go_wp2_with fail
                go_loopw [11, 12] (fun f i wi => ∃ j : Nat, f = .bool false ∧ i = .int .i64 j ∧ j ≤ L.length ∧ OwnD wi w.heap.size (.slice oC C.length cC) C ∧ OwnI wi w.heap.size (.slice (some ⟨b2, off2, none⟩) P.length c1) P ∧ Apart (.slice (some ⟨b2, off2, none⟩) P.length c1) (.slice oC C.length cC) ∧ wi.cell? (⟨b2, off2 + k, none⟩) = some (.int .i64 x) ∧ wi.cell? ⟨wr.heap.size, 0, none⟩ = some (.int .i64 x) ∧ wi.cell? ⟨wr.heap.size, 1, none⟩ = some (.int .i64 (r : Int)) ∧ Below w.heap.size w wi) (fun _ i _ => L.length - (intOf i).toNat)
                case atStart => exact ⟨0, rfl, rfl, Nat.zero_le _, hO, hP, ap_PO, hc3, e0, e1, hB⟩
                case round =>
                  clear hO hP ap_PO hc3 e0 e1 hB
                  obtain ⟨j, hf, rfl, hj1, hO, hP, ap_PO, hc3, e0, e1, hb⟩ := hrel
                  by_cases hlj : j < L.length
                  · obtain ⟨bL, offL, rfl, hbsL, hcL⟩ := hL.at_ (by omega)
                    have hcj := cell_keep (hcL j hlj) hb
                    clear hcL
                    subst hf
                    go_wp2
                    (refine wp_region_after (by kernel_rfl) (by kernel_rfl) ?_; have q_e0 := fun (x : After _) => cell_keep e0 x.bel; have q_e1 := fun (x : After _) => cell_keep e1 x.bel; have q_hc3 := fun (x : After _) => cell_keep hc3 x.bel; have q_hcj := fun (x : After _) => cell_keep hcj x.bel; (repeat (go_big_quiet_step (fail))); clear q_e0; clear q_e1; clear q_hc3; clear q_hcj; refine wpQuiet_nil ?_; rintro _ ⟨⟨w1, hbn⟩, rfl⟩; (try simp only [After.w]); replace e0 := cell_keep e0 hbn; replace e1 := cell_keep e1 hbn; replace hc3 := cell_keep hc3 hbn; replace hcj := cell_keep hcj hbn; replace hO := OwnD.keep hO hbn; replace hP := OwnI.keep hP hbn; replace hb := bel_to (w := w) (by first | exact hb | exact hb.alloc hb.size _ | exact (hb.alloc hb.size _).alloc (Nat.le_trans hb.size (by simp)) _ | exact hb.setCell (by simp [hb.size]) _) hbn; clear hbn)
                    go_wp2
                    go_roundw
                    case rel => exact ⟨j + 1, rfl, by go_num, by omega, hO, hP, ap_PO, hc3, e0, e1, hb⟩
                    case measure => simp [intOf]; omega
                  · subst hf
                    go_wp2
                    go_roundw
                    case rel => exact ⟨k + 1, by go_num, by omega, by rw [HOs.out, HF0.out, h1]; simpa [HOk.out] using hO, hP, ap_PO, hb⟩
                    case measure => simp [intOf]; omega
              have h1' : (bits BinOp.and .i64 (x / 2 ^ r) 1 == 0) = true := (hasn_eq hst.out hcop.out).trans (by rw [h1]; rfl)
              cases h2 : covF C x (r : Int)
              case true =>
                go_wp2_with fail
                refine Calls.mono (Ans.eqb (b' := true) (c_l8Covered _ _ C x r _ hC0) h2) ?_
                rintro e w3 ⟨rfl, hbn⟩
                replace e0 := cell_keep e0 hbn
                replace e1 := cell_keep e1 hbn
                replace hc3 := cell_keep hc3 hbn
                replace hO := OwnD.keep hO hbn
                replace hP := OwnI.keep hP hbn
                replace hB := bel_to hB hbn
                clear hbn hC0
                go_wp2
                go_loopw [11, 12] (fun f i wi => ∃ j : Nat, f = .bool false ∧ i = .int .i64 j ∧ j ≤ L.length ∧ OwnD wi w.heap.size (.slice oC C.length cC) C ∧ OwnI wi w.heap.size (.slice (some ⟨b2, off2, none⟩) P.length c1) P ∧ Apart (.slice (some ⟨b2, off2, none⟩) P.length c1) (.slice oC C.length cC) ∧ wi.cell? (⟨b2, off2 + k, none⟩) = some (.int .i64 x) ∧ wi.cell? ⟨wr.heap.size, 0, none⟩ = some (.int .i64 x) ∧ wi.cell? ⟨wr.heap.size, 1, none⟩ = some (.int .i64 (r : Int)) ∧ Below w.heap.size w wi) (fun _ i _ => L.length - (intOf i).toNat)
                case atStart => exact ⟨0, rfl, rfl, Nat.zero_le _, hO, hP, ap_PO, hc3, e0, e1, hB⟩
                case round =>
                  clear hO hP ap_PO hc3 e0 e1 hB
                  obtain ⟨j, hf, rfl, hj1, hO, hP, ap_PO, hc3, e0, e1, hb⟩ := hrel
                  by_cases hlj : j < L.length
                  · obtain ⟨bL, offL, rfl, hbsL, hcL⟩ := hL.at_ (by omega)
                    have hcj := cell_keep (hcL j hlj) hb
                    clear hcL
                    subst hf
                    go_wp2
                    (refine wp_region_after (by kernel_rfl) (by kernel_rfl) ?_; have q_e0 := fun (x : After _) => cell_keep e0 x.bel; have q_e1 := fun (x : After _) => cell_keep e1 x.bel; have q_hc3 := fun (x : After _) => cell_keep hc3 x.bel; have q_hcj := fun (x : After _) => cell_keep hcj x.bel; (repeat (go_big_quiet_step (fail))); clear q_e0; clear q_e1; clear q_hc3; clear q_hcj; refine wpQuiet_nil ?_; rintro _ ⟨⟨w1, hbn⟩, rfl⟩; (try simp only [After.w]); replace e0 := cell_keep e0 hbn; replace e1 := cell_keep e1 hbn; replace hc3 := cell_keep hc3 hbn; replace hcj := cell_keep hcj hbn; replace hO := OwnD.keep hO hbn; replace hP := OwnI.keep hP hbn; replace hb := bel_to (w := w) (by first | exact hb | exact hb.alloc hb.size _ | exact (hb.alloc hb.size _).alloc (Nat.le_trans hb.size (by simp)) _ | exact hb.setCell (by simp [hb.size]) _) hbn; clear hbn)
                    go_wp2
                    go_roundw
                    case rel => exact ⟨j + 1, rfl, by go_num, by omega, hO, hP, ap_PO, hc3, e0, e1, hb⟩
                    case measure => simp [intOf]; omega
                  · subst hf
                    go_wp2
                    go_roundw
                    case rel => exact ⟨k + 1, by go_num, by omega, by rw [HOs.out, HF0.out, h1, h2]; simpa [HOk.out] using hO, hP, ap_PO, hb⟩
                    case measure => simp [intOf]; omega
              case false =>
                go_wp2_with fail
                refine Calls.mono (Ans.eqb (b' := false) (c_l8Covered _ _ C x r _ hC0) h2) ?_
                rintro e w3 ⟨rfl, hbn⟩
                replace e0 := cell_keep e0 hbn
                replace e1 := cell_keep e1 hbn
                replace hc3 := cell_keep hc3 hbn
                replace hO := OwnD.keep hO hbn
                replace hP := OwnI.keep hP hbn
                replace hB := bel_to hB hbn
                clear hbn hC0
                go_wp2
                go_loopw [11, 12] (fun f i wi => ∃ j : Nat, f = .bool ((L.take j).all fun y => !(ins x y && !hasc y r)) ∧ i = .int .i64 j ∧ j ≤ L.length ∧ OwnD wi w.heap.size (.slice oC C.length cC) C ∧ OwnI wi w.heap.size (.slice (some ⟨b2, off2, none⟩) P.length c1) P ∧ Apart (.slice (some ⟨b2, off2, none⟩) P.length c1) (.slice oC C.length cC) ∧ wi.cell? (⟨b2, off2 + k, none⟩) = some (.int .i64 x) ∧ wi.cell? ⟨wr.heap.size, 0, none⟩ = some (.int .i64 x) ∧ wi.cell? ⟨wr.heap.size, 1, none⟩ = some (.int .i64 (r : Int)) ∧ Below w.heap.size w wi) (fun _ i _ => L.length - (intOf i).toNat)
                case atStart => exact ⟨0, by simp, rfl, Nat.zero_le _, hO, hP, ap_PO, hc3, e0, e1, hB⟩
                case round =>
                  clear hO hP ap_PO hc3 e0 e1 hB
                  obtain ⟨j, hf, rfl, hj1, hO, hP, ap_PO, hc3, e0, e1, hb⟩ := hrel
                  by_cases hlj : j < L.length
                  · obtain ⟨bL, offL, rfl, hbsL, hcL⟩ := hL.at_ (by omega)
                    have hcj := cell_keep (hcL j hlj) hb
                    clear hcL
                    have HS : Hid ((L.take (j + 1)).all (fun y => !(ins x y && !hasc y r)) = ((L.take j).all (fun y => !(ins x y && !hasc y r)) && !(ins x (nth L j) && !hasc (nth L j) r))) := all_take_succ (fun y => !(ins x y && !hasc y r)) L j hlj
                    have hsy : Hid (St (nth L j)) := HLS.out _ (List.mem_iff_getElem?.2 ⟨j, nth_eq hlj⟩)
                    generalize nth L j = y at *
                    generalize (L.take j).all (fun y => !(ins x y && !hasc y r)) = f0 at *
                    subst hf
                    cases f0
                    · skip
                      go_wp2
                      (refine wp_region_after (by kernel_rfl) (by kernel_rfl) ?_; have q_e0 := fun (x : After _) => cell_keep e0 x.bel; have q_e1 := fun (x : After _) => cell_keep e1 x.bel; have q_hc3 := fun (x : After _) => cell_keep hc3 x.bel; have q_hcj := fun (x : After _) => cell_keep hcj x.bel; (repeat (go_big_quiet_step (fail))); clear q_e0; clear q_e1; clear q_hc3; clear q_hcj; refine wpQuiet_nil ?_; rintro _ ⟨⟨w1, hbn⟩, rfl⟩; (try simp only [After.w]); replace e0 := cell_keep e0 hbn; replace e1 := cell_keep e1 hbn; replace hc3 := cell_keep hc3 hbn; replace hcj := cell_keep hcj hbn; replace hO := OwnD.keep hO hbn; replace hP := OwnI.keep hP hbn; replace hb := bel_to (w := w) (by first | exact hb | exact hb.alloc hb.size _ | exact (hb.alloc hb.size _).alloc (Nat.le_trans hb.size (by simp)) _ | exact hb.setCell (by simp [hb.size]) _) hbn; clear hbn)
                      go_wp2
                      go_roundw
                      case rel => exact ⟨j + 1, by rw [HS.out]; rfl, by go_num, by omega, hO, hP, ap_PO, hc3, e0, e1, hb⟩
                      case measure => simp [intOf]; omega
                    · cases h4 : ins x y
                      · have h4' : (bits BinOp.and .i64 y x == x) = false := (and_swap hsy.out hst.out).trans h4
                        have h4'' : (bits BinOp.and .i64 y x != x) = true := by simp [bne, h4']
                        go_wp2
                        (refine wp_region_after (by kernel_rfl) (by kernel_rfl) ?_; have q_e0 := fun (x : After _) => cell_keep e0 x.bel; have q_e1 := fun (x : After _) => cell_keep e1 x.bel; have q_hc3 := fun (x : After _) => cell_keep hc3 x.bel; have q_hcj := fun (x : After _) => cell_keep hcj x.bel; (repeat (go_big_quiet_step (fail))); clear q_e0; clear q_e1; clear q_hc3; clear q_hcj; refine wpQuiet_nil ?_; rintro _ ⟨⟨w1, hbn⟩, rfl⟩; (try simp only [After.w]); replace e0 := cell_keep e0 hbn; replace e1 := cell_keep e1 hbn; replace hc3 := cell_keep hc3 hbn; replace hcj := cell_keep hcj hbn; replace hO := OwnD.keep hO hbn; replace hP := OwnI.keep hP hbn; replace hb := bel_to (w := w) (by first | exact hb | exact hb.alloc hb.size _ | exact (hb.alloc hb.size _).alloc (Nat.le_trans hb.size (by simp)) _ | exact hb.setCell (by simp [hb.size]) _) hbn; clear hbn)
                        go_wp2
                        go_roundw
                        case rel => exact ⟨j + 1, by rw [HS.out, h4]; rfl, by go_num, by omega, hO, hP, ap_PO, hc3, e0, e1, hb⟩
                        case measure => simp [intOf]; omega
                      · have h4' : (bits BinOp.and .i64 y x == x) = true := (and_swap hsy.out hst.out).trans h4
                        have h4'' : (bits BinOp.and .i64 y x != x) = false := by simp [bne, h4']
                        cases h5 : hasc y (r : Int)
                        · have h5' : (bits BinOp.and .i64 (y / 2 ^ r) 1 == 1) = false := h5
                          go_wp2
                          (refine wp_region_after (by kernel_rfl) (by kernel_rfl) ?_; have q_e0 := fun (x : After _) => cell_keep e0 x.bel; have q_e1 := fun (x : After _) => cell_keep e1 x.bel; have q_hc3 := fun (x : After _) => cell_keep hc3 x.bel; have q_hcj := fun (x : After _) => cell_keep hcj x.bel; (repeat (go_big_quiet_step (fail))); clear q_e0; clear q_e1; clear q_hc3; clear q_hcj; refine wpQuiet_nil ?_; rintro _ ⟨⟨w1, hbn⟩, rfl⟩; (try simp only [After.w]); replace e0 := cell_keep e0 hbn; replace e1 := cell_keep e1 hbn; replace hc3 := cell_keep hc3 hbn; replace hcj := cell_keep hcj hbn; replace hO := OwnD.keep hO hbn; replace hP := OwnI.keep hP hbn; replace hb := bel_to (w := w) (by first | exact hb | exact hb.alloc hb.size _ | exact (hb.alloc hb.size _).alloc (Nat.le_trans hb.size (by simp)) _ | exact hb.setCell (by simp [hb.size]) _) hbn; clear hbn)
                          go_wp2
                          go_roundw
                          case rel => exact ⟨j + 1, by rw [HS.out, h4, h5]; rfl, by go_num, by omega, hO, hP, ap_PO, hc3, e0, e1, hb⟩
                          case measure => simp [intOf]; omega
                        · have h5' : (bits BinOp.and .i64 (y / 2 ^ r) 1 == 1) = true := h5
                          go_wp2
                          (refine wp_region_after (by kernel_rfl) (by kernel_rfl) ?_; have q_e0 := fun (x : After _) => cell_keep e0 x.bel; have q_e1 := fun (x : After _) => cell_keep e1 x.bel; have q_hc3 := fun (x : After _) => cell_keep hc3 x.bel; have q_hcj := fun (x : After _) => cell_keep hcj x.bel; (repeat (go_big_quiet_step (fail))); clear q_e0; clear q_e1; clear q_hc3; clear q_hcj; refine wpQuiet_nil ?_; rintro _ ⟨⟨w1, hbn⟩, rfl⟩; (try simp only [After.w]); replace e0 := cell_keep e0 hbn; replace e1 := cell_keep e1 hbn; replace hc3 := cell_keep hc3 hbn; replace hcj := cell_keep hcj hbn; replace hO := OwnD.keep hO hbn; replace hP := OwnI.keep hP hbn; replace hb := bel_to (w := w) (by first | exact hb | exact hb.alloc hb.size _ | exact (hb.alloc hb.size _).alloc (Nat.le_trans hb.size (by simp)) _ | exact hb.setCell (by simp [hb.size]) _) hbn; clear hbn)
                          go_wp2
                          go_roundw
                          case rel => exact ⟨j + 1, by rw [HS.out, h4, h5]; rfl, by go_num, by omega, hO, hP, ap_PO, hc3, e0, e1, hb⟩
                          case measure => simp [intOf]; omega
                  · have hjj : j = L.length := by omega
                    have HJ : Hid ((L.take j).all (fun y => !(ins x y && !hasc y r)) = agOk L x r) := by show (L.take j).all _ = L.all _; rw [hjj, List.take_length]
                    clear hjj
                    rw [HJ.out] at hf
                    clear HJ
                    cases h6 : agOk L x r
                    · rw [h6] at hf
                      subst hf
                      go_wp2
                      go_roundw
                      case rel => exact ⟨k + 1, by go_num, by omega, by rw [HOs.out, HF0.out, h1, h2, h6]; simpa [HOk.out] using hO, hP, ap_PO, hb⟩
                      case measure => simp [intOf]; omega
                    · rw [h6] at hf
                      subst hf
                      clear hc2 hc3
                      go_wp2_with (first | (at_builtin; refine wpList_append_fresh rfl _ _ 29 rfl w.heap.size 55 j0 (.agg #[.int .i64 0, .int .i64 0]) 2 16 Try.underlying29 hj hy0 hy1 hy2 rfl (by decide) _ _ _ rfl (World.ownsRow.alloc hO _) _ 1 1 [.int .i64 x, .int .i64 (r : Int)] rfl rfl (World.news_of_block (cs := #[.int .i64 x, .int .i64 (r : Int)]) (t := 55) (fr := (0, 0)) (heap_alloc_new _ _)) (by intro u hu; simp at hu; rcases hu with rfl | rfl <;> rfl) (by unfold maxLen; omega) (by omega) (by have := hb.size; simp; omega) ?_; intro v' w4 hown hgrow hfr; replace hb := (hb.alloc hb.size _).grown hgrow (by have := hb.size; simp; omega) (fun g hg => (World.ownsRow.lt hO g hg).1); obtain ⟨hP, ap_PO⟩ := OwnI.past hP hgrow ap_PO hfr; replace hO := own_snocD hown; clear hown hgrow hfr) | fail)
                      go_roundw
                      case rel => exact ⟨k + 1, by go_num, by omega, by rw [HOs.out, HF0.out, h1, h2, h6]; simpa [HOk.out] using hO, hP, ap_PO, hb⟩
                      case measure => simp [intOf]; omega
            · have hkk2 : k = P.length := by omega
              have HE : Hid (colsF (agOk L) P (r + 1) = A ++ colF (agOk L) (P.take k) r) := by
                show colsF (agOk L) P (r + 1) = A ++ colF (agOk L) (P.take k) r
                rw [HC.out, hkk2, List.take_length]
              clear hkk2
              go_wp2
              go_roundw
              case rel => exact ⟨r + 1, by go_num, by omega, by rw [HE.out]; exact hO, hP, ap_PO, hb⟩
              case measure => simp [intOf]; omega
        · have hrr : r = N := by omega
          have HE : Hid (colsF (agOk L) P r = depsAF N L) := by show colsF (agOk L) P r = depsAF N L; rw [HM.out, hrr]
          clear hrr
          go_wp2
          go_ret
          exact ⟨_, rfl, by rw [← HE.out]; exact hO, hb⟩
end Go.Proofs.Ytjbmpnbfiahdhaa
namespace Go.Proofs.Ytjbmpnbfiahdhaa
open Go.RowKit
set_option linter.unusedVariables false
set_option maxRecDepth 100000

theorem bel_world {B : Nat} {w0 w : World} (h : Below B w0 w) : ∃ w', w' = w := ⟨w, rfl⟩
set_option maxHeartbeats 100000000 in
theorem w_FnArmstrong (w : World) {v0 : Value} (w0 : InBytes w v0) :
    Calls Try.prog 8 #[v0] w fun e w' => e = .returned (.bool true) ∧ Below w.heap.size w w' := by
  obtain ⟨oc, mc, capc, rfl, hmm, hB⟩ := w0
  have hb := Below.refl w.heap.size w
  by_cases hbig : (1048576 : Int) < mc
  · go_enter Try.func8, Try.ntmps8
    go_wp2_with fail
    refine Calls.mono (Ans.eqb (b' := true) (c_big _ _ _ _) (by simpa using hbig)) ?_
    rintro e w1 ⟨rfl, hbn⟩
    replace hb := bel_to hb hbn
    go_wp2
    go_ret
    exact ⟨rfl, hb⟩
  have hmc : mc ≤ 1048576 := by omega
  go_enter Try.func8, Try.ntmps8
  go_wp2_with fail
  refine Calls.mono (Ans.eqb (b' := false) (c_big _ _ _ _) (by simp only [decide_eq_false_iff_not]; omega)) ?_
  rintro e w1 ⟨rfl, hbn⟩
  replace hB := hB.keep hbn
  replace hb := bel_to hb hbn
  clear hbn
  clear hbig
  go_wp2_with fail
  refine (c_DrawArmstrongTable oc mc capc hmc _ hB).mono ?_
  rintro e w2 ⟨n, o, c, D, rfl, hI, hDl, hbn⟩
  replace hB := hB.keep hbn
  replace hb := bel_to hb hbn
  clear hbn
  have hDR : D.length ≤ Room := by unfold Room; omega
  obtain ⟨f, HF⟩ : ∃ f, Hid (areDepsF n D = f) := ⟨_, rfl⟩
  have HLW : Hid (f = true → 1 ≤ n ∧ n ≤ 5 ∧ satF (armN n D) (armO n D) 0 D = true ∧ isTabF (armN n D) (armO n D) = true ∧ ∀ x r, 0 ≤ x → x < 2 ^ n.toNat → 0 ≤ r → r < n → (askF (armN n D) (armO n D) 0 x r && holdsF (armO n D) 0 x r) = impliesDepF n D x r) := fun h => ⟨(areDepsF_val (HF.out.trans h)).2.1, (areDepsF_val (HF.out.trans h)).2.2.1, arm_law (HF.out.trans h)⟩
  have hRl := arm_rows_len n D
  have HRr : Hid (∀ j, j < (armO n D).length → (row (armO n D) j).length ≤ Room) := fun j hj => Nat.le_trans (arm_row n D hj) (by unfold Room; omega)
  have HI1 : Hid (∀ oa cap w, DepsAt w oa D → ArmAns 13 n oa cap D w) := fun oa cap w h => c_ArmstrongTable n oa cap D w h
  have HI2 : Hid (∀ oa cap w, DepsAt w oa D → ArmAns 11 n oa cap D w) := fun oa cap w h => c_specArmstrongTable n oa cap D w h
  unfold ArmAns at HI1 HI2
  rw [HF.out] at HI1 HI2
  generalize armO n D = R at *
  generalize armN n D = n5 at *
  have hRR : R.length ≤ Room := by unfold Room; omega
  go_wp2_with fail
  refine (HI1.out o c _ (hI.deps rfl hDR)).mono ?_
  rintro e w3 ⟨o5, c5, xs5, rfl, hO5, hbn⟩
  replace hB := hB.keep hbn
  replace hI := hI.keep hbn
  replace hb := bel_to hb hbn
  clear hbn
  have k5 := Blk.new w3 #[.int .i64 n5, .slice o5 R.length c5] 26
  have hbn := (Below.refl w3.heap.size w3).alloc (Nat.le_refl _) (.cells #[.int .i64 n5, .slice o5 R.length c5] 26)
  replace hB := hB.keep hbn
  replace hI := hI.keep hbn
  replace hO5 := hO5.keep hbn
  replace hb := bel_to hb hbn
  clear hbn
  go_wp2_with fail
  refine (HI2.out o c _ (hI.deps rfl hDR)).mono ?_
  rintro e w4 ⟨o7, c7, xs7, rfl, hO7, hbn⟩
  replace hB := hB.keep hbn
  replace hI := hI.keep hbn
  replace hO5 := hO5.keep hbn
  replace k5 := k5.keep hbn
  replace hb := bel_to hb hbn
  clear hbn
  have k7 := Blk.new w4 #[.int .i64 n5, .slice o7 R.length c7] 26
  have hbn := (Below.refl w4.heap.size w4).alloc (Nat.le_refl _) (.cells #[.int .i64 n5, .slice o7 R.length c7] 26)
  replace hB := hB.keep hbn
  replace hI := hI.keep hbn
  replace hO5 := hO5.keep hbn
  replace k5 := k5.keep hbn
  replace hO7 := hO7.keep hbn
  replace hb := bel_to hb hbn
  clear hbn
  clear HI1 HI2
  go_upto_region 6 with fail
  generalize w4.alloc (.cells #[.int .i64 n5, .slice o7 R.length c7] 26) = w5 at *
  have hd5 := hO5.read hRR HRr.out
  have hd7 := hO7.read hRR HRr.out
  have hdD := hI.deps rfl hDR
  have hff : (f != f) = false := by simp
  go_cut [51] from 36 to 51 (fun x wx => x = .bool false ∧ Below w5.heap.size w5 wx)
  case first =>
    have hbw := Below.refl w5.heap.size w5
    have p0 := k5.cell 0 (.int .i64 n5) rfl
    have p1 := k5.cell 1 (.slice o5 R.length c5) rfl
    have s0 := k7.cell 0 (.int .i64 n5) rfl
    have s1 := k7.cell 1 (.slice o7 R.length c7) rfl
    go_wp2_with (first | (go_at_call 64; refine Calls.mono (Ans.eqb (b' := true) (c_specEqualTables n5 n5 o5 o7 c5 c7 R R _ (hd5.keep hbw) (hd7.keep hbw)) (by unfold eqTabF; simp)) ?_; rintro e wz ⟨rfl, hbn⟩; replace p0 := cell_keep p0 hbn; replace p1 := cell_keep p1 hbn; replace s0 := cell_keep s0 hbn; replace s1 := cell_keep s1 hbn; replace hbw := bel_to hbw hbn; clear hbn) | (go_at_call 37; refine Calls.mono (Ans.eqb (c_specAreDeps n o c D _ (hdD.keep hbw)) HF.out) ?_; rintro e wz ⟨rfl, hbn⟩; replace p0 := cell_keep p0 hbn; replace p1 := cell_keep p1 hbn; replace s0 := cell_keep s0 hbn; replace s1 := cell_keep s1 hbn; replace hbw := bel_to hbw hbn; clear hbn) | fail)
    go_meet
    exact ⟨rfl, hbw⟩
  case rest =>
    obtain ⟨rfl, hbn⟩ := hcut
    clear hd5 hd7 hdD
    replace hB := hB.keep hbn
    replace hI := hI.keep hbn
    replace hO5 := hO5.keep hbn
    replace k5 := k5.keep hbn
    replace hO7 := hO7.keep hbn
    replace k7 := k7.keep hbn
    replace hb := bel_to hb hbn
    clear hbn
    obtain ⟨w6, hwq⟩ := bel_world hb
    subst hwq
    clear hO7 k7
    go_wp2_with fail
    go_loopw [9] (fun v wr => ∃ k : Nat, v = .int .i64 k ∧ k ≤ 32 ∧ Below w6.heap.size w6 wr) (fun v _ => 32 - (intOf v).toNat)
    case atStart => exact ⟨0, rfl, Nat.zero_le _, Below.refl _ _⟩
    case round =>
      obtain ⟨k, rfl, hk, hbn⟩ := hrel
      have hbo := hbn
      replace hB := hB.keep hbn
      replace hI := hI.keep hbn
      replace hO5 := hO5.keep hbn
      replace k5 := k5.keep hbn
      replace hb := bel_to hb hbn
      clear hbn
      obtain ⟨w8, hwq⟩ := bel_world hb
      subst hwq
      obtain ⟨g, HG⟩ : ∃ g, Hid ((f && decide ((k : Int) < 2 ^ n.toNat)) = g) := ⟨_, rfl⟩
      go_upto_region 9 with fail
      go_cut [58] from 52 to 58 (fun x wx => x = .bool g ∧ Below w8.heap.size w8 wx)
      case first =>
        cases f
        · obtain rfl : g = false := HG.out.symm
          go_wp2_with fail
          go_meet
          exact ⟨rfl, Below.refl _ _⟩
        · obtain ⟨hn1, hn5, _⟩ := HLW.out rfl
          have hpw := pow_wrap (n := n) (by omega) hn5
          have hp1 := hpw.1
          have hp2 := hpw.2.1
          have hp3 := hpw.2.2
          clear hpw
          have hn64 : 0 ≤ n ∧ n < 64 := ⟨by omega, by omega⟩
          obtain rfl : g = decide ((k : Int) < 2 ^ n.toNat) := HG.out.symm
          go_wp2_with fail
          all_goals
            go_meet
            exact ⟨by first | rfl | simp | (congr 1; simp; omega), Below.refl _ _⟩
      case rest =>
        obtain ⟨rfl, hbn⟩ := hcut
        replace hB := hB.keep hbn
        replace hI := hI.keep hbn
        replace hO5 := hO5.keep hbn
        replace k5 := k5.keep hbn
        replace hbo := bel_to hbo hbn
        replace hb := bel_to hb hbn
        clear hbn
        obtain ⟨w9, hwq⟩ := bel_world hb
        subst hwq
        cases g
        · clear hbo HG
          go_wp2_with fail
          have H := c_DrawSatisfiesAll oc mc capc hmc _ hB
          unfold DrawsTabD at H
          refine H.mono ?_
          clear H
          rintro e w20 ⟨n2, m2, o2, c2, xs2, R2, od, cd, Q, rfl, hP, hQ, ⟨hPl, hPlen⟩, hQl, hbn⟩
          replace hB := hB.keep hbn
          replace hI := hI.keep hbn
          replace hO5 := hO5.keep hbn
          replace k5 := k5.keep hbn
          replace hb := bel_to hb hbn
          clear hbn
          have hPR : R2.length ≤ Room := by unfold Room; omega
          have HPr : Hid (∀ j, j < R2.length → (row R2 j).length ≤ Room) := fun j hj => Nat.le_trans (hPlen j hj) (by unfold Room; omega)
          have hQR : Q.length ≤ Room := by unfold Room; omega
          clear hPlen
          have k12 := Blk.new w20 #[.int .i64 n2, .slice o2 R2.length c2] 26
          have hbn := (Below.refl w20.heap.size w20).alloc (Nat.le_refl _) (.cells #[.int .i64 n2, .slice o2 R2.length c2] 26)
          replace hB := hB.keep hbn
          replace hI := hI.keep hbn
          replace hO5 := hO5.keep hbn
          replace k5 := k5.keep hbn
          replace hP := hP.keep hbn
          replace hQ := hQ.keep hbn
          replace hb := bel_to hb hbn
          clear hbn
          go_wp2_with fail
          have H := c_DrawDepsOfAgreeSets oc mc capc hmc _ hB
          unfold DrawsIL at H
          refine H.mono ?_
          clear H
          rintro e w21 ⟨n3, o3, c3, A, rfl, hA, hAl, hbn⟩
          replace hB := hB.keep hbn
          replace hI := hI.keep hbn
          replace hO5 := hO5.keep hbn
          replace k5 := k5.keep hbn
          replace hP := hP.keep hbn
          replace hQ := hQ.keep hbn
          replace k12 := k12.keep hbn
          replace hb := bel_to hb hbn
          clear hbn
          have hAR : A.length ≤ Room := by unfold Room; omega
          obtain ⟨q1, HQ1⟩ : ∃ q, Hid (satF n2 R2 m2 Q = q) := ⟨_, rfl⟩
          have hq1 : (q1 == q1) = true := by simp
          obtain ⟨G1, HG1⟩ : ∃ G, Hid (depsAF n3 A = G) := ⟨_, rfl⟩
          have hGL : G1.length ≤ Room := by rw [← HG1.out]; exact depsA_len _ _
          have hd5 := hO5.read hRR HRr.out
          have hdD := hI.deps rfl hDR
          have hdP := hP.read hPR HPr.out
          have hdQ := hQ.deps rfl hQR
          have hdA := hA.ints rfl hAR
          have p0 := k5.cell 0 (.int .i64 n5) rfl
          have p1 := k5.cell 1 (.slice o5 R.length c5) rfl
          have s0 := k12.cell 0 (.int .i64 n2) rfl
          have s1 := k12.cell 1 (.slice o2 R2.length c2) rfl
          have hk5 := k5.lt
          clear hB hI hO5 k5 hP hQ k12 hA hk5
          go_upto_region 19 with fail
          cases f
          · skip
            refine wp_region_held_drew (S := fun w' => w'.cell? ⟨w3.heap.size, 0, none⟩ = some (.int .i64 n5) ∧ w'.cell? ⟨w3.heap.size, 1, none⟩ = some (.slice o5 R.length c5) ∧ w'.cell? ⟨w20.heap.size, 0, none⟩ = some (.int .i64 n2) ∧ w'.cell? ⟨w20.heap.size, 1, none⟩ = some (.slice o2 R2.length c2) ∧ Below w21.heap.size w21 w') (by kernel_rfl) ⟨cell_keep p0 (Below.refl _ _).drew, cell_keep p1 (Below.refl _ _).drew, cell_keep s0 (Below.refl _ _).drew, cell_keep s1 (Below.refl _ _).drew, (Below.refl _ _).drew⟩ (fun hS => ?_)
            (refine wpAnyH_val (i := 0) (some 95) ?_ rfl rfl (by kernel_rfl) (by kernel_rfl) (by kernel_rfl) (fun _ _ _ h => h) (by rfl) (by assumption) ?_ ?_; rotate_left; (intro w hSw; go_simp; (try with_reducible rfl)); (try simp only [Act.put, List.setIfInBounds_toArray, List.set_cons_zero, List.set_cons_succ])); (refine wpAnyH_val (i := 1) (some 96) ?_ rfl rfl (by kernel_rfl) (by kernel_rfl) (by kernel_rfl) (fun _ _ _ h => h) (by rfl) (by assumption) ?_ ?_; rotate_left; (intro w hSw; go_simp; (try with_reducible rfl)); (try simp only [Act.put, List.setIfInBounds_toArray, List.set_cons_zero, List.set_cons_succ])); (refine wpAnyH_val (i := 2) (some 97) ?_ rfl rfl (by kernel_rfl) (by kernel_rfl) (by kernel_rfl) (fun _ _ _ h => h) (by rfl) (by assumption) ?_ ?_; rotate_left; (intro w hSw; go_simp; (try with_reducible rfl)); (try simp only [Act.put, List.setIfInBounds_toArray, List.set_cons_zero, List.set_cons_succ])); (refine wpAnyH_skip (i := 3) (some 98) rfl rfl (by kernel_rfl) (by kernel_rfl) (by kernel_rfl) (fun _ _ _ h => h) (by rfl) (by assumption) ?_; (try simp only [Act.put, List.setIfInBounds_toArray, List.set_cons_zero, List.set_cons_succ])); (refine wpAnyH_skip (i := 4) (some 99) rfl rfl (by kernel_rfl) (by kernel_rfl) (by kernel_rfl) (fun _ _ _ h => h) (by rfl) (by assumption) ?_; (try simp only [Act.put, List.setIfInBounds_toArray, List.set_cons_zero, List.set_cons_succ])); (refine wpAnyH_skip (i := 5) (some 100) rfl rfl (by kernel_rfl) (by kernel_rfl) (by kernel_rfl) (fun _ _ _ h => h) (by rfl) (by assumption) ?_; (try simp only [Act.put, List.setIfInBounds_toArray, List.set_cons_zero, List.set_cons_succ])); (refine wpAnyH_skip (i := 6) (some 101) rfl rfl (by kernel_rfl) (by kernel_rfl) (by kernel_rfl) (fun _ _ _ h => h) (by rfl) (by assumption) ?_; (try simp only [Act.put, List.setIfInBounds_toArray, List.set_cons_zero, List.set_cons_succ])); (refine wpAnyH_skip (i := 7) (some 102) rfl rfl (by kernel_rfl) (by kernel_rfl) (by kernel_rfl) (fun _ _ _ h => h) (by rfl) (by assumption) ?_; (try simp only [Act.put, List.setIfInBounds_toArray, List.set_cons_zero, List.set_cons_succ])); (refine wpAnyH_skip (i := 8) (some 103) rfl rfl (by kernel_rfl) (by kernel_rfl) (by kernel_rfl) (fun _ _ _ h => h) (by rfl) (by assumption) ?_; (try simp only [Act.put, List.setIfInBounds_toArray, List.set_cons_zero, List.set_cons_succ])); (refine wpAnyH_skip (i := 9) (some 104) rfl rfl (by kernel_rfl) (by kernel_rfl) (by kernel_rfl) (fun _ _ _ h => h) (by rfl) (by assumption) ?_; (try simp only [Act.put, List.setIfInBounds_toArray, List.set_cons_zero, List.set_cons_succ])); (refine wpAnyH_val (i := 10) (some 105) ?_ rfl rfl (by kernel_rfl) (by kernel_rfl) (by kernel_rfl) (fun _ _ _ h => h) (by rfl) (by assumption) ?_ ?_; rotate_left; (intro w hSw; go_simp; (try with_reducible rfl)); (try simp only [Act.put, List.setIfInBounds_toArray, List.set_cons_zero, List.set_cons_succ])); (refine wpAnyH_val (i := 11) (some 106) ?_ rfl rfl (by kernel_rfl) (by kernel_rfl) (by kernel_rfl) (fun _ _ _ h => h) (by rfl) (by assumption) ?_ ?_; rotate_left; (intro w hSw; go_simp; (try with_reducible rfl)); (try simp only [Act.put, List.setIfInBounds_toArray, List.set_cons_zero, List.set_cons_succ])); (refine wpAnyH_val (i := 12) (some 107) ?_ rfl rfl (by kernel_rfl) (by kernel_rfl) (by kernel_rfl) (fun _ _ _ h => h) (by rfl) (by assumption) ?_ ?_; rotate_left; (intro w hSw; go_simp; (try with_reducible rfl)); (try simp only [Act.put, List.setIfInBounds_toArray, List.set_cons_zero, List.set_cons_succ])); (refine wpAnyH_val (i := 13) (some 108) ?_ rfl rfl (by kernel_rfl) (by kernel_rfl) (by kernel_rfl) (fun _ _ _ h => h) (by rfl) (by assumption) ?_ ?_; rotate_left; (intro w hSw; go_simp; (try with_reducible rfl)); (try simp only [Act.put, List.setIfInBounds_toArray, List.set_cons_zero, List.set_cons_succ])); (refine wpAnyH_val (i := 14) (some 109) ?_ rfl rfl (by kernel_rfl) (by kernel_rfl) (by kernel_rfl) (fun _ _ _ h => h) (by rfl) (by assumption) ?_ ?_; rotate_left; (intro w hSw; go_simp; (try with_reducible rfl)); (try simp only [Act.put, List.setIfInBounds_toArray, List.set_cons_zero, List.set_cons_succ])); (refine wpAnyH_val (i := 16) (some 111) ?_ rfl rfl (by kernel_rfl) (by kernel_rfl) (by kernel_rfl) (fun _ _ _ h => h) (by rfl) (by assumption) ?_ ?_; rotate_left; (intro w hSw; go_simp; (try with_reducible rfl)); (try simp only [Act.put, List.setIfInBounds_toArray, List.set_cons_zero, List.set_cons_succ])); (refine wpAnyH_val (i := 17) (some 112) ?_ rfl rfl (by kernel_rfl) (by kernel_rfl) (by kernel_rfl) (fun _ _ _ h => h) (by rfl) (by assumption) ?_ ?_; rotate_left; (intro w hSw; go_simp; (try with_reducible rfl)); (try simp only [Act.put, List.setIfInBounds_toArray, List.set_cons_zero, List.set_cons_succ])); (refine wpAnyH_val (i := 18) (some 113) ?_ rfl rfl (by kernel_rfl) (by kernel_rfl) (by kernel_rfl) (fun _ _ _ h => h) (by rfl) (by assumption) ?_ ?_; rotate_left; (intro w hSw; go_simp; (try with_reducible rfl)); (try simp only [Act.put, List.setIfInBounds_toArray, List.set_cons_zero, List.set_cons_succ]))
            (refine wpAnyH_ready (rs := [15]) (by kernel_rfl) (by simp) ?_; refine AllReadyH.cons rfl (fun K hK => ?_) AllReadyH.nil; go_simp)
            refine Calls.mono (Ans.eqb (c_SatisfiesAll n2 o2 c2 R2 m2 od cd Q _ (hdP.keep hS.2.2.2.2) (hdQ.keep hS.2.2.2.2)) HQ1.out) ?_
            rintro e wz ⟨rfl, hbn⟩
            have hS3 := (show _ ∧ _ ∧ _ ∧ _ ∧ Below w21.heap.size w21 _ from ⟨cell_keep hS.1 hbn, cell_keep hS.2.1 hbn, cell_keep hS.2.2.1 hbn, cell_keep hS.2.2.2.1 hbn, bel_to hS.2.2.2.2 hbn⟩)
            refine hK.out _ _ hS3 (fun hS2 => ?_)
            clear hK hbn hS hS2
            have hS := hS3
            clear hS3
            (try simp only [Act.put, List.setIfInBounds_toArray, List.set_cons_zero, List.set_cons_succ])
            (refine wpAnyH_ready (rs := [19]) (by kernel_rfl) (by simp) ?_; refine AllReadyH.cons rfl (fun K hK => ?_) AllReadyH.nil; go_simp)
            refine Calls.mono (Ans.eqb (c_specSatisfiesAll n2 o2 c2 R2 m2 od cd Q _ (hdP.keep hS.2.2.2.2) (hdQ.keep hS.2.2.2.2)) HQ1.out) ?_
            rintro e wz ⟨rfl, hbn⟩
            have hS3 := (show _ ∧ _ ∧ _ ∧ _ ∧ Below w21.heap.size w21 _ from ⟨cell_keep hS.1 hbn, cell_keep hS.2.1 hbn, cell_keep hS.2.2.1 hbn, cell_keep hS.2.2.2.1 hbn, bel_to hS.2.2.2.2 hbn⟩)
            refine hK.out _ _ hS3 (fun hS2 => ?_)
            clear hK hbn hS hS2
            have hS := hS3
            clear hS3
            (try simp only [Act.put, List.setIfInBounds_toArray, List.set_cons_zero, List.set_cons_succ])
            (refine wpAnyH_val (i := 20) (some 115) ?_ rfl rfl (by kernel_rfl) (by kernel_rfl) (by kernel_rfl) (fun _ _ _ h => h) (by rfl) (by assumption) ?_ ?_; rotate_left; (intro w hSw; go_simp; (try with_reducible rfl)); (try simp only [Act.put, List.setIfInBounds_toArray, List.set_cons_zero, List.set_cons_succ])); (refine wpAnyH_val (i := 21) (some 116) ?_ rfl rfl (by kernel_rfl) (by kernel_rfl) (by kernel_rfl) (fun _ _ _ h => h) (by rfl) (by assumption) ?_ ?_; rotate_left; (intro w hSw; go_simp; (try with_reducible rfl)); (try simp only [Act.put, List.setIfInBounds_toArray, List.set_cons_zero, List.set_cons_succ])); (refine wpAnyH_val (i := 22) (some 117) ?_ rfl rfl (by kernel_rfl) (by kernel_rfl) (by kernel_rfl) (fun _ _ _ h => h) (by rfl) (by assumption) ?_ ?_; rotate_left; (intro w hSw; go_simp; (try with_reducible rfl)); (try simp only [Act.put, List.setIfInBounds_toArray, List.set_cons_zero, List.set_cons_succ])); (refine wpAnyH_val (i := 23) (some 118) ?_ rfl rfl (by kernel_rfl) (by kernel_rfl) (by kernel_rfl) (fun _ _ _ h => h) (by rfl) (by assumption) ?_ ?_; rotate_left; (intro w hSw; go_simp; (try with_reducible rfl)); (try simp only [Act.put, List.setIfInBounds_toArray, List.set_cons_zero, List.set_cons_succ])); (refine wpAnyH_val (i := 24) (some 119) ?_ rfl rfl (by kernel_rfl) (by kernel_rfl) (by kernel_rfl) (fun _ _ _ h => h) (by rfl) (by assumption) ?_ ?_; rotate_left; (intro w hSw; go_simp; (try with_reducible rfl)); (try simp only [Act.put, List.setIfInBounds_toArray, List.set_cons_zero, List.set_cons_succ])); (refine wpAnyH_val (i := 26) (some 121) ?_ rfl rfl (by kernel_rfl) (by kernel_rfl) (by kernel_rfl) (fun _ _ _ h => h) (by rfl) (by assumption) ?_ ?_; rotate_left; (intro w hSw; go_simp; (try with_reducible rfl)); (try simp only [Act.put, List.setIfInBounds_toArray, List.set_cons_zero, List.set_cons_succ])); (refine wpAnyH_val (i := 27) (some 122) ?_ rfl rfl (by kernel_rfl) (by kernel_rfl) (by kernel_rfl) (fun _ _ _ h => h) (by rfl) (by assumption) ?_ ?_; rotate_left; (intro w hSw; go_simp; (try with_reducible rfl)); (try simp only [Act.put, List.setIfInBounds_toArray, List.set_cons_zero, List.set_cons_succ]))
            (refine wpAnyH_ready (rs := [25]) (by kernel_rfl) (by simp) ?_; refine AllReadyH.cons rfl (fun K hK => ?_) AllReadyH.nil; go_simp)
            refine (c_DepsOfAgreeSets n3 o3 c3 A _ (hdA.keep hS.2.2.2.2)).mono ?_
            rintro e wz ⟨v9, rfl, h9, hbn⟩
            rw [HG1.out] at h9
            obtain ⟨oX, cX, rfl⟩ := h9.shape
            have hdX := h9.deps rfl hGL
            clear h9
            have hS3 := (show _ ∧ _ ∧ _ ∧ _ ∧ Below w21.heap.size w21 _ from ⟨cell_keep hS.1 hbn, cell_keep hS.2.1 hbn, cell_keep hS.2.2.1 hbn, cell_keep hS.2.2.2.1 hbn, bel_to hS.2.2.2.2 hbn⟩)
            refine hK.out _ _ hS3 (fun hS2 => ?_)
            clear hK hbn hS hS2
            have hS := hS3
            clear hS3
            (try simp only [Act.put, List.setIfInBounds_toArray, List.set_cons_zero, List.set_cons_succ])
            (refine wpAnyH_ready (rs := [28]) (by kernel_rfl) (by simp) ?_; refine AllReadyH.cons rfl (fun K hK => ?_) AllReadyH.nil; go_simp)
            refine (c_specDepsOfAgreeSets n3 o3 c3 A _ (hdA.keep hS.2.2.2.2)).mono ?_
            rintro e wz ⟨v9, rfl, h9, hbn⟩
            rw [HG1.out] at h9
            obtain ⟨oY, cY, rfl⟩ := h9.shape
            have hdY := h9.deps rfl hGL
            clear h9
            have hdX := hdX.keep hbn
            have hS3 := (show _ ∧ _ ∧ _ ∧ _ ∧ Below w21.heap.size w21 _ from ⟨cell_keep hS.1 hbn, cell_keep hS.2.1 hbn, cell_keep hS.2.2.1 hbn, cell_keep hS.2.2.2.1 hbn, bel_to hS.2.2.2.2 hbn⟩)
            refine hK.out _ _ hS3 (fun hS2 => ?_)
            clear hK hbn hS hS2
            have hS := hS3
            clear hS3
            (try simp only [Act.put, List.setIfInBounds_toArray, List.set_cons_zero, List.set_cons_succ])
            (refine wpAnyH_ready (rs := [29]) (by kernel_rfl) (by simp) ?_; refine AllReadyH.cons rfl (fun K hK => ?_) AllReadyH.nil; go_simp)
            refine Calls.mono (Ans.eqb (b' := true) (c_specSameDeps oX oY cX cY G1 G1 _ hdX hdY) (by simp)) ?_
            rintro e wz ⟨rfl, hbn⟩
            have hS3 := (show _ ∧ _ ∧ _ ∧ _ ∧ Below w21.heap.size w21 _ from ⟨cell_keep hS.1 hbn, cell_keep hS.2.1 hbn, cell_keep hS.2.2.1 hbn, cell_keep hS.2.2.2.1 hbn, bel_to hS.2.2.2.2 hbn⟩)
            refine hK.out _ _ hS3 (fun hS2 => ?_)
            clear hK hbn hS hS2
            have hS := hS3
            clear hS3
            (try simp only [Act.put, List.setIfInBounds_toArray, List.set_cons_zero, List.set_cons_succ])
            (refine wpAnyH_val (i := 30) (some 125) ?_ rfl rfl (by kernel_rfl) (by kernel_rfl) (by kernel_rfl) (fun _ _ _ h => h) (by rfl) (by assumption) ?_ ?_; rotate_left; (intro w hSw; go_simp; (try with_reducible rfl)); (try simp only [Act.put, List.setIfInBounds_toArray, List.set_cons_zero, List.set_cons_succ])); (refine wpAnyH_val (i := 31) (some 2) ?_ rfl rfl (by kernel_rfl) (by kernel_rfl) (by kernel_rfl) (fun _ _ _ h => h) (by rfl) (by assumption) ?_ ?_; rotate_left; (intro w hSw; go_simp; (try with_reducible rfl)); (try simp only [Act.put, List.setIfInBounds_toArray, List.set_cons_zero, List.set_cons_succ]))
            refine wpAnyH_done (by kernel_rfl) ?_ _
            try dsimp only [NoPanic, Exit.then]
            go_wp2
            go_ret
            exact ⟨rfl, bel_to hb hS.2.2.2.2⟩
          · have hlw := (show satF n5 R 0 D = true ∧ isTabF n5 R = true from ⟨(HLW.out rfl).2.2.1, (HLW.out rfl).2.2.2.1⟩)
            refine wp_region_held_drew (S := fun w' => w'.cell? ⟨w3.heap.size, 0, none⟩ = some (.int .i64 n5) ∧ w'.cell? ⟨w3.heap.size, 1, none⟩ = some (.slice o5 R.length c5) ∧ w'.cell? ⟨w20.heap.size, 0, none⟩ = some (.int .i64 n2) ∧ w'.cell? ⟨w20.heap.size, 1, none⟩ = some (.slice o2 R2.length c2) ∧ Below w21.heap.size w21 w') (by kernel_rfl) ⟨cell_keep p0 (Below.refl _ _).drew, cell_keep p1 (Below.refl _ _).drew, cell_keep s0 (Below.refl _ _).drew, cell_keep s1 (Below.refl _ _).drew, (Below.refl _ _).drew⟩ (fun hS => ?_)
            (refine wpAnyH_val (i := 0) (some 95) ?_ rfl rfl (by kernel_rfl) (by kernel_rfl) (by kernel_rfl) (fun _ _ _ h => h) (by rfl) (by assumption) ?_ ?_; rotate_left; (intro w hSw; go_simp; (try with_reducible rfl)); (try simp only [Act.put, List.setIfInBounds_toArray, List.set_cons_zero, List.set_cons_succ])); (refine wpAnyH_val (i := 1) (some 96) ?_ rfl rfl (by kernel_rfl) (by kernel_rfl) (by kernel_rfl) (fun _ _ _ h => h) (by rfl) (by assumption) ?_ ?_; rotate_left; (intro w hSw; go_simp; (try with_reducible rfl)); (try simp only [Act.put, List.setIfInBounds_toArray, List.set_cons_zero, List.set_cons_succ])); (refine wpAnyH_val (i := 2) (some 97) ?_ rfl rfl (by kernel_rfl) (by kernel_rfl) (by kernel_rfl) (fun _ _ _ h => h) (by rfl) (by assumption) ?_ ?_; rotate_left; (intro w hSw; go_simp; (try with_reducible rfl)); (try simp only [Act.put, List.setIfInBounds_toArray, List.set_cons_zero, List.set_cons_succ])); (refine wpAnyH_val (i := 3) (some 98) ?_ rfl rfl (by kernel_rfl) (by kernel_rfl) (by kernel_rfl) (fun _ _ _ h => h) (by rfl) (by assumption) ?_ ?_; rotate_left; (intro w hSw; go_simp; (try with_reducible rfl)); (try simp only [Act.put, List.setIfInBounds_toArray, List.set_cons_zero, List.set_cons_succ]))
            (refine wpAnyH_ready (rs := [4]) (by kernel_rfl) (by simp) ?_; refine AllReadyH.cons rfl (fun K hK => ?_) AllReadyH.nil; go_simp)
            refine Calls.mono (Ans.eqb (c_IsTable n5 o5 c5 R _ (hd5.keep hS.2.2.2.2)) hlw.2) ?_
            rintro e wz ⟨rfl, hbn⟩
            have hS3 := (show _ ∧ _ ∧ _ ∧ _ ∧ Below w21.heap.size w21 _ from ⟨cell_keep hS.1 hbn, cell_keep hS.2.1 hbn, cell_keep hS.2.2.1 hbn, cell_keep hS.2.2.2.1 hbn, bel_to hS.2.2.2.2 hbn⟩)
            refine hK.out _ _ hS3 (fun hS2 => ?_)
            clear hK hbn hS hS2
            have hS := hS3
            clear hS3
            (try simp only [Act.put, List.setIfInBounds_toArray, List.set_cons_zero, List.set_cons_succ])
            (refine wpAnyH_val (i := 5) (some 100) ?_ rfl rfl (by kernel_rfl) (by kernel_rfl) (by kernel_rfl) (fun _ _ _ h => h) (by rfl) (by assumption) ?_ ?_; rotate_left; (intro w hSw; go_simp; (try with_reducible rfl)); (try simp only [Act.put, List.setIfInBounds_toArray, List.set_cons_zero, List.set_cons_succ])); (refine wpAnyH_val (i := 6) (some 101) ?_ rfl rfl (by kernel_rfl) (by kernel_rfl) (by kernel_rfl) (fun _ _ _ h => h) (by rfl) (by assumption) ?_ ?_; rotate_left; (intro w hSw; go_simp; (try with_reducible rfl)); (try simp only [Act.put, List.setIfInBounds_toArray, List.set_cons_zero, List.set_cons_succ])); (refine wpAnyH_val (i := 7) (some 102) ?_ rfl rfl (by kernel_rfl) (by kernel_rfl) (by kernel_rfl) (fun _ _ _ h => h) (by rfl) (by assumption) ?_ ?_; rotate_left; (intro w hSw; go_simp; (try with_reducible rfl)); (try simp only [Act.put, List.setIfInBounds_toArray, List.set_cons_zero, List.set_cons_succ]))
            (refine wpAnyH_ready (rs := [8]) (by kernel_rfl) (by simp) ?_; refine AllReadyH.cons rfl (fun K hK => ?_) AllReadyH.nil; go_simp)
            refine Calls.mono (Ans.eqb (c_SatisfiesAll n5 o5 c5 R 0 o c D _ (hd5.keep hS.2.2.2.2) (hdD.keep hS.2.2.2.2)) hlw.1) ?_
            rintro e wz ⟨rfl, hbn⟩
            have hS3 := (show _ ∧ _ ∧ _ ∧ _ ∧ Below w21.heap.size w21 _ from ⟨cell_keep hS.1 hbn, cell_keep hS.2.1 hbn, cell_keep hS.2.2.1 hbn, cell_keep hS.2.2.2.1 hbn, bel_to hS.2.2.2.2 hbn⟩)
            refine hK.out _ _ hS3 (fun hS2 => ?_)
            clear hK hbn hS hS2
            have hS := hS3
            clear hS3
            (try simp only [Act.put, List.setIfInBounds_toArray, List.set_cons_zero, List.set_cons_succ])
            (refine wpAnyH_val (i := 9) (some 104) ?_ rfl rfl (by kernel_rfl) (by kernel_rfl) (by kernel_rfl) (fun _ _ _ h => h) (by rfl) (by assumption) ?_ ?_; rotate_left; (intro w hSw; go_simp; (try with_reducible rfl)); (try simp only [Act.put, List.setIfInBounds_toArray, List.set_cons_zero, List.set_cons_succ])); (refine wpAnyH_val (i := 10) (some 105) ?_ rfl rfl (by kernel_rfl) (by kernel_rfl) (by kernel_rfl) (fun _ _ _ h => h) (by rfl) (by assumption) ?_ ?_; rotate_left; (intro w hSw; go_simp; (try with_reducible rfl)); (try simp only [Act.put, List.setIfInBounds_toArray, List.set_cons_zero, List.set_cons_succ])); (refine wpAnyH_val (i := 11) (some 106) ?_ rfl rfl (by kernel_rfl) (by kernel_rfl) (by kernel_rfl) (fun _ _ _ h => h) (by rfl) (by assumption) ?_ ?_; rotate_left; (intro w hSw; go_simp; (try with_reducible rfl)); (try simp only [Act.put, List.setIfInBounds_toArray, List.set_cons_zero, List.set_cons_succ])); (refine wpAnyH_val (i := 12) (some 107) ?_ rfl rfl (by kernel_rfl) (by kernel_rfl) (by kernel_rfl) (fun _ _ _ h => h) (by rfl) (by assumption) ?_ ?_; rotate_left; (intro w hSw; go_simp; (try with_reducible rfl)); (try simp only [Act.put, List.setIfInBounds_toArray, List.set_cons_zero, List.set_cons_succ])); (refine wpAnyH_val (i := 13) (some 108) ?_ rfl rfl (by kernel_rfl) (by kernel_rfl) (by kernel_rfl) (fun _ _ _ h => h) (by rfl) (by assumption) ?_ ?_; rotate_left; (intro w hSw; go_simp; (try with_reducible rfl)); (try simp only [Act.put, List.setIfInBounds_toArray, List.set_cons_zero, List.set_cons_succ])); (refine wpAnyH_val (i := 14) (some 109) ?_ rfl rfl (by kernel_rfl) (by kernel_rfl) (by kernel_rfl) (fun _ _ _ h => h) (by rfl) (by assumption) ?_ ?_; rotate_left; (intro w hSw; go_simp; (try with_reducible rfl)); (try simp only [Act.put, List.setIfInBounds_toArray, List.set_cons_zero, List.set_cons_succ])); (refine wpAnyH_val (i := 16) (some 111) ?_ rfl rfl (by kernel_rfl) (by kernel_rfl) (by kernel_rfl) (fun _ _ _ h => h) (by rfl) (by assumption) ?_ ?_; rotate_left; (intro w hSw; go_simp; (try with_reducible rfl)); (try simp only [Act.put, List.setIfInBounds_toArray, List.set_cons_zero, List.set_cons_succ])); (refine wpAnyH_val (i := 17) (some 112) ?_ rfl rfl (by kernel_rfl) (by kernel_rfl) (by kernel_rfl) (fun _ _ _ h => h) (by rfl) (by assumption) ?_ ?_; rotate_left; (intro w hSw; go_simp; (try with_reducible rfl)); (try simp only [Act.put, List.setIfInBounds_toArray, List.set_cons_zero, List.set_cons_succ])); (refine wpAnyH_val (i := 18) (some 113) ?_ rfl rfl (by kernel_rfl) (by kernel_rfl) (by kernel_rfl) (fun _ _ _ h => h) (by rfl) (by assumption) ?_ ?_; rotate_left; (intro w hSw; go_simp; (try with_reducible rfl)); (try simp only [Act.put, List.setIfInBounds_toArray, List.set_cons_zero, List.set_cons_succ]))
            (refine wpAnyH_ready (rs := [15]) (by kernel_rfl) (by simp) ?_; refine AllReadyH.cons rfl (fun K hK => ?_) AllReadyH.nil; go_simp)
            refine Calls.mono (Ans.eqb (c_SatisfiesAll n2 o2 c2 R2 m2 od cd Q _ (hdP.keep hS.2.2.2.2) (hdQ.keep hS.2.2.2.2)) HQ1.out) ?_
            rintro e wz ⟨rfl, hbn⟩
            have hS3 := (show _ ∧ _ ∧ _ ∧ _ ∧ Below w21.heap.size w21 _ from ⟨cell_keep hS.1 hbn, cell_keep hS.2.1 hbn, cell_keep hS.2.2.1 hbn, cell_keep hS.2.2.2.1 hbn, bel_to hS.2.2.2.2 hbn⟩)
            refine hK.out _ _ hS3 (fun hS2 => ?_)
            clear hK hbn hS hS2
            have hS := hS3
            clear hS3
            (try simp only [Act.put, List.setIfInBounds_toArray, List.set_cons_zero, List.set_cons_succ])
            (refine wpAnyH_ready (rs := [19]) (by kernel_rfl) (by simp) ?_; refine AllReadyH.cons rfl (fun K hK => ?_) AllReadyH.nil; go_simp)
            refine Calls.mono (Ans.eqb (c_specSatisfiesAll n2 o2 c2 R2 m2 od cd Q _ (hdP.keep hS.2.2.2.2) (hdQ.keep hS.2.2.2.2)) HQ1.out) ?_
            rintro e wz ⟨rfl, hbn⟩
            have hS3 := (show _ ∧ _ ∧ _ ∧ _ ∧ Below w21.heap.size w21 _ from ⟨cell_keep hS.1 hbn, cell_keep hS.2.1 hbn, cell_keep hS.2.2.1 hbn, cell_keep hS.2.2.2.1 hbn, bel_to hS.2.2.2.2 hbn⟩)
            refine hK.out _ _ hS3 (fun hS2 => ?_)
            clear hK hbn hS hS2
            have hS := hS3
            clear hS3
            (try simp only [Act.put, List.setIfInBounds_toArray, List.set_cons_zero, List.set_cons_succ])
            (refine wpAnyH_val (i := 20) (some 115) ?_ rfl rfl (by kernel_rfl) (by kernel_rfl) (by kernel_rfl) (fun _ _ _ h => h) (by rfl) (by assumption) ?_ ?_; rotate_left; (intro w hSw; go_simp; (try with_reducible rfl)); (try simp only [Act.put, List.setIfInBounds_toArray, List.set_cons_zero, List.set_cons_succ])); (refine wpAnyH_val (i := 21) (some 116) ?_ rfl rfl (by kernel_rfl) (by kernel_rfl) (by kernel_rfl) (fun _ _ _ h => h) (by rfl) (by assumption) ?_ ?_; rotate_left; (intro w hSw; go_simp; (try with_reducible rfl)); (try simp only [Act.put, List.setIfInBounds_toArray, List.set_cons_zero, List.set_cons_succ])); (refine wpAnyH_val (i := 22) (some 117) ?_ rfl rfl (by kernel_rfl) (by kernel_rfl) (by kernel_rfl) (fun _ _ _ h => h) (by rfl) (by assumption) ?_ ?_; rotate_left; (intro w hSw; go_simp; (try with_reducible rfl)); (try simp only [Act.put, List.setIfInBounds_toArray, List.set_cons_zero, List.set_cons_succ])); (refine wpAnyH_val (i := 23) (some 118) ?_ rfl rfl (by kernel_rfl) (by kernel_rfl) (by kernel_rfl) (fun _ _ _ h => h) (by rfl) (by assumption) ?_ ?_; rotate_left; (intro w hSw; go_simp; (try with_reducible rfl)); (try simp only [Act.put, List.setIfInBounds_toArray, List.set_cons_zero, List.set_cons_succ])); (refine wpAnyH_val (i := 24) (some 119) ?_ rfl rfl (by kernel_rfl) (by kernel_rfl) (by kernel_rfl) (fun _ _ _ h => h) (by rfl) (by assumption) ?_ ?_; rotate_left; (intro w hSw; go_simp; (try with_reducible rfl)); (try simp only [Act.put, List.setIfInBounds_toArray, List.set_cons_zero, List.set_cons_succ])); (refine wpAnyH_val (i := 26) (some 121) ?_ rfl rfl (by kernel_rfl) (by kernel_rfl) (by kernel_rfl) (fun _ _ _ h => h) (by rfl) (by assumption) ?_ ?_; rotate_left; (intro w hSw; go_simp; (try with_reducible rfl)); (try simp only [Act.put, List.setIfInBounds_toArray, List.set_cons_zero, List.set_cons_succ])); (refine wpAnyH_val (i := 27) (some 122) ?_ rfl rfl (by kernel_rfl) (by kernel_rfl) (by kernel_rfl) (fun _ _ _ h => h) (by rfl) (by assumption) ?_ ?_; rotate_left; (intro w hSw; go_simp; (try with_reducible rfl)); (try simp only [Act.put, List.setIfInBounds_toArray, List.set_cons_zero, List.set_cons_succ]))
            (refine wpAnyH_ready (rs := [25]) (by kernel_rfl) (by simp) ?_; refine AllReadyH.cons rfl (fun K hK => ?_) AllReadyH.nil; go_simp)
            refine (c_DepsOfAgreeSets n3 o3 c3 A _ (hdA.keep hS.2.2.2.2)).mono ?_
            rintro e wz ⟨v9, rfl, h9, hbn⟩
            rw [HG1.out] at h9
            obtain ⟨oX, cX, rfl⟩ := h9.shape
            have hdX := h9.deps rfl hGL
            clear h9
            have hS3 := (show _ ∧ _ ∧ _ ∧ _ ∧ Below w21.heap.size w21 _ from ⟨cell_keep hS.1 hbn, cell_keep hS.2.1 hbn, cell_keep hS.2.2.1 hbn, cell_keep hS.2.2.2.1 hbn, bel_to hS.2.2.2.2 hbn⟩)
            refine hK.out _ _ hS3 (fun hS2 => ?_)
            clear hK hbn hS hS2
            have hS := hS3
            clear hS3
            (try simp only [Act.put, List.setIfInBounds_toArray, List.set_cons_zero, List.set_cons_succ])
            (refine wpAnyH_ready (rs := [28]) (by kernel_rfl) (by simp) ?_; refine AllReadyH.cons rfl (fun K hK => ?_) AllReadyH.nil; go_simp)
            refine (c_specDepsOfAgreeSets n3 o3 c3 A _ (hdA.keep hS.2.2.2.2)).mono ?_
            rintro e wz ⟨v9, rfl, h9, hbn⟩
            rw [HG1.out] at h9
            obtain ⟨oY, cY, rfl⟩ := h9.shape
            have hdY := h9.deps rfl hGL
            clear h9
            have hdX := hdX.keep hbn
            have hS3 := (show _ ∧ _ ∧ _ ∧ _ ∧ Below w21.heap.size w21 _ from ⟨cell_keep hS.1 hbn, cell_keep hS.2.1 hbn, cell_keep hS.2.2.1 hbn, cell_keep hS.2.2.2.1 hbn, bel_to hS.2.2.2.2 hbn⟩)
            refine hK.out _ _ hS3 (fun hS2 => ?_)
            clear hK hbn hS hS2
            have hS := hS3
            clear hS3
            (try simp only [Act.put, List.setIfInBounds_toArray, List.set_cons_zero, List.set_cons_succ])
            (refine wpAnyH_ready (rs := [29]) (by kernel_rfl) (by simp) ?_; refine AllReadyH.cons rfl (fun K hK => ?_) AllReadyH.nil; go_simp)
            refine Calls.mono (Ans.eqb (b' := true) (c_specSameDeps oX oY cX cY G1 G1 _ hdX hdY) (by simp)) ?_
            rintro e wz ⟨rfl, hbn⟩
            have hS3 := (show _ ∧ _ ∧ _ ∧ _ ∧ Below w21.heap.size w21 _ from ⟨cell_keep hS.1 hbn, cell_keep hS.2.1 hbn, cell_keep hS.2.2.1 hbn, cell_keep hS.2.2.2.1 hbn, bel_to hS.2.2.2.2 hbn⟩)
            refine hK.out _ _ hS3 (fun hS2 => ?_)
            clear hK hbn hS hS2
            have hS := hS3
            clear hS3
            (try simp only [Act.put, List.setIfInBounds_toArray, List.set_cons_zero, List.set_cons_succ])
            (refine wpAnyH_val (i := 30) (some 125) ?_ rfl rfl (by kernel_rfl) (by kernel_rfl) (by kernel_rfl) (fun _ _ _ h => h) (by rfl) (by assumption) ?_ ?_; rotate_left; (intro w hSw; go_simp; (try with_reducible rfl)); (try simp only [Act.put, List.setIfInBounds_toArray, List.set_cons_zero, List.set_cons_succ])); (refine wpAnyH_val (i := 31) (some 2) ?_ rfl rfl (by kernel_rfl) (by kernel_rfl) (by kernel_rfl) (fun _ _ _ h => h) (by rfl) (by assumption) ?_ ?_; rotate_left; (intro w hSw; go_simp; (try with_reducible rfl)); (try simp only [Act.put, List.setIfInBounds_toArray, List.set_cons_zero, List.set_cons_succ]))
            refine wpAnyH_done (by kernel_rfl) ?_ _
            try dsimp only [NoPanic, Exit.then]
            go_wp2
            go_ret
            exact ⟨rfl, bel_to hb hS.2.2.2.2⟩
        · have hgg : f = true ∧ (k : Int) < 2 ^ n.toNat := by have := HG.out; rw [Bool.and_eq_true, decide_eq_true_eq] at this; exact this
          clear HG
          obtain ⟨rfl, hkn⟩ := hgg
          obtain ⟨hn1, hn5, _, _, hlaw⟩ := HLW.out rfl
          have hk32 : k < 32 := by have := (pow_nat (n := n) (by omega) hn5); omega
          have HUX := (show Hid (∀ j : Nat, (j : Int) < n → (askF n5 R 0 k j && holdsF R 0 k j) = impliesDepF n D k j) from fun j hj => hlaw k j (by omega) hkn (by omega) hj)
          clear hlaw hkn
          go_wp2_with fail
          go_loopw [10] (fun v wr => ∃ j : Nat, v = .int .i64 j ∧ j ≤ 5 ∧ Below w9.heap.size w9 wr) (fun v _ => 5 - (intOf v).toNat)
          case atStart => exact ⟨0, rfl, Nat.zero_le _, Below.refl _ _⟩
          case round =>
            obtain ⟨j, rfl, hj, hbn⟩ := hrel
            have hbi := hbn
            replace hB := hB.keep hbn
            replace hI := hI.keep hbn
            replace hO5 := hO5.keep hbn
            replace k5 := k5.keep hbn
            replace hbo := bel_to hbo hbn
            replace hb := bel_to hb hbn
            clear hbn
            obtain ⟨w10, hwq⟩ := bel_world hb
            subst hwq
            by_cases hjn : (j : Int) < n
            · have HUJ := (show Hid _ from HUX.out j hjn)
              obtain ⟨b, HB⟩ : ∃ b, Hid (impliesDepF n D k j = b) := ⟨_, rfl⟩
              have hbb : (b != b) = false := by simp
              have k11 := Blk.new w10 #[.int .i64 k, .int .i64 j] 55
              have hbn := (Below.refl w10.heap.size w10).alloc (Nat.le_refl _) (.cells #[.int .i64 k, .int .i64 j] 55)
              replace hB := hB.keep hbn
              replace hI := hI.keep hbn
              replace hO5 := hO5.keep hbn
              replace k5 := k5.keep hbn
              replace hbo := bel_to hbo hbn
              replace hbi := bel_to hbi hbn
              replace hb := bel_to hb hbn
              clear hbn
              go_upto_region 15 with fail
              generalize w10.alloc (.cells #[.int .i64 k, .int .i64 j] 55) = w11 at *
              have hd5 := hO5.read hRR HRr.out
              have hdD := hI.deps rfl hDR
              have p0 := k5.cell 0 (.int .i64 n5) rfl
              have p1 := k5.cell 1 (.slice o5 R.length c5) rfl
              have d0 := k11.cell 0 (.int .i64 k) rfl
              have d1 := k11.cell 1 (.int .i64 j) rfl
              (refine wp_region_after (by kernel_rfl) (by kernel_rfl) ?_; have q_d0 := fun (x : After _) => cell_keep d0 x.bel; have q_d1 := fun (x : After _) => cell_keep d1 x.bel; have q_p0 := fun (x : After _) => cell_keep p0 x.bel; have q_p1 := fun (x : After _) => cell_keep p1 x.bel; (repeat (go_big_quiet_step ((first | (go_at_call 40; exact Ans.after (Ans.eqb (c_specHoldsDep n5 o5 c5 R 0 k j _ (hd5.keep (After.bel _))) (HUJ.out.trans HB.out))) | (go_at_call 32; exact Ans.after (Ans.eqb (c_ImpliesDep n o c D k j _ (hdD.keep (After.bel _))) HB.out)))))); clear q_d0; clear q_d1; clear q_p0; clear q_p1; refine wpQuiet_nil ?_; rintro _ ⟨⟨w1, hbn⟩, rfl⟩; (try simp only [After.w]); replace d0 := cell_keep d0 hbn; replace d1 := cell_keep d1 hbn; replace p0 := cell_keep p0 hbn; replace p1 := cell_keep p1 hbn; replace hB := hB.keep hbn; replace hI := hI.keep hbn; replace hO5 := hO5.keep hbn; replace k5 := k5.keep hbn; replace hbo := bel_to hbo hbn; replace hbi := bel_to hbi hbn; replace hb := bel_to (w := w) (by first | exact hb | exact hb.alloc hb.size _ | exact (hb.alloc hb.size _).alloc (Nat.le_trans hb.size (by simp)) _ | exact hb.setCell (by simp [hb.size]) _) hbn; clear hbn)
              go_wp2
              go_roundw
              case rel => exact ⟨j + 1, by go_num, by omega, hbi⟩
              case measure => simp [intOf]; omega
            · go_wp2_with fail
              go_roundw
              case rel => exact ⟨k + 1, by go_num, by omega, hbo⟩
              case measure => simp [intOf]; omega
end Go.Proofs.Ytjbmpnbfiahdhaa
