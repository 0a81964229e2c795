/- Contracts and lemmas for FnDeps, part 3 of 5. -/
import Derived.Test.YtcenndlbhgfdfaaQFnDeps1
import Derived.Test.YtcenndlbhgfdfaaQFnDeps2
import Derived.ProofKit
import Derived.OpenShut
import Derived.Lib.SmallJoins
import Derived.Deep.RegionHeld3
import Derived.Deep.AppendLies
import Derived.BigRegion
import Derived.RegionTactic
import Derived.Outline
import Derived.Deep.SlicePairs
import Derived.Deep.Matrix
import Derived.Deep.RegionLaw
import Derived.IntWalk
import Derived.Deep.CutRange
namespace Go.Proofs.Ytcenndlbhgfdfaa
open Go.RowKit
set_option linter.unusedVariables false
set_option maxRecDepth 100000

theorem OwnRows.past0 {w w' : World} {B : Nat} {v u u' : Value} {xs : List Value} {R : List (List Int)} (h : OwnRows w B v xs R) (hg : w.grownBy w' u.ownBlock) (ha : ApartR v xs u) (hf : Fresh w u u') : OwnRows w' B v xs R ∧ ApartR v xs u' := by
  refine ⟨OwnRows.far h hg ha, Apart.next h.outer ha.1 hf, fun y hy => ?_⟩
  obtain ⟨j, _, o', c, e, h2, _⟩ := h.one hy
  exact Apart.next h2 (ha.2 y hy) hf
theorem OwnI.news {w : World} {base : Nat} {oa : Option Addr} {n c : Nat} {L : List Int} (h : OwnI w base (.slice oa n c) L) (h0 : 0 < L.length) : ∃ g, oa = some ⟨g, 0, none⟩ ∧ ∀ j u, (L.map encI)[j]? = some u → w.cell? ((⟨g, 0, none⟩ : Addr).add j) = some u := by
  obtain ⟨oa', c', e, hg⟩ := owns_cells h
  simp only [Value.slice.injEq] at e
  obtain ⟨rfl, _, rfl⟩ := e
  obtain ⟨g, h1, _, _, _, _, _⟩ := hg h0
  subst h1
  exact ⟨g, rfl, World.ownsRow.cells h rfl⟩
set_option maxHeartbeats 3200000 in
theorem c_l5Classes (n : Int) (oa) (cap : Nat) (R : List (List Int)) (m s : Int) (w : World) (hR : RowsAt w oa R) (ht : isTabF n R = true) (hs : St s) :
    Calls Try.prog 28 #[.agg #[.int .i64 n, .slice oa R.length cap], .int .i64 m, .int .i64 s] w fun e w' => ∃ v xs, e = .returned v ∧ OwnRows w' w.heap.size v xs (ptnQ (sameB R m s) R.length R.length) ∧ Below w.heap.size w w' := by
  obtain ⟨i0, hi, hz0, hz1, hz2⟩ := info_parts info_int
  obtain ⟨j0, hj, hy0, hy1, hy2⟩ := info_parts info_ints
  obtain ⟨hn1, hn5, hr40, hlen⟩ := isTab_of ht
  have HT : Hid (isTabF n R = true) := ht
  have HP : Hid (Per (sameB R m s) R.length) := same_per ht hs
  have HSS : Hid (St s ∧ ∀ k, k < R.length → (row R k).length ≤ 5) := ⟨hs, fun k hk => by have := hlen k hk; omega⟩
  have HQ : Hid (∀ i k, sameB R m s i k = ins s (agreeF m (row R i) (row R k))) := fun i k => rfl
  have hb := (bel2 w (.cells #[.int .i64 n, .slice oa R.length cap] 26) (.cells #[] 37)).alloc (by simp; omega) (.cells #[] 3)
  have k1 := (Below.refl ((w.alloc (.cells #[.int .i64 n, .slice oa R.length cap] 26)).alloc (.cells #[] 37)).heap.size _).alloc (Nat.le_refl _) (.cells #[] 3)
  have a0 := cell_keep (two_a w #[.int .i64 n, .slice oa R.length cap] 26 #[] 37 0 _ rfl) k1
  have a1 := cell_keep (two_a w #[.int .i64 n, .slice oa R.length cap] 26 #[] 37 1 _ rfl) k1
  have hC0 : OwnRows ((w.alloc (.cells #[.int .i64 n, .slice oa R.length cap] 26)).alloc (.cells #[] 37)) (w.heap.size + 1) (.slice (some ⟨w.heap.size + 1, 0, none⟩) 0 0) [] [] := by
    have h := OwnRows.empty (w.alloc (.cells #[.int .i64 n, .slice oa R.length cap] 26)) _ (Nat.le_refl _)
    simpa only [World.size_alloc] using h
  have hC := hC0.keep k1
  have hD0 := OwnI.empty ((w.alloc (.cells #[.int .i64 n, .slice oa R.length cap] 26)).alloc (.cells #[] 37)) _ (Nat.le_refl _)
  have ap_CD := hC0.fresh hD0
  have hD := hD0.based (show w.heap.size + 1 ≤ _ by simp)
  simp only [World.size_alloc] at hD ap_CD
  clear k1 hD0 hC0 ht hs hlen
  have hnl : 0 < R.length ∨ R.length = 0 := by omega
  generalize hq : sameB R m s = q at *
  go_enter Try.func28, Try.ntmps28
  go_wp2
  go_loopw [7, 8, 9] (fun vC vD i wr => ∃ (i' : Nat) (xs : List Value), i = .int .i64 i' ∧ i' ≤ R.length ∧ OwnRows wr (w.heap.size + 1) vC xs (ptnQ q R.length i') ∧ OwnI wr (w.heap.size + 1) vD (ptnQ q R.length i').flatten ∧ ApartR vC xs vD ∧ wr.cell? ⟨w.heap.size, 0, none⟩ = some (.int .i64 n) ∧ wr.cell? ⟨w.heap.size, 1, none⟩ = some (.slice oa R.length cap) ∧ Below w.heap.size w wr) (fun _ _ i _ => R.length - (intOf i).toNat)
  case atStart => exact ⟨0, [], rfl, Nat.zero_le _, hC, hD, ap_CD, a0, a1, hb⟩
  case round =>
    clear hC hD ap_CD a0 a1 hb
    obtain ⟨i, xs, rfl, hi', hC, hD, ap_CD, a0, a1, hb⟩ := hrel
    have hpl := ptn_len q R.length i
    have hxl := hC.len
    have hxs : xs.length ≤ 40 := by omega
    have hfl := flat_len (q := q) hr40 i
    have hflR : ((ptnQ q R.length i).flatten).length ≤ Room := by unfold Room; omega
    clear hxl
    by_cases hlt : i < R.length
    · have HF0 : Hid (inB' (ptnQ q R.length i).flatten (i : Int) = tkQ q i i) := by
        show inB' (ptnQ q R.length i).flatten (i : Int) = tkQ q i i
        rw [Bool.eq_iff_iff]
        have := ptn_flat HP.out (Nat.le_refl i) hlt
        simpa [inB'] using this
      cases hti : tkQ q i i
      · have hin : inB' (ptnQ q R.length i).flatten (i : Int) = false := HF0.out.trans hti
        have HS : Hid (ptnQ q R.length (i + 1) = ptnQ q R.length i ++ (if decide (1 < (clsTo q i R.length).length) then [clsTo q i R.length] else [])) := by
          show ptnQ q R.length (i + 1) = _
          rw [ptn_succ]; unfold headQ; rw [hti]; rfl
        have HF : Hid (clsTo q i (i + 1) = [(i : Int)]) := cls_first q i
        have HFX : Hid ((ptnQ q R.length (i + 1)).flatten = (ptnQ q R.length i).flatten ++ (if decide (1 < (clsTo q i R.length).length) then clsTo q i R.length else [])) := by
          show (ptnQ q R.length (i + 1)).flatten = _
          rw [HS.out, List.flatten_append]; split <;> simp
        clear HF0
        generalize (ptnQ q R.length i).flatten = F at *
        generalize ptnQ q R.length i = P at *
        obtain ⟨oD, cD, rfl⟩ := hD.shape
        go_wp2_with fail
        refine Calls.mono (Ans.eqb (c_l2Has _ _ _ _ _ (hD.ints rfl hflR)) hin) ?_
        rintro e w1 ⟨rfl, hbn⟩
        replace a0 := cell_keep a0 hbn
        replace a1 := cell_keep a1 hbn
        replace hC := hC.keep hbn
        replace hD := hD.keep hbn
        replace hb := bel_to hb hbn
        clear hbn hin
        have hbe := World.block_lt_of_cell? _ _ a1
        have hI := OwnI.single w1 (w.heap.size + 1) hbe (i : Int)
        have hIf := OwnI.single w1 w1.heap.size (Nat.le_refl _) (i : Int)
        have ap_CI := hC.fresh hIf
        have ap_DI := apart_old hD hIf
        have hba := (Below.refl w1.heap.size w1).alloc (Nat.le_refl _) (.cells #[.int .i64 (i : Int)] 3)
        replace hC := hC.keep hba
        replace hD := hD.keep hba
        replace a0 := cell_keep a0 hba
        replace a1 := cell_keep a1 hba
        replace hb := bel_to hb hba
        clear hIf hba hbe
        go_wp2
        go_loopw [10, 11] (fun vI k' wr => ∃ k : Nat, k' = .int .i64 k ∧ i < k ∧ k ≤ R.length ∧ OwnI wr (w.heap.size + 1) vI (clsTo q i k) ∧ OwnRows wr (w.heap.size + 1) u7 xs P ∧ OwnI wr (w.heap.size + 1) (.slice oD F.length cD) F ∧ ApartR u7 xs (.slice oD F.length cD) ∧ ApartR u7 xs vI ∧ Apart (.slice oD F.length cD) vI ∧ wr.cell? ⟨w.heap.size, 0, none⟩ = some (.int .i64 n) ∧ wr.cell? ⟨w.heap.size, 1, none⟩ = some (.slice oa R.length cap) ∧ Below w.heap.size w wr) (fun _ k _ => R.length - (intOf k).toNat)
        case atStart => exact ⟨i + 1, by go_num, by omega, by omega, by rw [HF.out]; exact hI, hC, hD, ap_CD, ap_CI, ap_DI, a0, a1, hb⟩
        case round =>
          clear hC hD hI ap_CD ap_CI ap_DI a0 a1 hb HF
          obtain ⟨k, rfl, hik, hk, hI, hC, hD, ap_CD, ap_CI, ap_DI, a0, a1, hb⟩ := hrel
          have hcl := cls_len q i k
          by_cases hlk : k < R.length
          · have HCS : Hid (clsTo q i (k + 1) = clsTo q i k ++ (if q i k then [(k : Int)] else [])) := by
              show clsTo q i (k + 1) = _
              rw [cls_succ, decide_eq_true hik]; rfl
            have HV : Hid (q i k = ins s (agreeF m (row R i) (row R k))) := HQ.out i k
            have HSX : Hid (St (agreeF m (row R i) (row R k))) := agreeF_st (HSS.out.2 i hlt)
            generalize clsTo q i k = L at *
            go_wp2_with fail
            refine Calls.mono (c_l4Agree n _ _ _ m i k _ (hR.keep hb) HT.out hlt hlk) ?_
            rintro e w2 ⟨rfl, hbn⟩
            replace a0 := cell_keep a0 hbn
            replace a1 := cell_keep a1 hbn
            replace hC := hC.keep hbn
            replace hD := hD.keep hbn
            replace hI := hI.keep hbn
            replace hb := bel_to hb hbn
            clear hbn
            generalize agreeF m (row R i) (row R k) = x at *
            cases hqk : q i k
            · have h1' : (bits BinOp.and .i64 x s == s) = false := (and_swap HSX.out HSS.out.1).trans (HV.out.symm.trans hqk)
              go_wp2
              go_roundw
              case rel => exact ⟨k + 1, by go_num, by omega, by omega, by rw [HCS.out, hqk]; simpa using hI, hC, hD, ap_CD, ap_CI, ap_DI, a0, a1, hb⟩
              case measure => simp [intOf]; omega
            · have h1' : (bits BinOp.and .i64 x s == s) = true := (and_swap HSX.out HSS.out.1).trans (HV.out.symm.trans hqk)
              go_wp2_with (first | (at_builtin; refine wpList_append_fresh rfl _ _ 37 rfl (w.heap.size + 1) 3 i0 (.int .i64 0) 1 8 Try.underlying37 hi hz0 hz1 hz2 rfl (by decide) _ _ _ rfl (World.ownsRow.alloc hI _) _ 1 1 [.int .i64 (k : Int)] rfl rfl (by intro j u hj; match j, hj with | 0, hj => simp at hj; subst hj; simp [Addr.add]) (by intro u hu; simp at hu; subst hu; rfl) (by unfold maxLen; omega) (by omega) (by have := World.block_lt_of_cell? _ _ a1; simp at this; simp; omega) ?_; intro v' w3 hown hgrow hfr; replace hb := (hb.alloc hb.size _).grown hgrow (by have := hb.size; simp; omega) (fun g hg => Nat.le_trans (Nat.le_succ _) (World.ownsRow.lt hI g hg).1); replace a0 := cell_gr (cell_al a0 _) (World.ownsRow.alloc hI _) (by omega) hgrow; replace a1 := cell_gr (cell_al a1 _) (World.ownsRow.alloc hI _) (by omega) hgrow; obtain ⟨hC, ap_CI⟩ := OwnRows.past hC hgrow ap_CI hfr; obtain ⟨hD, ap_DI⟩ := OwnI.past hD hgrow ap_DI hfr; replace hI := OwnI.snoc hown; clear hown hgrow hfr) | fail)
              go_roundw
              case rel => exact ⟨k + 1, by go_num, by omega, by omega, by rw [HCS.out, hqk]; exact hI, hC, hD, ap_CD, ap_CI, ap_DI, a0, a1, hb⟩
              case measure => simp [intOf]; omega
          · have hkk : k = R.length := by omega
            have HCk : Hid (clsTo q i k = clsTo q i R.length) := by show clsTo q i k = clsTo q i R.length; rw [hkk]
            clear hkk
            rw [HCk.out] at hI
            have hcN := cls_len q i R.length
            generalize clsTo q i R.length = L at *
            obtain ⟨oL, cL, rfl⟩ := hI.shape
            by_cases h1 : 1 < L.length
            · have HSP : Hid (ptnQ q R.length (i + 1) = P ++ [L]) := by show ptnQ q R.length (i + 1) = _; rw [HS.out, decide_eq_true h1]; rfl
              have HFL : Hid ((ptnQ q R.length (i + 1)).flatten = F ++ L) := by show (ptnQ q R.length (i + 1)).flatten = _; rw [HFX.out, decide_eq_true h1]; rfl
              have hxl2 := hC.len
              obtain ⟨gL, rfl, _⟩ := hI.news (by omega)
              have hq : True := trivial
              go_wp2_with (first | (clear hq; at_builtin; refine wpList_append_fresh rfl _ _ 24 rfl (w.heap.size + 1) 37 j0 (.slice none 0 0) 1 24 Try.underlying24 hj hy0 hy1 hy2 rfl (by decide) _ _ _ rfl (World.ownsRow.alloc hC.outer _) _ 1 1 [.slice (some ⟨gL, 0, none⟩) L.length cL] rfl rfl (by intro j u hj; match j, hj with | 0, hj => simp at hj; subst hj; simp [Addr.add]) (by intro u hu; simp at hu; subst hu; rfl) (by unfold maxLen; omega) (by omega) (by have := World.block_lt_of_cell? _ _ a1; simp at this; simp; omega) ?_; intro v' w1 hown hgrow hfr; replace hb := (hb.alloc hb.size _).grown hgrow (by have := hb.size; simp; omega) (fun g hg => Nat.le_trans (Nat.le_succ _) (World.ownsRow.lt hC.outer g hg).1); replace a0 := cell_gr (cell_al a0 _) (World.ownsRow.alloc hC.outer _) (by omega) hgrow; replace a1 := cell_gr (cell_al a1 _) (World.ownsRow.alloc hC.outer _) (by omega) hgrow; have hC2 := OwnRows.snoc hC hI ap_CI hown hgrow hfr; have apI := (OwnI.past hI hgrow ap_CI.1.symm hfr); have apD := (OwnI.past hD hgrow ap_CD.1.symm hfr); replace hI := apI.1; replace hD := apD.1; have ap_CD2 := (show ApartR v' (xs ++ [.slice (some ⟨gL, 0, none⟩) L.length cL]) (.slice oD F.length cD) from ⟨apD.2.symm, fun y hy => by rcases List.mem_append.1 hy with h' | h'; exact ap_CD.2 y h'; (rw [List.mem_singleton.1 h']; exact ap_DI.symm)⟩); clear apI apD; replace hC := hC2; clear hC2 hown hgrow hfr; obtain ⟨gL', eL, hnews⟩ := hI.news (by omega); obtain rfl : gL = gL' := by simpa using eL) | (at_builtin; refine wpList_append_fresh rfl _ _ 37 rfl (w.heap.size + 1) 3 i0 (.int .i64 0) 1 8 Try.underlying37 hi hz0 hz1 hz2 rfl (by decide) (.slice oD F.length cD) F.length (F.map encI) rfl (show _ from hD) _ L.length cL (L.map encI) rfl (by simp) hnews (ones' L) (by unfold maxLen; omega) (by omega) (World.block_lt_of_cell? _ _ a1) ?_; intro v'' w2 hown hgrow hfr; replace hb := hb.grown hgrow hb.size (fun g hg => Nat.le_trans (Nat.le_succ _) (World.ownsRow.lt hD g hg).1); replace a0 := cell_gr a0 hD (by omega) hgrow; replace a1 := cell_gr a1 hD (by omega) hgrow; obtain ⟨hC, ap_CD3⟩ := OwnRows.past0 hC hgrow ap_CD2 hfr; have hD2 := (show OwnI w2 (w.heap.size + 1) v'' (F ++ L) from by unfold OwnI; rw [List.length_append, List.map_append]; exact hown); clear hown hgrow hfr) | fail)
              go_roundw
              case rel => exact ⟨i + 1, _, by go_num, by omega, by rw [HSP.out]; exact hC, by rw [HFL.out]; exact hD2, ap_CD3, a0, a1, hb⟩
              case measure => simp [intOf]; omega
            · have HSP : Hid (ptnQ q R.length (i + 1) = P) := by show ptnQ q R.length (i + 1) = _; rw [HS.out, decide_eq_false h1]; simp
              go_wp2
              go_roundw
              case rel => exact ⟨i + 1, xs, by go_num, by omega, by rw [HSP.out]; exact hC, by rw [HFX.out, decide_eq_false h1]; simpa using hD, ap_CD, a0, a1, hb⟩
              case measure => simp [intOf]; omega
      · have hin : inB' (ptnQ q R.length i).flatten (i : Int) = true := HF0.out.trans hti
        have HS : Hid (ptnQ q R.length (i + 1) = ptnQ q R.length i) := by
          show ptnQ q R.length (i + 1) = _
          rw [ptn_succ]; unfold headQ; rw [hti]; simp
        have HFX : Hid ((ptnQ q R.length (i + 1)).flatten = (ptnQ q R.length i).flatten) := by show (ptnQ q R.length (i + 1)).flatten = _; rw [HS.out]
        clear HF0
        generalize (ptnQ q R.length i).flatten = F at *
        generalize ptnQ q R.length i = P at *
        obtain ⟨oD, cD, rfl⟩ := hD.shape
        go_wp2_with fail
        refine Calls.mono (Ans.eqb (c_l2Has _ _ _ _ _ (hD.ints rfl hflR)) hin) ?_
        rintro e w1 ⟨rfl, hbn⟩
        replace a0 := cell_keep a0 hbn
        replace a1 := cell_keep a1 hbn
        replace hC := hC.keep hbn
        replace hD := hD.keep hbn
        replace hb := bel_to hb hbn
        clear hbn hin
        go_wp2
        go_roundw
        case rel => exact ⟨i + 1, xs, by go_num, by omega, by rw [HS.out]; exact hC, by rw [HFX.out]; exact hD, ap_CD, a0, a1, hb⟩
        case measure => simp [intOf]; omega
    · have hkk : i = R.length := by omega
      have HK : Hid (i = R.length) := hkk
      clear hkk
      go_wp2
      go_ret
      exact ⟨_, _, rfl, by have h := hC.based (Nat.le_succ w.heap.size); rw [HK.out] at h; exact h, hb⟩
end Go.Proofs.Ytcenndlbhgfdfaa
namespace Go.Proofs.Ytcenndlbhgfdfaa
open Go.RowKit
set_option linter.unusedVariables false
set_option maxRecDepth 100000

def uniqF (n : Int) (R : List (List Int)) (m s : Int) : Bool := ptnOk n R m s && ((ptnQ (sameB R m s) R.length R.length).length == 0)
theorem ptnF_ok {n : Int} {R : List (List Int)} {m s : Int} (h : ptnOk n R m s = true) : ptnF n R m s = ptnQ (sameB R m s) R.length R.length := by unfold ptnF; rw [if_pos h]
end Go.Proofs.Ytcenndlbhgfdfaa
namespace Go.Proofs.Ytcenndlbhgfdfaa
open Go.RowKit
set_option linter.unusedVariables false
set_option maxRecDepth 100000

theorem ask_attr {n : Int} {R : List (List Int)} {m l r : Int} (h : askF n R m l r = true) : ptnOk n R m l = true ∧ isTabF n R = true ∧ St l ∧ ∃ c : Nat, r = c ∧ (c : Int) < n ∧ c < 5 := by
  unfold askF at h
  simp only [Bool.and_eq_true] at h
  obtain ⟨⟨h1, h2⟩, h3⟩ := h
  have hd := h3
  unfold isDepF at hd
  simp only [Bool.and_eq_true, decide_eq_true_eq] at hd
  obtain ⟨⟨⟨q1, q2⟩, q3⟩, q4⟩ := hd
  obtain ⟨_, h5, _, _⟩ := isTab_of h1
  exact ⟨by unfold ptnOk; rw [h1, h2, q2]; rfl, h1, (dep_of h3 h5).1, r.toNat, by omega, by omega, by omega⟩
structure Cls (P : List (List Int)) (N : Nat) : Prop where
  len : P.length ≤ 40
  rows : ∀ j, j < P.length → (row P j).length ≤ 41
  low : ∀ j, j < P.length → ∀ k, k < (row P j).length → ∃ e : Nat, nth (row P j) k = e ∧ e < N
  up : ∀ j, j < P.length → Up (row P j)
theorem ptn_cls {q : Nat → Nat → Bool} {N : Nat} (hN : N ≤ 40) : Cls (ptnQ q N N) N := by
  have hm : ∀ j, j < (ptnQ q N N).length → ∃ i, i < N ∧ row (ptnQ q N N) j = clsTo q i N := fun j hj => by
    obtain ⟨i, h1, _, h2⟩ := ptn_mem.1 (row_mem hj)
    exact ⟨i, h1, h2⟩
  refine ⟨Nat.le_trans (ptn_len q N N) hN, fun j hj => ?_, fun j hj k hk => ?_, fun j hj => ?_⟩
  · have := ptn_row hj; omega
  · obtain ⟨i, hi, e⟩ := hm j hj
    rw [e] at hk ⊢
    exact cls_low hi _ (List.mem_iff_getElem?.2 ⟨k, nth_eq hk⟩)
  · obtain ⟨i, hi, e⟩ := hm j hj
    rw [e]; exact cls_up
set_option maxHeartbeats 3200000 in
theorem c_RowsToRemove (n : Int) (oa) (cap : Nat) (R : List (List Int)) (m l r : Int) (w : World) (hR : RowsAt w oa R) :
    Ans Try.prog 7 #[.agg #[.int .i64 n, .slice oa R.length cap], .int .i64 m, .agg #[.int .i64 l, .int .i64 r]] w (.int .i64 (rrF n R m l r)) := by
  unfold Ans
  have hb := bel2 w (.cells #[.int .i64 n, .slice oa R.length cap] 26) (.cells #[.int .i64 l, .int .i64 r] 28)
  have a0 := two_a w #[.int .i64 n, .slice oa R.length cap] 26 #[.int .i64 l, .int .i64 r] 28 0 _ rfl
  have a1 := two_a w #[.int .i64 n, .slice oa R.length cap] 26 #[.int .i64 l, .int .i64 r] 28 1 _ rfl
  have d0 := two_b w #[.int .i64 n, .slice oa R.length cap] 26 #[.int .i64 l, .int .i64 r] 28 0 _ rfl
  have d1 := two_b w #[.int .i64 n, .slice oa R.length cap] 26 #[.int .i64 l, .int .i64 r] 28 1 _ rfl
  cases hask : askF n R m l r
  · have HM : Hid (rrF n R m l r = -1) := by show rrF n R m l r = -1; unfold rrF; rw [hask]; rfl
    go_enter Try.func7, Try.ntmps7
    go_wp2_with (first | (go_at_call 20; refine Calls.mono (Ans.eqb (c_asked _ _ _ _ _ _ _ _ (hR.keep hb)) hask) ?_; rintro e w1 ⟨rfl, hbn⟩; replace a0 := cell_keep a0 hbn; replace a1 := cell_keep a1 hbn; replace d0 := cell_keep d0 hbn; replace d1 := cell_keep d1 hbn; replace hb := bel_to (w := w) (by first | exact hb | exact hb.alloc hb.size _ | exact (hb.alloc hb.size _).alloc (Nat.le_trans hb.size (by simp)) _ | exact hb.setCell (by simp [hb.size]) _) hbn; clear hbn))
    go_ret
    exact ⟨ret_int HM.out.symm, hb⟩
  obtain ⟨hok, ht, hst, c, rfl, hcn, hc5⟩ := ask_attr hask
  obtain ⟨hn1, hn5, hr40, hlen⟩ := isTab_of ht
  have HM : Hid (rrF n R m l c = sumTo R m c (ptnF n R m l) (ptnF n R m l).length) := by show rrF n R m l c = _; rw [ptnF_ok hok]; unfold rrF; rw [if_pos hask]
  have HC : Hid (Cls (ptnF n R m l) R.length) := by show Cls (ptnF n R m l) R.length; rw [ptnF_ok hok]; exact ptn_cls hr40
  have HL : Hid (∀ k, k < R.length → c < (row R k).length) := fun k hk => by have := hlen k hk; omega
  clear hlen ht hok hst hn1 hn5 hcn
  go_enter Try.func7, Try.ntmps7
  go_wp2_with (first | (go_at_call 20; refine Calls.mono (Ans.eqb (c_asked _ _ _ _ _ _ _ _ (hR.keep hb)) hask) ?_; rintro e w1 ⟨rfl, hbn⟩; replace a0 := cell_keep a0 hbn; replace a1 := cell_keep a1 hbn; replace d0 := cell_keep d0 hbn; replace d1 := cell_keep d1 hbn; replace hb := bel_to (w := w) (by first | exact hb | exact hb.alloc hb.size _ | exact (hb.alloc hb.size _).alloc (Nat.le_trans hb.size (by simp)) _ | exact hb.setCell (by simp [hb.size]) _) hbn; clear hbn))
  refine (c_PartitionOf n _ _ R m l _ (hR.keep hb)).mono ?_
  rintro e w2 ⟨v2, xs, rfl, hO, hbn⟩
  obtain ⟨o2, c2, rfl⟩ := hO.shape
  have hP := hO.read (Nat.le_trans HC.out.len (by unfold Room; omega)) (fun j hj => Nat.le_trans (HC.out.rows j hj) (by unfold Room; omega))
  replace a0 := cell_keep a0 hbn
  replace a1 := cell_keep a1 hbn
  replace d0 := cell_keep d0 hbn
  replace d1 := cell_keep d1 hbn
  replace hb := bel_to hb hbn
  clear hbn hO
  generalize ptnF n R m l = P at *
  have hPl := HC.out.len
  go_wp2
  go_loopw [7, 27] (fun s i wr => ∃ j : Nat, i = .int .i64 j ∧ j ≤ P.length ∧ s = .int .i64 (sumTo R m c P j) ∧ wr.cell? ⟨w.heap.size, 1, none⟩ = some (.slice oa R.length cap) ∧ wr.cell? ⟨w.heap.size + 1, 1, none⟩ = some (.int .i64 c) ∧ RowsAt wr o2 P ∧ Below w.heap.size w wr) (fun _ i _ => P.length - (intOf i).toNat)
  case atStart => exact ⟨0, rfl, Nat.zero_le _, rfl, a1, d1, hP, hb⟩
  case round =>
    clear a0 a1 d0 d1 hP hb
    obtain ⟨j, rfl, hj, rfl, a1, d1, hP, hb⟩ := hrel
    by_cases hlt : j < P.length
    · have HS : Hid (sumTo R m c P (j + 1) = sumTo R m c P j + ((row P j).length - mostTo R m c (row P j) (row P j).length)) := sum_succ ..
      have hsb := sum_bd (R := R) (m := m) (r := (c : Int)) HC.out.rows j hj
      have hrl := HC.out.rows j hlt
      have HE : Hid (∀ k, k < (row P j).length → ∃ e : Nat, nth (row P j) k = e ∧ e < R.length) := HC.out.low j hlt
      obtain ⟨b3, off3, rfl, hbs3, hcc⟩ := hP.at_ (by omega)
      obtain ⟨o4, c4, hc4, hC⟩ := hcc j hlt
      clear hcc
      generalize sumTo R m c P j = S at *
      generalize row P j = C at *
      have hs1 : -40 ≤ S := by omega
      have hs2 : S ≤ 1640 := by omega
      clear hsb
      go_wp2
      go_loopw [10, 33] (fun s i wr => ∃ k : Nat, i = .int .i64 k ∧ k ≤ C.length ∧ s = .int .i64 (mostTo R m c C k) ∧ wr.cell? ⟨w.heap.size, 1, none⟩ = some (.slice oa R.length cap) ∧ wr.cell? ⟨w.heap.size + 1, 1, none⟩ = some (.int .i64 c) ∧ RowsAt wr (some ⟨b3, off3, none⟩) P ∧ IntsAt wr o4 C ∧ Below w.heap.size w wr) (fun _ i _ => C.length - (intOf i).toNat)
      case atStart => exact ⟨0, rfl, Nat.zero_le _, rfl, a1, d1, hP, hC, hb⟩
      case round =>
        clear a1 d1 hP hC hb hc4
        obtain ⟨k, rfl, hk, rfl, a1, d1, hP, hC, hb⟩ := hrel
        have hmb := most_bd R m c C k
        by_cases hlk : k < C.length
        · have HMS : Hid (mostTo R m c C (k + 1) = max (mostTo R m c C k) (1 + (cntN (pairB R m c C k) C.length : Int))) := most_succ ..
          obtain ⟨b5, off5, rfl, hbs5, hcc⟩ := hC.at_ (by omega)
          have hc5' := hcc k hlk
          obtain ⟨e, he, heR⟩ := HE.out k hlk
          have HPB : Hid (∀ t, pairB R m c C k t = ((nth C k != nth C t) && eqCellF m (cellF R (nth C k) c) (cellF R (nth C t) c))) := fun t => rfl
          have HEK : Hid (nth C k = (e : Int)) := he
          rw [he] at hc5'
          obtain ⟨b6, off6, rfl, hbs6, hRR⟩ := hR.at_ (by omega)
          obtain ⟨o7, c7, h7, r7⟩ := hRR e heR
          have hl7 := HL.out e heR
          obtain ⟨b8, off8, rfl, hbs8, hr8⟩ := r7.at_ (by omega)
          have h8 := hr8 c hl7
          have HA : Hid (cellF R (nth C k) c = nth (row R e) c) := by show cellF R (nth C k) c = _; rw [he]; unfold cellF; simp
          clear hcc he hr8 r7
          generalize mostTo R m c C k = M at *
          go_wp2
          go_loopw [13, 39] (fun s i wr => ∃ t : Nat, i = .int .i64 t ∧ t ≤ C.length ∧ s = .int .i64 (1 + (cntN (pairB R m c C k) t : Int)) ∧ wr.cell? ⟨w.heap.size, 1, none⟩ = some (.slice (some ⟨b6, off6, none⟩) R.length cap) ∧ wr.cell? ⟨w.heap.size + 1, 1, none⟩ = some (.int .i64 c) ∧ RowsAt wr (some ⟨b3, off3, none⟩) P ∧ IntsAt wr (some ⟨b5, off5, none⟩) C ∧ Below w.heap.size w wr) (fun _ i _ => C.length - (intOf i).toNat)
          case atStart => exact ⟨0, rfl, Nat.zero_le _, rfl, a1, d1, hP, hC, hb⟩
          case round =>
            clear a1 d1 hP hC hb hc5'
            obtain ⟨t, rfl, ht', rfl, a1, d1, hP, hC, hb⟩ := hrel
            have hcl := cnt_le (pairB R m c C k) t
            by_cases hlT : t < C.length
            · obtain ⟨b9, off9, eq9, hbs9, hcc⟩ := hC.at_ (by omega)
              simp only [Option.some.injEq, Addr.mk.injEq, and_true] at eq9
              obtain ⟨rfl, rfl⟩ := eq9
              have hc9 := hcc t hlT
              obtain ⟨f, hf, hfR⟩ := HE.out t hlT
              have HCS : Hid (cntN (pairB R m c C k) (t + 1) = cntN (pairB R m c C k) t + if pairB R m c C k t then 1 else 0) := cnt_succ ..
              have HPT : Hid (pairB R m c C k t = (((e : Int) != (f : Int)) && eqCellF m (nth (row R e) c) (nth (row R f) c))) := by
                show pairB R m c C k t = _
                rw [HPB.out, HA.out, HEK.out, hf]; unfold cellF; simp
              rw [hf] at hc9
              obtain ⟨o10, c10, h10, r10⟩ := hRR f hfR
              have hl10 := HL.out f hfR
              obtain ⟨b11, off11, rfl, hbs11, hr11⟩ := r10.at_ (by omega)
              have h11 := hr11 c hl10
              have g7 := cell_keep h7 hb
              have g8 := cell_keep h8 hb
              have g10 := cell_keep h10 hb
              have g11 := cell_keep h11 hb
              clear hcc hf hr11 r10 h10 h11
              generalize nth (row R e) c = A at *
              generalize nth (row R f) c = B at *
              generalize cntN (pairB R m c C k) t = q at *
              cases hne : ((e : Int) != (f : Int))
              · have HPF : Hid (pairB R m c C k t = false) := by show pairB R m c C k t = false; rw [HPT.out, hne]; rfl
                go_wp2_with fail
                (refine wp_region_after (by kernel_rfl) (by kernel_rfl) ?_; have q_a1 := fun (x : After _) => cell_keep a1 x.bel; have q_d1 := fun (x : After _) => cell_keep d1 x.bel; (repeat (go_big_quiet_step (fail))); clear q_a1; clear q_d1; refine wpQuiet_nil ?_; rintro _ ⟨⟨w1, hbn⟩, rfl⟩; (try simp only [After.w]); replace a1 := cell_keep a1 hbn; replace d1 := cell_keep d1 hbn; replace hP := hP.keep hbn; replace hC := hC.keep hbn; replace hb := bel_to (w := w) (by first | exact hb | exact hb.alloc hb.size _ | exact (hb.alloc hb.size _).alloc (Nat.le_trans hb.size (by simp)) _ | exact hb.setCell (by simp [hb.size]) _) hbn; clear hbn)
                go_wp2
                go_roundw
                case rel => exact ⟨t + 1, by go_num, by omega, by rw [HCS.out, HPF.out]; simp, a1, d1, hP, hC, hb⟩
                case measure => simp [intOf]; omega
              · cases heq : eqCellF m A B
                · have HPF : Hid (pairB R m c C k t = false) := by show pairB R m c C k t = false; rw [HPT.out, hne, heq]; rfl
                  go_wp2_with fail
                  (refine wp_region_after (by kernel_rfl) (by kernel_rfl) ?_; have q_a1 := fun (x : After _) => cell_keep a1 x.bel; have q_d1 := fun (x : After _) => cell_keep d1 x.bel; have q_g7 := fun (x : After _) => cell_keep g7 x.bel; have q_g8 := fun (x : After _) => cell_keep g8 x.bel; have q_g10 := fun (x : After _) => cell_keep g10 x.bel; have q_g11 := fun (x : After _) => cell_keep g11 x.bel; (repeat (go_big_quiet_step ((first | (go_at_call 22; exact Ans.after (Ans.eqb (c_EqualCells _ _ _ _) heq)))))); clear q_a1; clear q_d1; clear q_g7; clear q_g8; clear q_g10; clear q_g11; refine wpQuiet_nil ?_; rintro _ ⟨⟨w1, hbn⟩, rfl⟩; (try simp only [After.w]); replace a1 := cell_keep a1 hbn; replace d1 := cell_keep d1 hbn; replace g7 := cell_keep g7 hbn; replace g8 := cell_keep g8 hbn; replace g10 := cell_keep g10 hbn; replace g11 := cell_keep g11 hbn; replace hP := hP.keep hbn; replace hC := hC.keep hbn; replace hb := bel_to (w := w) (by first | exact hb | exact hb.alloc hb.size _ | exact (hb.alloc hb.size _).alloc (Nat.le_trans hb.size (by simp)) _ | exact hb.setCell (by simp [hb.size]) _) hbn; clear hbn)
                  go_wp2
                  go_roundw
                  case rel => exact ⟨t + 1, by go_num, by omega, by rw [HCS.out, HPF.out]; simp, a1, d1, hP, hC, hb⟩
                  case measure => simp [intOf]; omega
                · have HPF : Hid (pairB R m c C k t = true) := by show pairB R m c C k t = true; rw [HPT.out, hne, heq]; rfl
                  go_wp2_with fail
                  (refine wp_region_after (by kernel_rfl) (by kernel_rfl) ?_; have q_a1 := fun (x : After _) => cell_keep a1 x.bel; have q_d1 := fun (x : After _) => cell_keep d1 x.bel; have q_g7 := fun (x : After _) => cell_keep g7 x.bel; have q_g8 := fun (x : After _) => cell_keep g8 x.bel; have q_g10 := fun (x : After _) => cell_keep g10 x.bel; have q_g11 := fun (x : After _) => cell_keep g11 x.bel; (repeat (go_big_quiet_step ((first | (go_at_call 22; exact Ans.after (Ans.eqb (c_EqualCells _ _ _ _) heq)))))); clear q_a1; clear q_d1; clear q_g7; clear q_g8; clear q_g10; clear q_g11; refine wpQuiet_nil ?_; rintro _ ⟨⟨w1, hbn⟩, rfl⟩; (try simp only [After.w]); replace a1 := cell_keep a1 hbn; replace d1 := cell_keep d1 hbn; replace g7 := cell_keep g7 hbn; replace g8 := cell_keep g8 hbn; replace g10 := cell_keep g10 hbn; replace g11 := cell_keep g11 hbn; replace hP := hP.keep hbn; replace hC := hC.keep hbn; replace hb := bel_to (w := w) (by first | exact hb | exact hb.alloc hb.size _ | exact (hb.alloc hb.size _).alloc (Nat.le_trans hb.size (by simp)) _ | exact hb.setCell (by simp [hb.size]) _) hbn; clear hbn)
                  go_wp2
                  go_roundw
                  case rel => exact ⟨t + 1, by go_num, by omega, by rw [HCS.out, HPF.out]; simp; omega, a1, d1, hP, hC, hb⟩
                  case measure => simp [intOf]; omega
            · have htt : t = C.length := by omega
              have HTT : Hid (t = C.length) := htt
              have HMS2 : Hid (mostTo R m c C (k + 1) = max M (1 + (cntN (pairB R m c C k) t : Int))) := by show mostTo R m c C (k + 1) = _; rw [HMS.out, htt]
              clear htt
              generalize cntN (pairB R m c C k) t = q at *
              have hm1 := hmb.1
              have hm2 := hmb.2
              go_wp2
              go_roundw
              case rel => exact ⟨k + 1, by go_num, by omega, by rw [HMS2.out], a1, d1, hP, hC, hb⟩
              case measure => simp [intOf]; omega
        · have hkk : k = C.length := by omega
          have HS2 : Hid (sumTo R m c P (j + 1) = S + (C.length - mostTo R m c C k)) := by show sumTo R m c P (j + 1) = _; rw [HS.out, hkk]
          clear hkk
          generalize mostTo R m c C k = M at *
          have hm1 := hmb.1
          have hm2 := hmb.2
          go_wp2
          go_roundw
          case rel => exact ⟨j + 1, by go_num, by omega, by rw [HS2.out], a1, d1, hP, hb⟩
          case measure => simp [intOf]; omega
    · have hjj : j = P.length := by omega
      have HJ : Hid (j = P.length) := hjj
      clear hjj
      go_wp2
      go_ret
      exact ⟨ret_int (by rw [HM.out, HJ.out]), hb⟩
set_option maxHeartbeats 3200000 in
theorem c_specRowsToRemove (n : Int) (oa) (cap : Nat) (R : List (List Int)) (m l r : Int) (w : World) (hR : RowsAt w oa R) :
    Ans Try.prog 11 #[.agg #[.int .i64 n, .slice oa R.length cap], .int .i64 m, .agg #[.int .i64 l, .int .i64 r]] w (.int .i64 (rrF n R m l r)) := by
  unfold Ans
  have hb := bel2 w (.cells #[.int .i64 n, .slice oa R.length cap] 26) (.cells #[.int .i64 l, .int .i64 r] 28)
  have a0 := two_a w #[.int .i64 n, .slice oa R.length cap] 26 #[.int .i64 l, .int .i64 r] 28 0 _ rfl
  have a1 := two_a w #[.int .i64 n, .slice oa R.length cap] 26 #[.int .i64 l, .int .i64 r] 28 1 _ rfl
  have d0 := two_b w #[.int .i64 n, .slice oa R.length cap] 26 #[.int .i64 l, .int .i64 r] 28 0 _ rfl
  have d1 := two_b w #[.int .i64 n, .slice oa R.length cap] 26 #[.int .i64 l, .int .i64 r] 28 1 _ rfl
  cases hf : (isTabF n R && modeF m)
  · have HM : Hid (rrF n R m l r = -1) := by show rrF n R m l r = -1; unfold rrF askF; rw [hf]; rfl
    go_enter Try.func11, Try.ntmps11
    go_wp2_with (first | (go_at_call 26; refine Calls.mono (Ans.eqb (c_l4Fine _ _ _ _ _ _ (hR.keep hb)) hf) ?_; rintro e w1 ⟨rfl, hbn⟩; replace a0 := cell_keep a0 hbn; replace a1 := cell_keep a1 hbn; replace d0 := cell_keep d0 hbn; replace d1 := cell_keep d1 hbn; replace hb := bel_to (w := w) (by first | exact hb | exact hb.alloc hb.size _ | exact (hb.alloc hb.size _).alloc (Nat.le_trans hb.size (by simp)) _ | exact hb.setCell (by simp [hb.size]) _) hbn; clear hbn))
    go_ret
    exact ⟨ret_int HM.out.symm, hb⟩
  cases hd : isDepF n l r
  · have HM : Hid (rrF n R m l r = -1) := by show rrF n R m l r = -1; unfold rrF askF; rw [hf, hd]; rfl
    go_enter Try.func11, Try.ntmps11
    go_wp2_with (first | (go_at_call 26; refine Calls.mono (Ans.eqb (c_l4Fine _ _ _ _ _ _ (hR.keep hb)) hf) ?_; rintro e w1 ⟨rfl, hbn⟩; replace a0 := cell_keep a0 hbn; replace a1 := cell_keep a1 hbn; replace d0 := cell_keep d0 hbn; replace d1 := cell_keep d1 hbn; replace hb := bel_to (w := w) (by first | exact hb | exact hb.alloc hb.size _ | exact (hb.alloc hb.size _).alloc (Nat.le_trans hb.size (by simp)) _ | exact hb.setCell (by simp [hb.size]) _) hbn; clear hbn) | (go_at_call 15; refine Calls.mono (Ans.eqb (c_specIsDep _ _ _ _) hd) ?_; rintro e w1 ⟨rfl, hbn⟩; replace a0 := cell_keep a0 hbn; replace a1 := cell_keep a1 hbn; replace d0 := cell_keep d0 hbn; replace d1 := cell_keep d1 hbn; replace hb := bel_to (w := w) (by first | exact hb | exact hb.alloc hb.size _ | exact (hb.alloc hb.size _).alloc (Nat.le_trans hb.size (by simp)) _ | exact hb.setCell (by simp [hb.size]) _) hbn; clear hbn))
    go_ret
    exact ⟨ret_int HM.out.symm, hb⟩
  have hask : askF n R m l r = true := by unfold askF; rw [hf, hd]; rfl
  obtain ⟨hok, ht, hst, c, hrc, hcn, hc5⟩ := ask_attr hask
  have hr0 : 0 ≤ r := by omega
  have hr5 : r < 5 := by omega
  obtain ⟨hn1, hn5, hr40, hlen⟩ := isTab_of ht
  have HM : Hid (rrF n R m l r = sumTo R m r (ptnQ (sameB R m l) R.length R.length) (ptnQ (sameB R m l) R.length R.length).length) := by show rrF n R m l r = _; unfold rrF; rw [if_pos hask]
  have HC : Hid (Cls (ptnQ (sameB R m l) R.length R.length) R.length) := ptn_cls hr40
  have HL : Hid (∀ k, k < R.length → (row R k).length ≤ 5 ∧ r.toNat < (row R k).length) := fun k hk => by have := hlen k hk; omega
  have HT : Hid (isTabF n R = true ∧ St l ∧ Co r) := ⟨ht, hst, ⟨hr0, hr5⟩⟩
  clear hlen ht hok hst hn1 hn5 hcn hask hrc hc5 c
  go_enter Try.func11, Try.ntmps11
  go_wp2_with (first | (go_at_call 26; refine Calls.mono (Ans.eqb (c_l4Fine _ _ _ _ _ _ (hR.keep hb)) hf) ?_; rintro e w1 ⟨rfl, hbn⟩; replace a0 := cell_keep a0 hbn; replace a1 := cell_keep a1 hbn; replace d0 := cell_keep d0 hbn; replace d1 := cell_keep d1 hbn; replace hb := bel_to (w := w) (by first | exact hb | exact hb.alloc hb.size _ | exact (hb.alloc hb.size _).alloc (Nat.le_trans hb.size (by simp)) _ | exact hb.setCell (by simp [hb.size]) _) hbn; clear hbn) | (go_at_call 15; refine Calls.mono (Ans.eqb (c_specIsDep _ _ _ _) hd) ?_; rintro e w1 ⟨rfl, hbn⟩; replace a0 := cell_keep a0 hbn; replace a1 := cell_keep a1 hbn; replace d0 := cell_keep d0 hbn; replace d1 := cell_keep d1 hbn; replace hb := bel_to (w := w) (by first | exact hb | exact hb.alloc hb.size _ | exact (hb.alloc hb.size _).alloc (Nat.le_trans hb.size (by simp)) _ | exact hb.setCell (by simp [hb.size]) _) hbn; clear hbn))
  refine (c_l5Classes n _ _ R m l _ (hR.keep hb) HT.out.1 HT.out.2.1).mono ?_
  rintro e w2 ⟨v2, xs, rfl, hO, hbn⟩
  obtain ⟨o2, c2, rfl⟩ := hO.shape
  have hP := hO.read (Nat.le_trans HC.out.len (by unfold Room; omega)) (fun j hj => Nat.le_trans (HC.out.rows j hj) (by unfold Room; omega))
  replace a0 := cell_keep a0 hbn
  replace a1 := cell_keep a1 hbn
  replace d0 := cell_keep d0 hbn
  replace d1 := cell_keep d1 hbn
  replace hb := bel_to hb hbn
  clear hbn hO
  generalize ptnQ (sameB R m l) R.length R.length = P at *
  have hPl := HC.out.len
  go_wp2
  go_loopw [7, 9] (fun s i wr => ∃ j : Nat, i = .int .i64 j ∧ j ≤ P.length ∧ s = .int .i64 (sumTo R m r P j) ∧ wr.cell? ⟨w.heap.size, 0, none⟩ = some (.int .i64 n) ∧ wr.cell? ⟨w.heap.size, 1, none⟩ = some (.slice oa R.length cap) ∧ wr.cell? ⟨w.heap.size + 1, 1, none⟩ = some (.int .i64 r) ∧ RowsAt wr o2 P ∧ Below w.heap.size w wr) (fun _ i _ => P.length - (intOf i).toNat)
  case atStart => exact ⟨0, rfl, Nat.zero_le _, rfl, a0, a1, d1, hP, hb⟩
  case round =>
    clear a0 a1 d0 d1 hP hb
    obtain ⟨j, rfl, hj, rfl, a0, a1, d1, hP, hb⟩ := hrel
    by_cases hlt : j < P.length
    · have HS : Hid (sumTo R m r P (j + 1) = sumTo R m r P j + ((row P j).length - mostTo R m r (row P j) (row P j).length)) := sum_succ ..
      have hsb := sum_bd (R := R) (m := m) (r := r) HC.out.rows j hj
      have hrl := HC.out.rows j hlt
      have HE : Hid (∀ k, k < (row P j).length → ∃ e : Nat, nth (row P j) k = e ∧ e < R.length) := HC.out.low j hlt
      have HU : Hid (Up (row P j)) := HC.out.up j hlt
      obtain ⟨b3, off3, rfl, hbs3, hcc⟩ := hP.at_ (by omega)
      obtain ⟨o4, c4, hc4, hC⟩ := hcc j hlt
      clear hcc
      generalize sumTo R m r P j = S at *
      generalize row P j = C at *
      have hs1 : -40 ≤ S := by omega
      have hs2 : S ≤ 1640 := by omega
      clear hsb
      go_wp2
      go_loopw [10, 11] (fun s i wr => ∃ k : Nat, i = .int .i64 k ∧ k ≤ C.length ∧ s = .int .i64 (mostTo R m r C k) ∧ wr.cell? ⟨w.heap.size, 0, none⟩ = some (.int .i64 n) ∧ wr.cell? ⟨w.heap.size, 1, none⟩ = some (.slice oa R.length cap) ∧ wr.cell? ⟨w.heap.size + 1, 1, none⟩ = some (.int .i64 r) ∧ wr.cell? ⟨b3, off3 + j, none⟩ = some (.slice o4 C.length c4) ∧ IntsAt wr o4 C ∧ RowsAt wr (some ⟨b3, off3, none⟩) P ∧ Below w.heap.size w wr) (fun _ i _ => C.length - (intOf i).toNat)
      case atStart => exact ⟨0, rfl, Nat.zero_le _, rfl, a0, a1, d1, hc4, hC, hP, hb⟩
      case round =>
        clear a0 a1 d1 hC hb hc4 hP
        obtain ⟨k, rfl, hk, rfl, a0, a1, d1, hc4, hC, hP, hb⟩ := hrel
        have hmb := most_bd R m r C k
        by_cases hlk : k < C.length
        · have HMS : Hid (mostTo R m r C (k + 1) = max (mostTo R m r C k) (1 + (cntN (pairB R m r C k) C.length : Int))) := most_succ ..
          obtain ⟨b5, off5, rfl, hbs5, hcc⟩ := hC.at_ (by omega)
          have hc5' := hcc k hlk
          obtain ⟨e, he, heR⟩ := HE.out k hlk
          have HPB : Hid (∀ t, pairB R m r C k t = ((nth C k != nth C t) && eqCellF m (cellF R (nth C k) r) (cellF R (nth C t) r))) := fun t => rfl
          have HEK : Hid (nth C k = (e : Int)) := he
          rw [he] at hc5'
          clear hcc he
          generalize mostTo R m r C k = M at *
          go_wp2
          go_loopw [12, 13] (fun s i wr => ∃ t : Nat, i = .int .i64 t ∧ t ≤ C.length ∧ s = .int .i64 (1 + (cntN (pairB R m r C k) t : Int)) ∧ wr.cell? ⟨w.heap.size, 0, none⟩ = some (.int .i64 n) ∧ wr.cell? ⟨w.heap.size, 1, none⟩ = some (.slice oa R.length cap) ∧ wr.cell? ⟨w.heap.size + 1, 1, none⟩ = some (.int .i64 r) ∧ wr.cell? ⟨b3, off3 + j, none⟩ = some (.slice (some ⟨b5, off5, none⟩) C.length c4) ∧ IntsAt wr (some ⟨b5, off5, none⟩) C ∧ RowsAt wr (some ⟨b3, off3, none⟩) P ∧ Below w.heap.size w wr) (fun _ i _ => C.length - (intOf i).toNat)
          case atStart => exact ⟨0, rfl, Nat.zero_le _, rfl, a0, a1, d1, hc4, hC, hP, hb⟩
          case round =>
            clear a0 a1 d1 hC hb hc5' hc4 hP
            obtain ⟨t, rfl, ht', rfl, a0, a1, d1, hc4, hC, hP, hb⟩ := hrel
            have hcl := cnt_le (pairB R m r C k) t
            by_cases hlT : t < C.length
            · obtain ⟨b9, off9, eq9, hbs9, hcc⟩ := hC.at_ (by omega)
              simp only [Option.some.injEq, Addr.mk.injEq, and_true] at eq9
              obtain ⟨rfl, rfl⟩ := eq9
              have hc9 := hcc t hlT
              have hc8 := hcc k hlk
              obtain ⟨f, hf, hfR⟩ := HE.out t hlT
              have HCS : Hid (cntN (pairB R m r C k) (t + 1) = cntN (pairB R m r C k) t + if pairB R m r C k t then 1 else 0) := cnt_succ ..
              obtain ⟨X, hX⟩ : ∃ X, X = agreeF m (row R e) (row R f) := ⟨_, rfl⟩
              have HXA : Hid (∀ (w' : World), RowsAt w' oa R → Ans Try.prog 29 #[.agg #[.int .i64 n, .slice oa R.length cap], .int .i64 m, .int .i64 e, .int .i64 f] w' (.int .i64 X)) := fun w' h => by rw [hX]; exact c_l4Agree n oa cap R m e f w' h HT.out.1 heR hfR
              have HPT : Hid (pairB R m r C k t = (decide (k ≠ t) && hasc X r)) := by
                show pairB R m r C k t = _
                have h9 := HL.out e heR
                rw [HPB.out, up_ne HU.out hlk hlT, HEK.out, hf, hX, hasc_agree HT.out.2.2 h9.1]
                unfold cellF
                rw [decide_eq_true h9.2]; simp
              rw [hf] at hc9
              rw [HEK.out] at hc8
              have hx := fun (x : After wr) => (hR.keep hb).keep x.bel
              clear hcc hf hX
              generalize cntN (pairB R m r C k) t = q at *
              cases hne : ((t : Int) != (k : Int))
              · have HPF : Hid (pairB R m r C k t = false) := by
                  have : t = k := by have h9 := hne; simp at h9; omega
                  show pairB R m r C k t = false
                  rw [HPT.out]; simp [this]
                go_wp2_with fail
                (refine wp_region_after (by kernel_rfl) (by kernel_rfl) ?_; have q_a0 := fun (x : After _) => cell_keep a0 x.bel; have q_a1 := fun (x : After _) => cell_keep a1 x.bel; have q_d1 := fun (x : After _) => cell_keep d1 x.bel; have q_hc4 := fun (x : After _) => cell_keep hc4 x.bel; (repeat (go_big_quiet_step (fail))); clear q_a0; clear q_a1; clear q_d1; clear q_hc4; refine wpQuiet_nil ?_; rintro _ ⟨⟨w1, hbn⟩, rfl⟩; (try simp only [After.w]); replace a0 := cell_keep a0 hbn; replace a1 := cell_keep a1 hbn; replace d1 := cell_keep d1 hbn; replace hc4 := cell_keep hc4 hbn; replace hC := hC.keep hbn; replace hP := hP.keep hbn; replace hb := bel_to (w := w) (by first | exact hb | exact hb.alloc hb.size _ | exact (hb.alloc hb.size _).alloc (Nat.le_trans hb.size (by simp)) _ | exact hb.setCell (by simp [hb.size]) _) hbn; clear hbn)
                go_wp2
                go_roundw
                case rel => exact ⟨t + 1, by go_num, by omega, by rw [HCS.out, HPF.out]; simp, a0, a1, d1, hc4, hC, hP, hb⟩
                case measure => simp [intOf]; omega
              · have HNE : Hid (k ≠ t) := by have : ¬ (t = k) := by have h9 := hne; simp at h9; omega
                                             show k ≠ t; omega
                cases hh : hasc X r
                · have hh2 : (bits BinOp.and IntKind.i64 (X / 2 ^ r.toNat) 1 == 1) = false := hh
                  have HPF : Hid (pairB R m r C k t = false) := by show pairB R m r C k t = false; rw [HPT.out, hh]; simp
                  go_wp2_with fail
                  (refine wp_region_after (by kernel_rfl) (by kernel_rfl) ?_; have q_a0 := fun (x : After _) => cell_keep a0 x.bel; have q_a1 := fun (x : After _) => cell_keep a1 x.bel; have q_d1 := fun (x : After _) => cell_keep d1 x.bel; have q_hc4 := fun (x : After _) => cell_keep hc4 x.bel; have q_hc8 := fun (x : After _) => cell_keep hc8 x.bel; have q_hc9 := fun (x : After _) => cell_keep hc9 x.bel; (repeat (go_big_quiet_step ((first | (go_at_call 29; exact Ans.after (HXA.out _ (hx _))))))); clear q_a0; clear q_a1; clear q_d1; clear q_hc4; clear q_hc8; clear q_hc9; refine wpQuiet_nil ?_; rintro _ ⟨⟨w1, hbn⟩, rfl⟩; (try simp only [After.w]); replace a0 := cell_keep a0 hbn; replace a1 := cell_keep a1 hbn; replace d1 := cell_keep d1 hbn; replace hc4 := cell_keep hc4 hbn; replace hc8 := cell_keep hc8 hbn; replace hc9 := cell_keep hc9 hbn; replace hC := hC.keep hbn; replace hP := hP.keep hbn; replace hb := bel_to (w := w) (by first | exact hb | exact hb.alloc hb.size _ | exact (hb.alloc hb.size _).alloc (Nat.le_trans hb.size (by simp)) _ | exact hb.setCell (by simp [hb.size]) _) hbn; clear hbn)
                  go_wp2
                  go_roundw
                  case rel => exact ⟨t + 1, by go_num, by omega, by rw [HCS.out, HPF.out]; simp, a0, a1, d1, hc4, hC, hP, hb⟩
                  case measure => simp [intOf]; omega
                · have hh2 : (bits BinOp.and IntKind.i64 (X / 2 ^ r.toNat) 1 == 1) = true := hh
                  have HPF : Hid (pairB R m r C k t = true) := by show pairB R m r C k t = true; rw [HPT.out, hh, decide_eq_true HNE.out]; rfl
                  go_wp2_with fail
                  (refine wp_region_after (by kernel_rfl) (by kernel_rfl) ?_; have q_a0 := fun (x : After _) => cell_keep a0 x.bel; have q_a1 := fun (x : After _) => cell_keep a1 x.bel; have q_d1 := fun (x : After _) => cell_keep d1 x.bel; have q_hc4 := fun (x : After _) => cell_keep hc4 x.bel; have q_hc8 := fun (x : After _) => cell_keep hc8 x.bel; have q_hc9 := fun (x : After _) => cell_keep hc9 x.bel; (repeat (go_big_quiet_step ((first | (go_at_call 29; exact Ans.after (HXA.out _ (hx _))))))); clear q_a0; clear q_a1; clear q_d1; clear q_hc4; clear q_hc8; clear q_hc9; refine wpQuiet_nil ?_; rintro _ ⟨⟨w1, hbn⟩, rfl⟩; (try simp only [After.w]); replace a0 := cell_keep a0 hbn; replace a1 := cell_keep a1 hbn; replace d1 := cell_keep d1 hbn; replace hc4 := cell_keep hc4 hbn; replace hc8 := cell_keep hc8 hbn; replace hc9 := cell_keep hc9 hbn; replace hC := hC.keep hbn; replace hP := hP.keep hbn; replace hb := bel_to (w := w) (by first | exact hb | exact hb.alloc hb.size _ | exact (hb.alloc hb.size _).alloc (Nat.le_trans hb.size (by simp)) _ | exact hb.setCell (by simp [hb.size]) _) hbn; clear hbn)
                  go_wp2
                  go_roundw
                  case rel => exact ⟨t + 1, by go_num, by omega, by rw [HCS.out, HPF.out]; simp; omega, a0, a1, d1, hc4, hC, hP, hb⟩
                  case measure => simp [intOf]; omega
            · have htt : t = C.length := by omega
              have HMS2 : Hid (mostTo R m r C (k + 1) = max M (1 + (cntN (pairB R m r C k) t : Int))) := by show mostTo R m r C (k + 1) = _; rw [HMS.out, htt]
              clear htt
              generalize cntN (pairB R m r C k) t = q at *
              have hm1 := hmb.1
              have hm2 := hmb.2
              go_wp2
              go_roundw
              case rel => exact ⟨k + 1, by go_num, by omega, by rw [HMS2.out], a0, a1, d1, hc4, hC, hP, hb⟩
              case measure => simp [intOf]; omega
        · have hkk : k = C.length := by omega
          have HS2 : Hid (sumTo R m r P (j + 1) = S + C.length - mostTo R m r C k) := by show sumTo R m r P (j + 1) = _; rw [HS.out, hkk]; omega
          clear hkk
          generalize mostTo R m r C k = M at *
          have hm1 := hmb.1
          have hm2 := hmb.2
          go_wp2
          go_roundw
          case rel => exact ⟨j + 1, by go_num, by omega, by rw [HS2.out], a0, a1, d1, hP, hb⟩
          case measure => simp [intOf]; omega
    · have hjj : j = P.length := by omega
      have HJ : Hid (j = P.length) := hjj
      clear hjj
      go_wp2
      go_ret
      exact ⟨ret_int (by rw [HM.out, HJ.out]), hb⟩
end Go.Proofs.Ytcenndlbhgfdfaa
namespace Go.Proofs.Ytcenndlbhgfdfaa
open Go.ChangeShapes Go.WideShapes Go.ChangeAt Go.RowKit
set_option linter.unusedVariables false
set_option maxRecDepth 100000

/-- n bytes that can be read. -/
structure BytesAt (w : World) (oa : Option Addr) (n : Nat) : Prop where
  at_ : 0 < n → ∃ b off, oa = some ⟨b, off, none⟩ ∧ b < w.heap.size ∧ ∀ k, k < n → ∃ x : Int, w.cell? ⟨b, off + k, none⟩ = some (.int .u8 x) ∧ 0 ≤ x ∧ x < 256
theorem BytesAt.keep {w w' : World} {oa : Option Addr} {n : Nat} (h : BytesAt w oa n) (hb : Below w.heap.size w w') : BytesAt w' oa n :=
  ⟨fun h0 => by
    obtain ⟨b, off, e, hlt, hc⟩ := h.at_ h0
    exact ⟨b, off, e, Nat.lt_of_lt_of_le hlt hb.size, fun k hk => by rw [hb.cell (p := ⟨b, off + k, none⟩) hlt]; exact hc k hk⟩⟩
def InBytes (w : World) (v : Value) : Prop := ∃ (oa : Option Addr) (len cap : Nat), v = .slice oa len cap ∧ len ≤ maxLen ∧ BytesAt w oa len
theorem open_bytes {H : Type} {enc : TypeId × Value → H} {W : World} {base : Nat} {held : Bool} {v : Value} {d : DataW H} {ps : List MemPlace} (hok : Value.okWide Try.prog W .any base 22 v)
    (h : DataW.Trod enc Try.prog W 0 (fun _ => true) held 22 v d ps) : InBytes W v := by
  obtain ⟨a0, len0, cap0, rfl⟩ := okWide_slice Try.underlying22 hok
  obtain ⟨fuel, hf⟩ := h
  rcases Go.ChangeShapes.open_ints Try.underlying22 Try.underlying5 (by kernel_rfl) hf with ⟨hcs, _⟩ | ⟨x, l, c, zs, hcs, _, hl, hm, hz, _, hcell, hwz⟩
  · simp [Value.cells] at hcs
    obtain ⟨rfl, rfl, rfl⟩ := hcs
    exact ⟨_, _, _, rfl, Nat.zero_le _, ⟨fun h => absurd h (by simp)⟩⟩
  · simp [Value.cells] at hcs
    obtain ⟨rfl, rfl, rfl⟩ := hcs
    refine ⟨_, _, _, rfl, Nat.le_trans hl hm, ⟨fun h0 => ?_⟩⟩
    have hz' : zs.length = cap0 := by simpa using hz
    obtain ⟨b, off, spot⟩ := x
    have hc := hcell 0 (by omega)
    have hspot : spot = none := by simpa [Addr.add] using World.cell?_spot hc
    subst hspot
    refine ⟨b, off, rfl, World.block_lt_of_cell? W ⟨b, off, none⟩ (by simpa [Addr.add] using hc), fun k hk => ?_⟩
    have hk' : k < zs.length := by omega
    have := hcell k hk'
    have e : (⟨b, off, none⟩ : Addr).add k = ⟨b, off + k, none⟩ := by unfold Addr.add; split <;> simp_all
    rw [e] at this
    have hw := hwz (zs.getD k 0) (by rw [List.getD_eq_getElem?_getD, List.getElem?_eq_getElem hk']; exact List.getElem_mem hk')
    refine ⟨_, this, ?_⟩
    generalize zs.getD k 0 = z at *
    have hw' : (decide (IntKind.u8.min ≤ z) && decide (z ≤ IntKind.u8.max)) = true := hw
    rw [show IntKind.u8.min = 0 from rfl, show IntKind.u8.max = 255 from rfl, Bool.and_eq_true, decide_eq_true_eq, decide_eq_true_eq] at hw'
    omega
end Go.Proofs.Ytcenndlbhgfdfaa
namespace Go.Proofs.Ytcenndlbhgfdfaa
open Go.RowKit
set_option linter.unusedVariables false
set_option maxRecDepth 100000

/-- Block g is a cursor. -/
def Cur (w : World) (g : Nat) : Prop := ∃ (oa : Option Addr) (n cap i : Nat) (h : Int), Blk w g #[.slice oa n cap, .int .i64 i, .int .i64 h] 73 ∧ i ≤ n ∧ n ≤ 1048576 ∧ BytesAt w oa n ∧ (0 < n → ∀ a, oa = some a → a.block < g)
theorem Cur.lt {w : World} {g : Nat} (h : Cur w g) : g < w.heap.size := by obtain ⟨_, _, _, _, _, h, _⟩ := h; exact h.lt
theorem BytesAt.grown {w w' : World} {oa : Option Addr} {n : Nat} {row : Option Nat} (h : BytesAt w oa n) (hg : w.grownBy w' row) (hne : 0 < n → ∀ a, oa = some a → some a.block ≠ row) : BytesAt w' oa n :=
  ⟨fun h0 => by
    obtain ⟨b, off, e, hlt, hc⟩ := h.at_ h0
    exact ⟨b, off, e, Nat.lt_of_lt_of_le hlt hg.size, fun k hk => by rw [World.cell?_of_block (hg.block b hlt (hne h0 _ e))]; exact hc k hk⟩⟩
theorem Cur.keep {w w' : World} {g : Nat} (h : Cur w g) (hb : Below w.heap.size w w') : Cur w' g := by
  obtain ⟨oa, n, cap, i, x, h1, h2, h3, h4, h5⟩ := h
  exact ⟨oa, n, cap, i, x, h1.keep hb, h2, h3, h4.keep hb, h5⟩
theorem Blk.gr {a b : World} {g : Nat} {c : Array Value} {T : TypeId} {row : Option Nat} (h : Blk a g c T) (hg : a.grownBy b row) (hne : some g ≠ row) : Blk b g c T := (hg.block g h.lt hne).trans h
/-- What the call made behind the cursor may turn. -/
theorem Cur.grown {w w' : World} {g : Nat} {row : Option Nat} (h : Cur w g) (hg : w.grownBy w' row) (hr : ∀ k, row = some k → g < k) : Cur w' g := by
  obtain ⟨oa, n, cap, i, x, h1, h2, h3, h4, h5⟩ := h
  refine ⟨oa, n, cap, i, x, h1.gr hg (fun e => by have := hr g e.symm; omega), h2, h3, h4.grown hg (fun h0 a e e' => ?_), h5⟩
  have := h5 h0 a e
  have := hr _ e'.symm
  omega
theorem and255 (x : Int) : 0 ≤ bits BinOp.and .i64 x 255 ∧ bits BinOp.and .i64 x 255 < 256 := by
  unfold bits
  have h : ∀ b : BitVec 64, (b &&& BitVec.ofInt 64 255).toNat < 256 := fun b => by
    rw [BitVec.toNat_and]
    exact Nat.lt_of_le_of_lt Nat.and_le_right (by decide)
  have := h (BitVec.ofInt 64 x)
  have e : ∀ n : Nat, n < 256 → IntKind.i64.wrap (n : Int) = n := fun n hn => by
    unfold IntKind.wrap
    simp [IntKind.bits, IntKind.signed]
    omega
  show 0 ≤ IntKind.i64.wrap ((BitVec.ofInt 64 x &&& BitVec.ofInt 64 255).toNat : Int) ∧ IntKind.i64.wrap ((BitVec.ofInt 64 x &&& BitVec.ofInt 64 255).toNat : Int) < 256
  rw [e _ this]
  omega
set_option maxHeartbeats 800000 in
theorem c_l1Byte (g : Nat) (w : World) (hc : Cur w g) :
    Calls Try.prog 61 #[.pointer (some ⟨g, 0, none⟩)] w fun e w' => ∃ x : Int, e = .returned (.int .i64 x) ∧ 0 ≤ x ∧ x < 256 ∧ Cur w' g ∧ w.grownBy w' (some g) := by
  obtain ⟨oa, n, cap, i, h, k, hi, hn, hB, hlo⟩ := hc
  have k2 := k.cell 2 (.int .i64 h) rfl
  have f2 := k.free 2
  have HI : Hid (i ≤ n) := hi
  clear hi
  go_enter Try.func61, Try.ntmps61
  go_wp2_with fail
  have kk : Blk _ g #[.slice oa n cap, .int .i64 i, .int .i64 (wrap64 (wrap64 (h * 6364136223846793005) + 1442695040888963407))] 73 := k.set 2 (.int .i64 (wrap64 (wrap64 (h * 6364136223846793005) + 1442695040888963407)))
  have hg := grown_set w g 2 (.int .i64 (wrap64 (wrap64 (h * 6364136223846793005) + 1442695040888963407)))
  clear k k2 f2
  generalize wrap64 (wrap64 (h * 6364136223846793005) + 1442695040888963407) = h2 at *
  have s2 := kk.cell 2 (.int .i64 h2) rfl
  (refine wp_region_after (by kernel_rfl) (by kernel_rfl) ?_; have q_s2 := fun (x : After _) => cell_keep s2 x.bel; (repeat (go_big_quiet_step (fail))); clear q_s2; refine wpQuiet_nil ?_; rintro _ ⟨⟨w1, hbn⟩, rfl⟩; (try simp only [After.w]))
  replace kk := kk.keep hbn
  replace hg := grown_trans hg (grown_of_below hbn _)
  clear hbn s2
  have hx := and255 (bits BinOp.xor IntKind.i64 (h2 / 8589934592) (h2 / 35184372088832))
  generalize bits BinOp.and IntKind.i64 (bits BinOp.xor IntKind.i64 (h2 / 8589934592) (h2 / 35184372088832)) 255 = x at *
  obtain ⟨hx0, hx1⟩ := hx
  go_wp2_with fail
  have s0 := kk.cell 0 (.slice oa n cap) rfl
  have s1 := kk.cell 1 (.int .i64 i) rfl
  (refine wp_region_after (by kernel_rfl) (by kernel_rfl) ?_; have q_s0 := fun (x : After _) => cell_keep s0 x.bel; have q_s1 := fun (x : After _) => cell_keep s1 x.bel; (repeat (go_big_quiet_step (fail))); clear q_s0; clear q_s1; refine wpQuiet_nil ?_; rintro _ ⟨⟨w1, hbn⟩, rfl⟩; (try simp only [After.w]))
  replace kk := kk.keep hbn
  replace hg := grown_trans hg (grown_of_below hbn _)
  clear hbn s0 s1
  by_cases hlt : i < n
  · have hB' := hB.grown hg (fun h0 a e e' => by injection e' with e'; have := hlo h0 a e; omega)
    obtain ⟨b, off, rfl, hbs, hcell⟩ := hB'.at_ (by omega)
    obtain ⟨y, hy, hy0, hy1⟩ := hcell i hlt
    have s0 := kk.cell 0 (.slice (some ⟨b, off, none⟩) n cap) rfl
    have s1 := kk.cell 1 (.int .i64 i) rfl
    clear hcell
    go_wp2_with fail
    (refine wp_region_after (by kernel_rfl) (by kernel_rfl) ?_; have q_s0 := fun (x : After _) => cell_keep s0 x.bel; have q_s1 := fun (x : After _) => cell_keep s1 x.bel; have q_hy := fun (x : After _) => cell_keep hy x.bel; (repeat (go_big_quiet_step (fail))); clear q_s0; clear q_s1; clear q_hy; refine wpQuiet_nil ?_; rintro _ ⟨⟨w1, hbn⟩, rfl⟩; (try simp only [After.w]))
    replace kk := kk.keep hbn
    replace hg := grown_trans hg (grown_of_below hbn _)
    clear hbn s0 s1 hy
    have hz := and255 (x + y)
    generalize bits BinOp.and IntKind.i64 (x + y) 255 = z at *
    obtain ⟨hz0, hz1⟩ := hz
    have s1 := kk.cell 1 (.int .i64 i) rfl
    have f1 := kk.free 1
    have k2 : Blk _ g #[.slice (some ⟨b, off, none⟩) n cap, .int .i64 ((i : Int) + 1), .int .i64 h2] 73 := kk.set 1 (.int .i64 ((i : Int) + 1))
    have hg2 := grown_trans hg (grown_set _ g 1 (.int .i64 ((i : Int) + 1)))
    have hB2 := hB.grown hg2 (fun h0 a e e' => by injection e' with e'; have := hlo h0 a e; omega)
    clear hB' hg kk
    go_wp2
    go_ret
    exact ⟨z, rfl, hz0, hz1, ⟨_, n, cap, i + 1, h2, k2, by omega, hn, hB2, hlo⟩, hg2⟩
  · have HE : Hid (i = n) := by have := HI.out; show i = n; omega
    go_wp2
    go_ret
    exact ⟨x, rfl, hx0, hx1, ⟨oa, n, cap, i, h2, kk, HI.out, hn, hB.grown hg (fun h0 a e e' => by injection e' with e'; have := hlo h0 a e; omega), hlo⟩, hg⟩
end Go.Proofs.Ytcenndlbhgfdfaa
namespace Go.Proofs.Ytcenndlbhgfdfaa
open Go.RowKit
set_option linter.unusedVariables false
set_option maxRecDepth 100000

theorem tmod_in {x n : Int} (h0 : 0 ≤ x) (hn : 0 < n) : 0 ≤ x.tmod n ∧ x.tmod n < n := by
  rw [Int.tmod_eq_emod_of_nonneg h0]
  exact ⟨Int.emod_nonneg _ (by omega), Int.emod_lt_of_pos _ hn⟩
set_option maxHeartbeats 800000 in
theorem c_l1Below (g : Nat) (n : Int) (hn : n ≤ 256) (w : World) (hc : Cur w g) :
    Calls Try.prog 37 #[.pointer (some ⟨g, 0, none⟩), .int .i64 n] w fun e w' => ∃ x : Int, e = .returned (.int .i64 x) ∧ 0 ≤ x ∧ (0 < n → x < n) ∧ (n ≤ 0 → x = 0) ∧ Cur w' g ∧ w.grownBy w' (some g) := by
  by_cases h0 : n ≤ 0
  · go_enter Try.func37, Try.ntmps37
    go_wp2
    go_ret
    exact ⟨0, rfl, by omega, by omega, fun _ => rfl, hc, grown_refl _ _⟩
  · have hne : n ≠ 0 := by omega
    have hne1 : n ≠ -1 := by omega
    go_enter Try.func37, Try.ntmps37
    go_wp2_with fail
    refine (c_l1Byte g _ hc).mono ?_
    rintro e w1 ⟨x, rfl, hx0, hx1, hc1, hg⟩
    have hm0 := Int.emod_nonneg x hne
    have hm1 := Int.emod_lt_of_pos x (show 0 < n by omega)
    clear hc
    go_wp2
    go_ret
    exact ⟨x % n, rfl, hm0, fun _ => hm1, fun h => by omega, hc1, hg⟩
theorem c_l1Once (g : Nat) (n : Int) (hn : n ≤ 256) (w : World) (hc : Cur w g) :
    Calls Try.prog 68 #[.pointer (some ⟨g, 0, none⟩), .int .i64 n] w fun e w' => ∃ b : Bool, e = .returned (.bool b) ∧ Cur w' g ∧ w.grownBy w' (some g) := by
  go_enter Try.func68, Try.ntmps68
  go_wp2_with fail
  refine (c_l1Below g n hn _ hc).mono ?_
  rintro e w1 ⟨x, rfl, _, _, _, hc1, hg⟩
  clear hc
  go_wp2
  go_ret
  exact ⟨_, rfl, hc1, hg⟩
theorem IntsAt.grown {w w' : World} {oa : Option Addr} {L : List Int} {row : Option Nat} (h : IntsAt w oa L) (hg : w.grownBy w' row) (hne : ∀ a, oa = some a → some a.block ≠ row) : IntsAt w' oa L :=
  ⟨h.len, fun h0 => by
    obtain ⟨b, off, e, hlt, hc⟩ := h.at_ h0
    exact ⟨b, off, e, Nat.lt_of_lt_of_le hlt hg.size, fun k hk => by rw [World.cell?_of_block (hg.block b hlt (hne _ e))]; exact hc k hk⟩⟩
theorem c_l1PickInt (g : Nat) (oa) (cap : Nat) (L : List Int) (h0 : 0 < L.length) (hl : L.length ≤ 256) (w : World) (hc : Cur w g) (hL : IntsAt w oa L) (hne : ∀ a, oa = some a → a.block ≠ g) :
    Calls Try.prog 64 #[.pointer (some ⟨g, 0, none⟩), .slice oa L.length cap] w fun e w' => ∃ x : Int, e = .returned (.int .i64 x) ∧ x ∈ L ∧ Cur w' g ∧ w.grownBy w' (some g) := by
  go_enter Try.func64, Try.ntmps64
  go_wp2_with fail
  refine (c_l1Below g L.length (by omega) _ hc).mono ?_
  rintro e w1 ⟨x, rfl, hx0, hx1, _, hc1, hg⟩
  obtain ⟨k, rfl⟩ := Int.eq_ofNat_of_zero_le hx0
  have hk : k < L.length := by have := hx1 (by omega); omega
  replace hL := hL.grown hg (fun a e e' => hne a e (by injection e'))
  obtain ⟨b, off, rfl, hbs, hcell⟩ := hL.at_ (by omega)
  have h1 := hcell k hk
  have HM : Hid (nth L k ∈ L) := List.mem_iff_getElem?.2 ⟨k, nth_eq hk⟩
  clear hcell hx1 hc hne hL
  go_wp2
  go_ret
  exact ⟨_, rfl, HM.out, hc1, hg⟩
/-- A literal list of ints behind the cursor. -/
theorem lit_ints (w : World) (cs : Array Value) (L : List Int) (hl : L.length ≤ 100) (hcs : ∀ k, k < L.length → cs[k]? = some (.int .i64 (nth L k))) (T : TypeId) : IntsAt (w.alloc (.cells cs T)) (some ⟨w.heap.size, 0, none⟩) L :=
  ⟨by unfold Room; omega, fun _ => ⟨w.heap.size, 0, rfl, by simp, fun k hk => by rw [Nat.zero_add]; simp only [World.cell?, heap_alloc_new]; exact hcs k hk⟩⟩
theorem cur_alloc {w : World} {g : Nat} (h : Cur w g) (o : Obj) : Cur (w.alloc o) g := h.keep ((Below.refl _ _).alloc (Nat.le_refl _) o)
theorem grown_alloc {w w' : World} {row : Option Nat} {o : Obj} (h : (w.alloc o).grownBy w' row) : w.grownBy w' row := grown_trans (grown_of_below ((Below.refl _ _).alloc (Nat.le_refl _) o) row) h
theorem c_l2Any (g : Nat) (w : World) (hc : Cur w g) :
    Calls Try.prog 63 #[.pointer (some ⟨g, 0, none⟩)] w fun e w' => ∃ x : Int, e = .returned (.int .i64 x) ∧ -1 ≤ x ∧ x ≤ 33 ∧ Cur w' g ∧ w.grownBy w' (some g) := by
  go_enter Try.func63, Try.ntmps63
  go_wp2_with fail
  refine (c_l1Once g 8 (by omega) _ hc).mono ?_
  rintro e w1 ⟨t, rfl, hc1, hg⟩
  clear hc
  cases t
  · go_wp2_with fail
    refine (c_l1Below g 32 (by omega) _ hc1).mono ?_
    rintro e w2 ⟨x, rfl, hx0, hx1, _, hc2, hg2⟩
    have h32 := hx1 (by omega)
    replace hg := grown_trans hg hg2
    clear hc1 hg2 hx1
    go_wp2
    go_ret
    exact ⟨x, rfl, by omega, by omega, hc2, hg⟩
  · have hL := fun T => lit_ints w1 #[.int .i64 (-1), .int .i64 31, .int .i64 32, .int .i64 33] [-1, 31, 32, 33] (by simp) (fun k hk => by match k, hk with | 0, _ => rfl | 1, _ => rfl | 2, _ => rfl | 3, _ => rfl) T
    have hlt := hc1.lt
    go_wp2_with fail
    refine (c_l1PickInt g _ 4 [-1, 31, 32, 33] (by simp) (by simp) _ (cur_alloc hc1 _) (hL _) (fun a e => by injection e with e; subst e; simp; omega)).mono ?_
    rintro e w2 ⟨x, rfl, hx, hc2, hg2⟩
    replace hg := grown_trans hg (grown_alloc hg2)
    have hx2 : -1 ≤ x ∧ x ≤ 33 := by simp at hx; omega
    clear hc1 hg2 hL hx
    go_wp2
    go_ret
    exact ⟨x, rfl, hx2.1, hx2.2, hc2, hg⟩
end Go.Proofs.Ytcenndlbhgfdfaa
namespace Go.Proofs.Ytcenndlbhgfdfaa
open Go.RowKit
set_option linter.unusedVariables false
set_option maxRecDepth 100000

set_option maxHeartbeats 800000 in
theorem c_l1New (oa) (n cap : Nat) (hn : n ≤ 1048576) (w : World) (hB : BytesAt w oa n) :
    Calls Try.prog 36 #[.slice oa n cap] w fun e w' => e = .returned (.pointer (some ⟨w.heap.size, 0, none⟩)) ∧ Cur w' w.heap.size ∧ Below w.heap.size w w' := by
  go_enter Try.func36, Try.ntmps36
  go_wp2
  go_loop [3, 4] (fun h i => ∃ (x : Int) (k : Nat), h = .int .i64 x ∧ i = .int .i64 k ∧ k ≤ n) (fun _ i => n - (intOf i).toNat)
  case atStart => exact ⟨_, 0, rfl, rfl, Nat.zero_le _⟩
  case round =>
    obtain ⟨x, k, rfl, rfl, hk⟩ := hrel
    by_cases hlt : k < n
    · by_cases h4 : (k : Int) < 4000
      · obtain ⟨b, off, rfl, hbs, hc⟩ := hB.at_ (by omega)
        obtain ⟨y, hy, hy0, hy1⟩ := hc k hlt
        clear hc hB
        go_wp2
        go_round
        case rel => exact ⟨_, k + 1, rfl, by go_num, by omega⟩
        case measure => simp [intOf]; omega
      · go_wp2
        go_ret
        exact ⟨rfl, ⟨oa, n, cap, 0, x, Blk.new w _ _, Nat.zero_le _, hn, hB.keep ((Below.refl _ _).alloc (Nat.le_refl _) _), fun h0 a e => by obtain ⟨b, off, e', hlt, _⟩ := hB.at_ h0; rw [e] at e'; injection e' with e'; rw [e']; exact hlt⟩, (Below.refl _ _).alloc (Nat.le_refl _) _⟩
    · have hkk : k = n := by omega
      have HK : Hid (k = n) := hkk
      clear hkk
      go_wp2
      go_ret
      exact ⟨rfl, ⟨oa, n, cap, 0, x, Blk.new w _ _, Nat.zero_le _, hn, hB.keep ((Below.refl _ _).alloc (Nat.le_refl _) _), fun h0 a e => by obtain ⟨b, off, e', hlt, _⟩ := hB.at_ h0; rw [e] at e'; injection e' with e'; rw [e']; exact hlt⟩, (Below.refl _ _).alloc (Nat.le_refl _) _⟩
/-- Whatever was made before the cursor's own turns lies as it lay. -/
theorem Blk.cur {w w' : World} {k g : Nat} {c : Array Value} {T : TypeId} (h : Blk w k c T) (hg : w.grownBy w' (some g)) (hne : k ≠ g) : Blk w' k c T := h.gr hg (fun e => hne (by injection e))
theorem grown_new {w w2 : World} {g k j : Nat} {v : Value} (hG : w.grownBy w2 (some g)) (hk : w.heap.size ≤ k) : w.grownBy (w2.setCell ⟨k, j, none⟩ v) (some g) :=
  ⟨hG.os, hG.tape, hG.output, by have := hG.size; simpa using this, fun i hi hne => (Below.heap_setCell w2 ⟨k, j, none⟩ v i (by show i ≠ k; omega)).trans (hG.block i hi hne)⟩
theorem Cur.set {w : World} {g k j : Nat} {v : Value} (h : Cur w g) (hk : g < k) : Cur (w.setCell ⟨k, j, none⟩ v) g := h.grown (grown_set w k j v) (fun i e => by injection e with e; omega)
set_option maxHeartbeats 800000 in
theorem c_l6Dep (g : Nat) (N : Nat) (h5 : N ≤ 5) (w : World) (hc : Cur w g) :
    Calls Try.prog 62 #[.pointer (some ⟨g, 0, none⟩), .int .i64 N] w fun e w' => ∃ l r : Int, e = .returned (.agg #[.int .i64 l, .int .i64 r]) ∧ Cur w' g ∧ w.grownBy w' (some g) := by
  have hp := pow_wrap (n := (N : Int)) (by omega) (by omega)
  simp only [Int.toNat_natCast] at hp
  have hp1 := hp.1
  have hp2 := hp.2.1
  clear hp
  have hlt := hc.lt
  have kZ := Blk.new w #[.int .i64 0, .int .i64 0] 28
  have hG := grown_of_below ((Below.refl w.heap.size w).alloc (Nat.le_refl _) (.cells #[.int .i64 0, .int .i64 0] 28)) (some g)
  replace hc := cur_alloc hc (.cells #[.int .i64 0, .int .i64 0] 28)
  go_enter Try.func62, Try.ntmps62
  go_wp2_with fail
  refine (c_l1Below g (2 ^ N) (by omega) _ hc).mono ?_
  rintro e w1 ⟨x, rfl, _, _, _, hc1, hg⟩
  replace kZ := kZ.cur hg (by omega)
  replace hG := grown_trans hG hg
  clear hc hg
  go_wp2_with fail
  refine (c_l1Below g N (by omega) _ hc1).mono ?_
  rintro e w2 ⟨y, rfl, _, _, _, hc2, hg⟩
  replace kZ := kZ.cur hg (by omega)
  replace hG := grown_trans hG hg
  clear hc1 hg
  have z0 := kZ.cell 0 (.int .i64 0) rfl
  have z1 := kZ.cell 1 (.int .i64 0) rfl
  have f0 := kZ.free 0
  have f1 := kZ.free 1
  go_wp2
  exact bodyPost_ret (v := .agg #[.int .i64 x, .int .i64 y]) (by simp [results, Try.results62, go_sem, z0, z1]) rfl ⟨x, y, rfl, (hc2.set hlt).set hlt, grown_new (grown_new hG (Nat.le_refl _)) (Nat.le_refl _)⟩
set_option maxHeartbeats 1600000 in
theorem c_l6Any (g : Nat) (n : Int) (w : World) (hc : Cur w g) :
    Calls Try.prog 38 #[.pointer (some ⟨g, 0, none⟩), .int .i64 n] w fun e w' => ∃ l r : Int, e = .returned (.agg #[.int .i64 l, .int .i64 r]) ∧ Cur w' g ∧ w.grownBy w' (some g) := by
  have hlt := hc.lt
  have kZ := Blk.new w #[.int .i64 0, .int .i64 0] 28
  have hG := grown_of_below ((Below.refl w.heap.size w).alloc (Nat.le_refl _) (.cells #[.int .i64 0, .int .i64 0] 28)) (some g)
  replace hc := cur_alloc hc (.cells #[.int .i64 0, .int .i64 0] 28)
  cases hin : inB n 1 5
  · go_enter Try.func38, Try.ntmps38
    go_wp2_with fail
    refine Calls.mono (Ans.eqb (c_l1In _ _ _ _) hin) ?_
    rintro e w1 ⟨rfl, hbn⟩
    replace kZ := kZ.keep hbn
    replace hc := hc.keep hbn
    replace hG := grown_trans hG (grown_of_below hbn _)
    clear hbn
    go_wp2_with fail
    refine (c_l6Dep g 3 (by omega) _ hc).mono ?_
    rintro e w2 ⟨l, r, rfl, hc2, hg⟩
    replace kZ := kZ.cur hg (by omega)
    replace hG := grown_trans hG hg
    clear hc hg
    have kD := Blk.new w2 #[.int .i64 l, .int .i64 r] 28
    have hl2 := kZ.lt
    replace kZ := kZ.alloc (.cells #[.int .i64 l, .int .i64 r] 28)
    replace hc2 := cur_alloc hc2 (.cells #[.int .i64 l, .int .i64 r] 28)
    replace hG := grown_trans hG (grown_of_below ((Below.refl w2.heap.size w2).alloc (Nat.le_refl _) (.cells #[.int .i64 l, .int .i64 r] 28)) (some g))
    go_wp2_with fail
    refine (c_l1Below g 14 (by omega) _ hc2).mono ?_
    rintro e w3 ⟨q, rfl, _, _, _, hc3, hg⟩
    replace kZ := kZ.cur hg (by omega)
    replace kD := kD.cur hg (by omega)
    replace hG := grown_trans hG hg
    clear hc2 hg
    by_cases e0 : q = 0
    · go_wp2_with fail
      refine (c_l2Any g _ hc3).mono ?_
      rintro e w4 ⟨x, rfl, _, _, hc4, hg⟩
      replace kZ := kZ.cur hg (by omega)
      replace kD := kD.cur hg (by omega)
      replace hG := grown_trans hG hg
      clear hc3 hg
      have d0 := kD.cell 0 (.int .i64 l) rfl
      have d1 := kD.cell 1 (.int .i64 r) rfl
      have e0' := kD.free 0
      have z0 := kZ.cell 0 (.int .i64 0) rfl
      have z1 := kZ.cell 1 (.int .i64 0) rfl
      have f0 := kZ.free 0
      have f1 := kZ.free 1
      have kD2 : Blk _ w2.heap.size #[.int .i64 x, .int .i64 r] 28 := kD.set 0 (.int .i64 x)
      have kZ2 := kZ.far ⟨w2.heap.size, 0, none⟩ (.int .i64 x) (by simp; omega)
      have y0 := kD2.cell 0 (.int .i64 x) rfl
      have y1 := kD2.cell 1 (.int .i64 r) rfl
      have v0 := kZ2.cell 0 (.int .i64 0) rfl
      have v1 := kZ2.cell 1 (.int .i64 0) rfl
      have g0 := kZ2.free 0
      have g1 := kZ2.free 1
      have hc5 := Cur.set (j := 0) (v := .int .i64 x) hc4 (show g < w2.heap.size by omega)
      have hG5 := grown_new (j := 0) (v := .int .i64 x) hG (show w.heap.size ≤ w2.heap.size by omega)
      go_wp2
      exact bodyPost_ret (v := .agg #[.int .i64 x, .int .i64 r]) (by simp [results, Try.results38, go_sem, v0, v1]) rfl ⟨x, r, rfl, (hc5.set hlt).set hlt, grown_new (grown_new hG5 (Nat.le_refl _)) (Nat.le_refl _)⟩
    · by_cases e1 : q = 1
      · have hL := fun T => lit_ints w3 #[.int .i64 (-1), .int .i64 4, .int .i64 5] [-1, 4, 5] (by simp) (fun k hk => by match k, hk with | 0, _ => rfl | 1, _ => rfl | 2, _ => rfl) T
        have hlt3 := hc3.lt
        go_wp2_with fail
        refine (c_l1PickInt g _ 3 [-1, 4, 5] (by simp) (by simp) _ (cur_alloc hc3 _) (hL _) (fun a e => by injection e with e; subst e; simp; omega)).mono ?_
        rintro e w4 ⟨x, rfl, _, hc4, hg⟩
        replace hg := grown_alloc hg
        replace kZ := kZ.cur hg (by omega)
        replace kD := kD.cur hg (by omega)
        replace hG := grown_trans hG hg
        clear hc3 hg hL
        have d0 := kD.cell 0 (.int .i64 l) rfl
        have d1 := kD.cell 1 (.int .i64 r) rfl
        have e0' := kD.free 1
        have kD2 : Blk _ w2.heap.size #[.int .i64 l, .int .i64 x] 28 := kD.set 1 (.int .i64 x)
        have kZ2 := kZ.far ⟨w2.heap.size, 1, none⟩ (.int .i64 x) (by simp; omega)
        have y0 := kD2.cell 0 (.int .i64 l) rfl
        have y1 := kD2.cell 1 (.int .i64 x) rfl
        have v0 := kZ2.cell 0 (.int .i64 0) rfl
        have v1 := kZ2.cell 1 (.int .i64 0) rfl
        have g0 := kZ2.free 0
        have g1 := kZ2.free 1
        have hc5 := Cur.set (j := 1) (v := .int .i64 x) hc4 (show g < w2.heap.size by omega)
        have hG5 := grown_new (j := 1) (v := .int .i64 x) hG (show w.heap.size ≤ w2.heap.size by omega)
        go_wp2
        exact bodyPost_ret (v := .agg #[.int .i64 l, .int .i64 x]) (by simp [results, Try.results38, go_sem, v0, v1]) rfl ⟨l, x, rfl, (hc5.set hlt).set hlt, grown_new (grown_new hG5 (Nat.le_refl _)) (Nat.le_refl _)⟩
      · have d0 := kD.cell 0 (.int .i64 l) rfl
        have d1 := kD.cell 1 (.int .i64 r) rfl
        have z0 := kZ.cell 0 (.int .i64 0) rfl
        have z1 := kZ.cell 1 (.int .i64 0) rfl
        have f0 := kZ.free 0
        have f1 := kZ.free 1
        go_wp2
        exact bodyPost_ret (v := .agg #[.int .i64 l, .int .i64 r]) (by simp [results, Try.results38, go_sem, z0, z1]) rfl ⟨l, r, rfl, (hc3.set hlt).set hlt, grown_new (grown_new hG (Nat.le_refl _)) (Nat.le_refl _)⟩
  · obtain ⟨N, rfl⟩ := Int.eq_ofNat_of_zero_le (show 0 ≤ n by unfold inB at hin; simp at hin; omega)
    have hN : N ≤ 5 := by unfold inB at hin; simp at hin; omega
    go_enter Try.func38, Try.ntmps38
    go_wp2_with fail
    refine Calls.mono (Ans.eqb (c_l1In _ _ _ _) hin) ?_
    rintro e w1 ⟨rfl, hbn⟩
    replace kZ := kZ.keep hbn
    replace hc := hc.keep hbn
    replace hG := grown_trans hG (grown_of_below hbn _)
    clear hbn
    go_wp2_with fail
    refine (c_l6Dep g N (by omega) _ hc).mono ?_
    rintro e w2 ⟨l, r, rfl, hc2, hg⟩
    replace kZ := kZ.cur hg (by omega)
    replace hG := grown_trans hG hg
    clear hc hg
    have kD := Blk.new w2 #[.int .i64 l, .int .i64 r] 28
    have hl2 := kZ.lt
    replace kZ := kZ.alloc (.cells #[.int .i64 l, .int .i64 r] 28)
    replace hc2 := cur_alloc hc2 (.cells #[.int .i64 l, .int .i64 r] 28)
    replace hG := grown_trans hG (grown_of_below ((Below.refl w2.heap.size w2).alloc (Nat.le_refl _) (.cells #[.int .i64 l, .int .i64 r] 28)) (some g))
    go_wp2_with fail
    refine (c_l1Below g 14 (by omega) _ hc2).mono ?_
    rintro e w3 ⟨q, rfl, _, _, _, hc3, hg⟩
    replace kZ := kZ.cur hg (by omega)
    replace kD := kD.cur hg (by omega)
    replace hG := grown_trans hG hg
    clear hc2 hg
    by_cases e0 : q = 0
    · go_wp2_with fail
      refine (c_l2Any g _ hc3).mono ?_
      rintro e w4 ⟨x, rfl, _, _, hc4, hg⟩
      replace kZ := kZ.cur hg (by omega)
      replace kD := kD.cur hg (by omega)
      replace hG := grown_trans hG hg
      clear hc3 hg
      have d0 := kD.cell 0 (.int .i64 l) rfl
      have d1 := kD.cell 1 (.int .i64 r) rfl
      have e0' := kD.free 0
      have z0 := kZ.cell 0 (.int .i64 0) rfl
      have z1 := kZ.cell 1 (.int .i64 0) rfl
      have f0 := kZ.free 0
      have f1 := kZ.free 1
      have kD2 : Blk _ w2.heap.size #[.int .i64 x, .int .i64 r] 28 := kD.set 0 (.int .i64 x)
      have kZ2 := kZ.far ⟨w2.heap.size, 0, none⟩ (.int .i64 x) (by simp; omega)
      have y0 := kD2.cell 0 (.int .i64 x) rfl
      have y1 := kD2.cell 1 (.int .i64 r) rfl
      have v0 := kZ2.cell 0 (.int .i64 0) rfl
      have v1 := kZ2.cell 1 (.int .i64 0) rfl
      have g0 := kZ2.free 0
      have g1 := kZ2.free 1
      have hc5 := Cur.set (j := 0) (v := .int .i64 x) hc4 (show g < w2.heap.size by omega)
      have hG5 := grown_new (j := 0) (v := .int .i64 x) hG (show w.heap.size ≤ w2.heap.size by omega)
      go_wp2
      exact bodyPost_ret (v := .agg #[.int .i64 x, .int .i64 r]) (by simp [results, Try.results38, go_sem, v0, v1]) rfl ⟨x, r, rfl, (hc5.set hlt).set hlt, grown_new (grown_new hG5 (Nat.le_refl _)) (Nat.le_refl _)⟩
    · by_cases e1 : q = 1
      · have hL := fun T => lit_ints w3 #[.int .i64 (-1), .int .i64 4, .int .i64 5] [-1, 4, 5] (by simp) (fun k hk => by match k, hk with | 0, _ => rfl | 1, _ => rfl | 2, _ => rfl) T
        have hlt3 := hc3.lt
        go_wp2_with fail
        refine (c_l1PickInt g _ 3 [-1, 4, 5] (by simp) (by simp) _ (cur_alloc hc3 _) (hL _) (fun a e => by injection e with e; subst e; simp; omega)).mono ?_
        rintro e w4 ⟨x, rfl, _, hc4, hg⟩
        replace hg := grown_alloc hg
        replace kZ := kZ.cur hg (by omega)
        replace kD := kD.cur hg (by omega)
        replace hG := grown_trans hG hg
        clear hc3 hg hL
        have d0 := kD.cell 0 (.int .i64 l) rfl
        have d1 := kD.cell 1 (.int .i64 r) rfl
        have e0' := kD.free 1
        have kD2 : Blk _ w2.heap.size #[.int .i64 l, .int .i64 x] 28 := kD.set 1 (.int .i64 x)
        have kZ2 := kZ.far ⟨w2.heap.size, 1, none⟩ (.int .i64 x) (by simp; omega)
        have y0 := kD2.cell 0 (.int .i64 l) rfl
        have y1 := kD2.cell 1 (.int .i64 x) rfl
        have v0 := kZ2.cell 0 (.int .i64 0) rfl
        have v1 := kZ2.cell 1 (.int .i64 0) rfl
        have g0 := kZ2.free 0
        have g1 := kZ2.free 1
        have hc5 := Cur.set (j := 1) (v := .int .i64 x) hc4 (show g < w2.heap.size by omega)
        have hG5 := grown_new (j := 1) (v := .int .i64 x) hG (show w.heap.size ≤ w2.heap.size by omega)
        go_wp2
        exact bodyPost_ret (v := .agg #[.int .i64 l, .int .i64 x]) (by simp [results, Try.results38, go_sem, v0, v1]) rfl ⟨l, x, rfl, (hc5.set hlt).set hlt, grown_new (grown_new hG5 (Nat.le_refl _)) (Nat.le_refl _)⟩
      · have d0 := kD.cell 0 (.int .i64 l) rfl
        have d1 := kD.cell 1 (.int .i64 r) rfl
        have z0 := kZ.cell 0 (.int .i64 0) rfl
        have z1 := kZ.cell 1 (.int .i64 0) rfl
        have f0 := kZ.free 0
        have f1 := kZ.free 1
        go_wp2
        exact bodyPost_ret (v := .agg #[.int .i64 l, .int .i64 r]) (by simp [results, Try.results38, go_sem, z0, z1]) rfl ⟨l, r, rfl, (hc3.set hlt).set hlt, grown_new (grown_new hG (Nat.le_refl _)) (Nat.le_refl _)⟩
end Go.Proofs.Ytcenndlbhgfdfaa
namespace Go.Proofs.Ytcenndlbhgfdfaa
open Go.RowKit
theorem heap_two (w : World) (o1 o2 : Obj) : ((w.alloc o1).alloc o2).heap[w.heap.size + 1]? = some o2 := by
  have := heap_alloc_new (w.alloc o1) o2
  rwa [World.size_alloc] at this
end Go.Proofs.Ytcenndlbhgfdfaa
namespace Go.Proofs.Ytcenndlbhgfdfaa
open Go.RowKit
set_option linter.unusedVariables false
set_option maxRecDepth 100000
set_option maxHeartbeats 1600000

theorem step_append_own {P : Program} (w : World) {ops : Array Oper} {o : Oper} {a : Act} {K : Act → World → Prop} {Q : Exit → Act → World → Prop} {E : Prop} (hgd : o.guard = none) (s x : Operand) (t : TypeId)
    (ho : o.op = .call { callee := .builtin .append, args := #[s, x], argTypes := #[t, t] })
    (base : Nat) (e : TypeId) (i : TypeInfo) (z : Value) (size bytes : Nat) (ht : P.underlying t = some (.slice e)) (hi : P.info? e = some i) (hz : i.zero = some z)
    (hsize : i.size = size) (hby : i.bytes = bytes) (hzs : z.cells.size = size) (hsz : 0 < size)
    (v : Value) (n : Nat) (xs : List Value) (hs : a.eval s = v) (hown : w.ownsRow base e size v n xs)
    (ad : Addr) (m c : Nat) (news : List Value) (hx : a.eval x = .slice (some ad) m c) (hl : news.length = m * size) (hnews : ∀ j u, news[j]? = some u → w.cell? (ad.add j) = some u) (h1 : ∀ u ∈ news, u.oneCell' = true)
    (h63 : n + m ≤ maxLen) (hbytes : (n + m) * bytes ≤ 140737488355328) (hbase : base ≤ w.heap.size)
    (h : ∀ v' w', w'.ownsRow base e size v' (n + m) (xs ++ news) → w.grownBy w' v.ownBlock → K (a.put o.dst v') w') :
    if Region.wanted o (yielded ops a.tmps) = true then Oper.wp P o a w K Q else E := by
  have hw : Region.wanted o (yielded ops a.tmps) = true := by simp [Region.wanted, hgd]
  rw [if_pos hw]
  exact wp_append_own w s x t ho base e i z size bytes ht hi hz hsize hby hzs hsz v n xs hs hown ad m c news hx hl hnews h1 h63 hbytes hbase fun v' w' h2 h3 _ => h v' w' h2 h3

/-- An operation whose guard is shut, taken first. -/
theorem wpAnyH_skip {P : Program} {ops : Array Oper} {Q : Exit → Act → World → Prop} {md : Region.Mode} {S : World → Prop} {i : Nat} {oi : Oper} (d : Option Nat) {fuel : Nat} {listed : Array Bool} {a : Act} {w : World} (hi : ops[i]? = some oi) (hd : oi.dst = d)
    (hs : Region.noSelect ops = true) (hf : Region.free md ops listed i = true) (hr : (Region.ready md ops listed).contains i = true)
    (hQ : ∀ c a w, Q (.panic c) (a.put d undef) w → Q (.panic c) a w) (hy : Region.wanted oi (yielded ops a.tmps) = false) (hS : S w)
    (h : wpAnyH P md ops Q S fuel (listed.setIfInBounds i true) (a.put d undef) w) : wpAnyH P md ops Q S (fuel + 1) listed a w := by
  subst hd
  exact wpAnyH_take hi hs hf hr hQ (Or.inr ⟨hy, rfl⟩) hS h
/-- An operation that yields a value whatever the world, taken first. -/
theorem wpAnyH_val {P : Program} {ops : Array Oper} {Q : Exit → Act → World → Prop} {md : Region.Mode} {S : World → Prop} {i : Nat} {oi : Oper} (d : Option Nat) (v : Value) {fuel : Nat} {listed : Array Bool} {a : Act} {w : World} (hi : ops[i]? = some oi) (hd : oi.dst = d)
    (hs : Region.noSelect ops = true) (hf : Region.free md ops listed i = true) (hr : (Region.ready md ops listed).contains i = true)
    (hQ : ∀ c a w, Q (.panic c) (a.put d v) w → Q (.panic c) a w) (hw : Region.wanted oi (yielded ops a.tmps) = true) (hS : S w) (hy : ∀ w, S w → (execOp a.eval oi).run P w = .ok (.value v) w)
    (h : wpAnyH P md ops Q S fuel (listed.setIfInBounds i true) (a.put d v) w) : wpAnyH P md ops Q S (fuel + 1) listed a w := by
  subst hd
  exact wpAnyH_take hi hs hf hr hQ (Or.inl ⟨hw, hy⟩) hS h
theorem nl_take {D : List (Int × Int)} {i k : Nat} (h : k < i) : nl (D.take i) k = nl D k := by unfold nl; simp [List.getD, h]
theorem nr_take {D : List (Int × Int)} {i k : Nat} (h : k < i) : nr (D.take i) k = nr D k := by unfold nr; simp [List.getD, h]
theorem DepsAt.take {w : World} {oa : Option Addr} {D : List (Int × Int)} (h : DepsAt w oa D) (i : Nat) : DepsAt w oa (D.take i) := by
  refine ⟨by have := h.len; rw [List.length_take]; omega, fun h0 => ?_⟩
  rw [List.length_take] at h0
  obtain ⟨b, off, e, hlt, hc⟩ := h.at_ (by omega)
  refine ⟨b, off, e, hlt, fun k hk => ?_⟩
  rw [List.length_take] at hk
  rw [nl_take (by omega), nr_take (by omega)]
  exact hc k (by omega)
theorem OwnD.row {w : World} {base : Nat} {v : Value} {i : Nat} {D : List (Int × Int)} (hi : i ≤ D.length) (h : OwnD w base v (D.take i)) : w.ownsRow base 28 2 v i (dcells (D.take i)) := by
  unfold OwnD at h; rwa [List.length_take, Nat.min_eq_left hi] at h

theorem no_news {w : World} {ad : Addr} : ∀ (j : Nat) (u : Value), ([] : List Value)[j]? = some u → w.cell? (ad.add j) = some u := by intro j u hj; cases hj
theorem no_one : ∀ u ∈ ([] : List Value), u.oneCell' = true := by intro u hu; cases hu
end Go.Proofs.Ytcenndlbhgfdfaa
namespace Go.Proofs.Ytcenndlbhgfdfaa
open Go.RowKit
set_option linter.unusedVariables false
set_option maxRecDepth 100000

def redStep (D : List (Int × Int)) (r x c : Int) : Int := if dif x (one c) != x && hasc (cloF D (dif x (one c))) r then dif x (one c) else x
def fiveI : List Int := [0, 1, 2, 3, 4]
def redF (D : List (Int × Int)) (l r : Int) : Int := fiveI.foldl (redStep D r) l
def reduceF (n : Int) (D : List (Int × Int)) (l r : Int) : Int := if impliesDepF n D l r then redF D l r else l

theorem redStep_st {D : List (Int × Int)} {r x c : Int} (hx : St x) (hc : Co c) : St (redStep D r x c) := by
  unfold redStep; split
  · exact dif_st hx (one_st hc)
  · exact hx
theorem dif_one_same {x c : Int} (hx : St x) (hc : Co c) : (dif x (one c) != x) = hasc x c := by
  obtain ⟨n, hn, rfl⟩ := st_nat hx; obtain ⟨k, hk, rfl⟩ := co_nat hc
  have h : ∀ n < 32, ∀ k < 5, (dif (n : Nat) (one (k : Nat)) != (n : Nat)) = hasc (n : Nat) (k : Nat) := by decide +kernel
  exact h n hn k hk
theorem redStep_no {D : List (Int × Int)} {r x c : Int} (hx : St x) (hc : Co c) (h : hasc x c = false) : redStep D r x c = x := by
  unfold redStep; rw [dif_one_same hx hc, h]; simp
theorem redStep_other {D : List (Int × Int)} {r x c e : Int} (hx : St x) (hc : Co c) (he : Co e) (hne : c ≠ e) : hasc (redStep D r x c) e = hasc x e := by
  unfold redStep; split
  · rw [hasc_dif hx (one_st hc) he, hasc_one hc he]
    simp [hne]
  · rfl
theorem impliesDepF_val {n : Int} {D : List (Int × Int)} {l r : Int} (h : impliesDepF n D l r = true) : Val D ∧ St l ∧ Co r := by
  simp only [impliesDepF, Bool.and_eq_true] at h
  have := (isDepF_val h.2.1).1
  exact ⟨(areDepsF_val h.1).1, this.1, this.2⟩

theorem five_drop (k : Nat) (hk : k < 5) (f : Int → Int → Int) (x : Int) : (fiveI.drop k).foldl f x = (fiveI.drop (k + 1)).foldl f (f x k) := by
  match k, hk with
  | 0, _ => rfl
  | 1, _ => rfl
  | 2, _ => rfl
  | 3, _ => rfl
  | 4, _ => rfl

end Go.Proofs.Ytcenndlbhgfdfaa
namespace Go.Proofs.Ytcenndlbhgfdfaa
open Go.RowKit
set_option linter.unusedVariables false
set_option maxRecDepth 100000

theorem members_mem {x c : Int} (hx : St x) : c ∈ membersF x ↔ Co c ∧ hasc x c = true := by
  have e : stB x = true := by simpa [stB] using hx
  unfold membersF membersUpTo
  rw [e, if_pos rfl, List.mem_filter, List.mem_map]
  constructor
  · rintro ⟨⟨k, hk, rfl⟩, h⟩
    exact ⟨⟨by omega, by have := List.mem_range.1 hk; omega⟩, h⟩
  · rintro ⟨hc, h⟩
    obtain ⟨k, hk, rfl⟩ := co_nat hc
    exact ⟨⟨k, List.mem_range.2 hk, rfl⟩, h⟩
theorem members_nodup (x : Int) : (membersF x).Nodup := by
  unfold membersF membersUpTo
  split
  · apply List.Pairwise.filter
    rw [show ((List.range 5).map fun (c : Nat) => (c : Int)) = fiveI from rfl]
    decide
  · exact List.Pairwise.nil
theorem fold_filter {D : List (Int × Int)} {r l : Int} : ∀ (cs : List Int) (x : Int), St x → (∀ c ∈ cs, Co c) → cs.Nodup → (∀ c ∈ cs, hasc x c = hasc l c) →
    cs.foldl (redStep D r) x = (cs.filter (hasc l)).foldl (redStep D r) x
  | [], _, _, _, _, _ => rfl
  | c :: cs, x, hx, hco, hnd, h => by
    have hc := hco c (List.mem_cons_self ..)
    have hco' : ∀ d ∈ cs, Co d := fun d hd => hco d (List.mem_cons_of_mem _ hd)
    obtain ⟨hn1, hn2⟩ := List.nodup_cons.1 hnd
    have hst := redStep_st (D := D) (r := r) hx hc
    have hs : ∀ d ∈ cs, hasc (redStep D r x c) d = hasc l d := fun d hd => by
      rw [redStep_other hx hc (hco' d hd) (fun e => hn1 (e ▸ hd))]
      exact h d (List.mem_cons_of_mem _ hd)
    have ih := fold_filter (D := D) (r := r) (l := l) cs _ hst hco' hn2 hs
    rw [List.foldl_cons, List.filter_cons]
    cases hl : hasc l c
    · have e : redStep D r x c = x := redStep_no hx hc (by rw [h c (List.mem_cons_self ..), hl])
      rw [e] at ih ⊢
      exact ih
    · simp only [if_true, List.foldl_cons]
      exact ih
theorem redF_members {D : List (Int × Int)} {l r : Int} (hl : St l) : redF D l r = (membersF l).foldl (redStep D r) l := by
  have e : stB l = true := by simpa [stB] using hl
  have hm : membersF l = fiveI.filter (hasc l) := by unfold membersF membersUpTo; rw [e, if_pos rfl]; rfl
  rw [hm]
  exact fold_filter fiveI l hl (by decide) (by decide) (fun _ _ => rfl)
theorem nth_drop {L : List Int} {k : Nat} (hk : k < L.length) : L.drop k = nth L k :: L.drop (k + 1) := by
  rw [List.drop_eq_getElem_cons hk]
  congr 1
  have := nth_eq hk
  rw [List.getElem?_eq_getElem hk] at this
  exact Option.some.inj this

end Go.Proofs.Ytcenndlbhgfdfaa
namespace Go.Proofs.Ytcenndlbhgfdfaa
open Go.RowKit
set_option linter.unusedVariables false
set_option maxRecDepth 100000

def coverBad (n : Int) (D : List (Int × Int)) (i : Nat) : Bool := impliesDepF n (eraD D i) (nl D i) (nr D i) || !(reduceF n D (nl D i) (nr D i) == nl D i)
def isCoverF (n : Int) (D : List (Int × Int)) : Bool := areDepsF n D && (List.range D.length).all fun i => !coverBad n D i
theorem OwnD.cap {w : World} {base : Nat} {v : Value} {L : List (Int × Int)} (h : OwnD w base v L) : ∃ oa cap, v = .slice oa L.length cap ∧ L.length ≤ cap ∧ (oa = none → cap = 0) := by
  rcases h.2 with ⟨hv, h0⟩ | ⟨g, cap, cur, hv, hb, hg, hl, _⟩
  · exact ⟨none, 0, by rw [hv, h0], by omega, fun _ => rfl⟩
  · exact ⟨_, cap, hv, hl, fun h => by cases h⟩
theorem range_all_succ (p : Nat → Bool) (k : Nat) : (List.range (k + 1)).all p = ((List.range k).all p && p k) := by
  rw [List.range_succ, List.all_append]; simp
theorem range_all_false (p : Nat → Bool) (k n : Nat) (hk : k < n) (h : p k = false) : (List.range n).all p = false := by
  rw [List.all_eq_false]; exact ⟨k, List.mem_range.2 hk, by simp [h]⟩
theorem eraD_len {D : List (Int × Int)} {i : Nat} (h : i < D.length) : (eraD D i).length = D.length - 1 := by
  unfold eraD; rw [List.length_append, List.length_take, List.length_drop]; omega

theorem mem_eraD {D : List (Int × Int)} {i : Nat} {d : Int × Int} (h : d ∈ eraD D i) : d ∈ D := by
  unfold eraD at h
  rcases List.mem_append.1 h with h | h
  · exact List.mem_of_mem_take h
  · exact List.mem_of_mem_drop h
theorem nth_mem {D : List (Int × Int)} {k : Nat} (h : k < D.length) : (nl D k, nr D k) ∈ D := List.mem_iff_getElem?.2 ⟨k, dnth_eq h⟩
theorem areDepsF_mem {n : Int} {D : List (Int × Int)} (h : areDepsF n D = true) {d : Int × Int} (hd : d ∈ D) : isDepF n d.1 d.2 = true := by
  simp only [areDepsF, Bool.and_eq_true, decide_eq_true_eq, List.all_eq_true] at h
  exact h.1 d hd
theorem areDepsF_sub {n : Int} {D E : List (Int × Int)} (h : areDepsF n D = true) (hs : ∀ d ∈ E, d ∈ D) (hl : E.length ≤ D.length) : areDepsF n E = true := by
  simp only [areDepsF, Bool.and_eq_true, decide_eq_true_eq, List.all_eq_true] at h ⊢
  exact ⟨fun d hd => h.1 d (hs d hd), h.2.1, by omega⟩
theorem areDepsF_era {n : Int} {D : List (Int × Int)} (h : areDepsF n D = true) {i : Nat} (hi : i < D.length) : areDepsF n (eraD D i) = true :=
  areDepsF_sub h (fun _ hd => mem_eraD hd) (by rw [eraD_len hi]; omega)

end Go.Proofs.Ytcenndlbhgfdfaa
namespace Go.Proofs.Ytcenndlbhgfdfaa
open Go.RowKit
set_option linter.unusedVariables false
set_option maxRecDepth 100000

def addF (n : Int) (D A : List (Int × Int)) (d : Int × Int) : List (Int × Int) := if A.contains (reduceF n D d.1 d.2, d.2) then A else A ++ [(reduceF n D d.1 d.2, d.2)]
def dstF (n : Int) (D : List (Int × Int)) (k : Nat) : List (Int × Int) := (D.take k).foldl (addF n D) []
def pruneF (n : Int) : Nat → List (Int × Int) → Nat → List (Int × Int)
  | 0, A, _ => A
  | f + 1, A, i => if i < A.length then (if impliesDepF n (eraD A i) (nl A i) (nr A i) then pruneF n f (eraD A i) i else pruneF n f A (i + 1)) else A
def coverOfF (n : Int) (D : List (Int × Int)) : List (Int × Int) := if areDepsF n D then pruneF n (dstF n D D.length).length (dstF n D D.length) 0 else []
theorem dstF_succ {n : Int} {D : List (Int × Int)} {k : Nat} (hk : k < D.length) : dstF n D (k + 1) = addF n D (dstF n D k) (nl D k, nr D k) := by
  unfold dstF; rw [List.take_add_one, dnth_eq hk, List.foldl_append]; rfl
theorem dstF_len (n : Int) (D : List (Int × Int)) : ∀ k, k ≤ D.length → (dstF n D k).length ≤ k
  | 0, _ => by simp [dstF]
  | k + 1, hk => by
    rw [dstF_succ (by omega)]
    have := dstF_len n D k (by omega)
    unfold addF; split
    · omega
    · simp; omega
theorem dif_leC {x c : Int} (hx : St x) (hc : Co c) : dif x (one c) ≤ x := by
  obtain ⟨n, hn, rfl⟩ := st_nat hx; obtain ⟨k, hk, rfl⟩ := co_nat hc
  have h : ∀ n < 32, ∀ k < 5, dif (n : Nat) (one (k : Nat)) ≤ (n : Nat) := by decide +kernel
  exact h n hn k hk
theorem foldl_le {D : List (Int × Int)} {r : Int} : ∀ (C : List Int) (x : Int), (∀ c ∈ C, Co c) → St x → C.foldl (redStep D r) x ≤ x ∧ St (C.foldl (redStep D r) x)
  | [], x, _, hx => ⟨Int.le_refl x, hx⟩
  | c :: C, x, hC, hx => by
    have hc := hC c (List.mem_cons_self ..)
    have h1 : redStep D r x c ≤ x := by
      unfold redStep; split
      · exact dif_leC hx hc
      · exact Int.le_refl x
    have h2 := foldl_le (D := D) (r := r) C (redStep D r x c) (fun d hd => hC d (List.mem_cons_of_mem _ hd)) (redStep_st hx hc)
    exact ⟨Int.le_trans h2.1 h1, h2.2⟩
theorem five_co : ∀ c ∈ fiveI, Co c := by decide
theorem reduceF_dep {n l r : Int} {D : List (Int × Int)} (h : isDepF n l r = true) : isDepF n (reduceF n D l r) r = true := by
  unfold reduceF
  split
  · have hst := (isDepF_val h).1.1
    have := foldl_le (D := D) (r := r) fiveI l five_co hst
    simp only [isDepF, isAttr, Bool.and_eq_true, decide_eq_true_eq] at h ⊢
    unfold redF
    exact ⟨⟨⟨h.1.1.1, ⟨h.1.1.2.1.1, this.2.1⟩, Int.lt_of_le_of_lt this.1 h.1.1.2.2⟩, h.1.2⟩, h.2⟩
  · exact h
theorem dstF_dep {n : Int} {D : List (Int × Int)} (ha : areDepsF n D = true) : ∀ k, k ≤ D.length → ∀ d ∈ dstF n D k, isDepF n d.1 d.2 = true
  | 0, _, d, hd => by simp [dstF] at hd
  | k + 1, hk, d, hd => by
    rw [dstF_succ (by omega)] at hd
    unfold addF at hd
    split at hd
    · exact dstF_dep ha k (by omega) d hd
    · rcases List.mem_append.1 hd with hd | hd
      · exact dstF_dep ha k (by omega) d hd
      · simp at hd; subst hd
        exact reduceF_dep (areDepsF_mem ha (nth_mem (k := k) (by omega)))
theorem pruneF_end {n : Int} {A : List (Int × Int)} {i : Nat} (h : A.length ≤ i) (f : Nat) : pruneF n f A i = A := by
  cases f with
  | zero => rfl
  | succ f => unfold pruneF; rw [if_neg (by omega)]
theorem pruneF_del {n : Int} {A : List (Int × Int)} {i : Nat} (h : i < A.length) (hi : impliesDepF n (eraD A i) (nl A i) (nr A i) = true) : pruneF n (A.length - i) A i = pruneF n ((eraD A i).length - i) (eraD A i) i := by
  have e : A.length - i = ((eraD A i).length - i) + 1 := by rw [eraD_len h]; omega
  rw [e]; conv => lhs; unfold pruneF
  rw [if_pos h, hi]; rfl
theorem pruneF_keep {n : Int} {A : List (Int × Int)} {i : Nat} (h : i < A.length) (hi : impliesDepF n (eraD A i) (nl A i) (nr A i) = false) : pruneF n (A.length - i) A i = pruneF n (A.length - (i + 1)) A (i + 1) := by
  have e : A.length - i = (A.length - (i + 1)) + 1 := by omega
  rw [e]; conv => lhs; unfold pruneF
  rw [if_pos h, hi]; rfl
theorem contains_succ {A : List (Int × Int)} {k : Nat} (h : k < A.length) (d : Int × Int) : (A.take (k + 1)).contains d = ((A.take k).contains d || (nl A k == d.1 && nr A k == d.2)) := by
  rw [List.take_add_one, dnth_eq h, Bool.eq_iff_iff]
  simp only [Option.toList, List.contains_iff_mem, List.mem_append, List.mem_singleton, Bool.or_eq_true, Bool.and_eq_true, beq_iff_eq, Prod.ext_iff]
  constructor
  · rintro (h | ⟨h1, h2⟩)
    · exact .inl h
    · exact .inr ⟨h1.symm, h2.symm⟩
  · rintro (h | ⟨h1, h2⟩)
    · exact .inl h
    · exact .inr ⟨h1.symm, h2.symm⟩
theorem contains_at {A : List (Int × Int)} {k : Nat} (h : k < A.length) {l r : Int} (h1 : nl A k = l) (h2 : nr A k = r) : A.contains (l, r) = true := by
  subst h1; subst h2
  simp only [List.contains_iff_mem]; exact nth_mem h
def slen : Value → Nat
  | .slice _ n _ => n
  | _ => 0

end Go.Proofs.Ytcenndlbhgfdfaa
namespace Go.Proofs.Ytcenndlbhgfdfaa
open Go.RowKit
set_option linter.unusedVariables false
set_option maxRecDepth 100000

theorem OwnD.snoc {w : World} {base : Nat} {v : Value} {A : List (Int × Int)} {l r : Int} (h : w.ownsRow base 28 2 v (A.length + 1) (dcells A ++ [.int .i64 l, .int .i64 r])) : OwnD w base v (A ++ [(l, r)]) := OwnD.joined (B := [(l, r)]) h

end Go.Proofs.Ytcenndlbhgfdfaa
namespace Go.Proofs.Ytcenndlbhgfdfaa
open Go.RowKit
set_option linter.unusedVariables false
set_option maxRecDepth 100000

theorem grown_more {w a b : World} {g : Nat} {row : Option Nat} (hG : w.grownBy a (some g)) (hg : a.grownBy b row) (hr : ∀ k, row = some k → w.heap.size ≤ k) : w.grownBy b (some g) :=
  ⟨hg.os.trans hG.os, hg.tape.trans hG.tape, hg.output.trans hG.output, Nat.le_trans hG.size hg.size, fun i hi hne => (hg.block i (Nat.lt_of_lt_of_le hi hG.size) (fun e => by have := hr i e.symm; omega)).trans (hG.block i hi hne)⟩
theorem owns_cur {w w' : World} {B size n g : Nat} {e : TypeId} {v : Value} {xs : List Value} (h : w.ownsRow B e size v n xs) (hg : w.grownBy w' (some g)) (hB : g < B) : w'.ownsRow B e size v n xs :=
  World.ownsRow.kept h hg (.inr fun e => by have := (World.ownsRow.lt h g e).1; omega)
theorem OwnD.cur {w w' : World} {B g : Nat} {v : Value} {D : List (Int × Int)} (h : OwnD w B v D) (hg : w.grownBy w' (some g)) (hB : g < B) : OwnD w' B v D := owns_cur h hg hB
/-- What the cursor has turned lies behind the base. -/
theorem below_cur {w a b : World} {g : Nat} (hb : Below w.heap.size w a) (hg : a.grownBy b (some g)) (hB : w.heap.size ≤ g) : Below w.heap.size w b := hb.grown hg hb.size (fun k e => by injection e with e; omega)
end Go.Proofs.Ytcenndlbhgfdfaa
namespace Go.Proofs.Ytcenndlbhgfdfaa
open Go.RowKit
set_option linter.unusedVariables false
set_option maxRecDepth 100000

end Go.Proofs.Ytcenndlbhgfdfaa
namespace Go.Proofs.Ytcenndlbhgfdfaa
open Go.RowKit
set_option linter.unusedVariables false
set_option maxRecDepth 100000

theorem room_of {n : Nat} (h : (n : Int) ≤ 1048576) : n ≤ Room := by unfold Room; omega
def depEqB (a b c d : Int) : Bool := decide (a = c ∧ b = d)
theorem dlist_ext {L M : List (Int × Int)} (hl : L.length = M.length) (h : ∀ k, k < L.length → nl L k = nl M k ∧ nr L k = nr M k) : L = M := by
  apply List.ext_getElem?
  intro k
  by_cases hk : k < L.length
  · rw [dnth_eq hk, dnth_eq (by omega), (h k hk).1, (h k hk).2]
  · rw [List.getElem?_eq_none (by omega), List.getElem?_eq_none (by omega)]

/-- A slice of dependencies that came in. -/
def InDeps (w : World) (v : Value) : Prop := ∃ a len cap, v = .slice a len cap ∧ len ≤ maxLen ∧ (len ≤ Room → ∃ D : List (Int × Int), D.length = len ∧ DepsAt w a D)

end Go.Proofs.Ytcenndlbhgfdfaa
namespace Go.Proofs.Ytcenndlbhgfdfaa
open Go.RowKit
set_option linter.unusedVariables false
set_option maxRecDepth 100000

theorem rows_ext' {A B : List (List Int)} (hl : A.length = B.length) (h : ∀ k, k < A.length → row A k = row B k) : A = B := by
  apply List.ext_getElem hl
  intro j h1 h2
  have := h j h1
  simp [row, List.getD, h1, h2] at this
  exact this

def eqTabF (n k : Int) (A B : List (List Int)) : Bool := (n == k) && decide (A = B)
end Go.Proofs.Ytcenndlbhgfdfaa
namespace Go.Proofs.Ytcenndlbhgfdfaa
open Go.RowKit
set_option linter.unusedVariables false
set_option maxRecDepth 100000

structure Sr where
  n : Int
  R : List (List Int)
  m : Int
  a : Int
  F : List (Int × Int)
  t : Int
def eqSrF (A B : Sr) : Bool := (((eqTabF A.n B.n A.R B.R && (A.m == B.m)) && (A.a == B.a)) && decide (A.F = B.F)) && (A.t == B.t)
end Go.Proofs.Ytcenndlbhgfdfaa
namespace Go.Proofs.Ytcenndlbhgfdfaa
open Go.ChangeShapes Go.WideShapes Go.ChangeAt Go.RowKit
set_option linter.unusedVariables false
set_option maxRecDepth 100000

theorem open_ints {H : Type} {enc : TypeId × Value → H} {W : World} {base : Nat} {held : Bool} {v : Value} {d : DataW H} {ps : List MemPlace} (hok : Value.okWide Try.prog W .any base 37 v)
    (h : DataW.Trod enc Try.prog W 0 (fun _ => true) held 37 v d ps) : InInts W v := by
  obtain ⟨a0, len0, cap0, rfl⟩ := okWide_slice Try.underlying37 hok
  obtain ⟨fuel, hf⟩ := h
  rcases Go.ChangeShapes.open_ints Try.underlying37 Try.underlying3 (by kernel_rfl) hf with ⟨hcs, _⟩ | ⟨x, l, c, zs, hcs, _, hl, hm, hz, _, hcell, hwz⟩
  · simp [Value.cells] at hcs
    obtain ⟨rfl, rfl, rfl⟩ := hcs
    exact ⟨_, _, _, [], rfl, .inl ⟨rfl, rfl, rfl, rfl⟩⟩
  · simp [Value.cells] at hcs
    obtain ⟨rfl, rfl, rfl⟩ := hcs
    exact ⟨_, _, _, zs, rfl, .inr ⟨_, rfl, hl, hm, by simpa using hz, hcell, hwz⟩⟩
end Go.Proofs.Ytcenndlbhgfdfaa
namespace Go.Proofs.Ytcenndlbhgfdfaa
open Go.ChangeShapes Go.WideShapes Go.ChangeAt Go.RowKit Go.Joins
set_option linter.unusedVariables false
set_option maxRecDepth 100000

theorem add_at (b off j : Nat) : (⟨b, off, none⟩ : Addr).add j = ⟨b, off + j, none⟩ := by unfold Addr.add; split <;> simp_all

end Go.Proofs.Ytcenndlbhgfdfaa
namespace Go.Proofs.Ytcenndlbhgfdfaa
open Go.ChangeShapes Go.WideShapes Go.ChangeAt Go.RowKit Go.Joins
set_option linter.unusedVariables false
set_option maxRecDepth 100000

def InTab (w : World) (v : Value) : Prop := ∃ (n : Int) (oa : Option Addr) (l c : Nat) (Ln : Nat → Nat), v = .agg #[.int .i64 n, .slice oa l c] ∧ RowsIn w oa l Ln
theorem RowsIn.keep {w w' : World} {oa : Option Addr} {l : Nat} {Ln : Nat → Nat} (h : RowsIn w oa l Ln) (hk : Below w.heap.size w w') : RowsIn w' oa l Ln :=
  ⟨h.len, fun h0 => by
    obtain ⟨b, off, e, hlt, hr⟩ := h.rows h0
    exact ⟨b, off, e, Nat.lt_of_lt_of_le hlt hk.size, fun r hrl => by
      obtain ⟨m, o, c, h1, h2⟩ := hr r hrl
      exact ⟨m, o, c, cell_keep h1 hk, fun hq => by
        obtain ⟨L, e1, e2⟩ := h2 hq
        exact ⟨L, e1, e2.keep hk⟩⟩⟩⟩
end Go.Proofs.Ytcenndlbhgfdfaa
namespace Go.Proofs.Ytcenndlbhgfdfaa
open Go.ChangeShapes Go.WideShapes Go.ChangeAt Go.RowKit Go.Joins
set_option linter.unusedVariables false
set_option maxRecDepth 100000

theorem rows_of_trod {H : Type} {enc : TypeId × Value → H} {W : World} {held : Bool} {fuel : Nat} {v : Value} {x : DataW H × List MemPlace} (hy1 : DataW.trod enc Try.prog W 0 (fun _ => true) held fuel 24 [v] = some x) : ∃ (oa : Option Addr) (l c : Nat) (Ln : Nat → Nat), v = .slice oa l c ∧ RowsIn W oa l Ln := by
  rcases Go.Deep.open_int_rows Try.underlying24 Try.underlying37 Try.underlying3 (by kernel_rfl) (by kernel_rfl) hy1 with ⟨hcs, _⟩ | ⟨a, len, cap, A, L, C, Z, hcs, _, hl, hm, _, hr⟩
  · simp at hcs
    subst hcs
    exact ⟨_, _, _, fun _ => 0, rfl, Nat.zero_le _, fun h => absurd h (by simp)⟩
  · simp at hcs
    subst hcs
    refine ⟨_, _, _, L, rfl, Nat.le_trans hl hm, fun h0 => ?_⟩
    obtain ⟨b, off, spot⟩ := a
    have hc := (hr 0 (by omega)).1
    have hspot : spot = none := by simpa [Addr.add] using World.cell?_spot hc
    subst hspot
    refine ⟨b, off, rfl, World.block_lt_of_cell? W ⟨b, off, none⟩ (by simpa [Addr.add] using hc), fun r hrl => ?_⟩
    obtain ⟨h1, h2, h3, h4, h5, h6, h7⟩ := hr r (by omega)
    rw [add_at] at h1
    refine ⟨Nat.le_trans h2 h3, A r, C r, h1, fun hroom => ?_⟩
    refine IsRow.ints (cap := C r) (zs := Z r) ?_ hroom
    cases hA : A r with
    | none =>
      have hz : C r = 0 := h6 hA
      refine .inl ⟨rfl, by omega, hz, List.eq_nil_of_length_eq_zero (by omega)⟩
    | some a' =>
      obtain ⟨_, hcell⟩ := h7 a' hA
      exact .inr ⟨a', rfl, h2, h3, h4, fun i hi => hcell i (by omega), h5⟩
def InSr (w : World) (v : Value) : Prop := ∃ (n m a t : Int) (oa : Option Addr) (l c : Nat) (Ln : Nat → Nat) (vD : Value), v = .agg #[.int .i64 n, .slice oa l c, .int .i64 m, .int .i64 a, vD, .int .i64 t] ∧ RowsIn w oa l Ln ∧ InDeps w vD
  ∧ (Lit.int .i64 m).wf = true ∧ (Lit.int .i64 a).wf = true ∧ (Lit.int .i64 t).wf = true
end Go.Proofs.Ytcenndlbhgfdfaa
namespace Go.Proofs.Ytcenndlbhgfdfaa
open Go.RowKit
set_option linter.unusedVariables false
set_option maxRecDepth 100000

def set8 (w : World) (g k : Nat) (a4 a5 b0 b1 b2 b3 b4 b5 : Value) : World := (((((((w.setCell ⟨g, 4, none⟩ a4).setCell ⟨g, 5, none⟩ a5).setCell ⟨k, 0, none⟩ b0).setCell ⟨k, 1, none⟩ b1).setCell ⟨k, 2, none⟩ b2).setCell ⟨k, 3, none⟩ b3).setCell ⟨k, 4, none⟩ b4).setCell ⟨k, 5, none⟩ b5
theorem far8 {w : World} {B : Nat} {v : Value} {xs : List Value} {R : List (List Int)} (h : OwnRows w B v xs R) {g k : Nat} (hg : g < B) (hk : k < B) (a4 a5 b0 b1 b2 b3 b4 b5 : Value) : OwnRows (set8 w g k a4 a5 b0 b1 b2 b3 b4 b5) B v xs R :=
  (((((((h.far_set 4 a4 hg).far_set 5 a5 hg).far_set 0 b0 hk).far_set 1 b1 hk).far_set 2 b2 hk).far_set 3 b3 hk).far_set 4 b4 hk).far_set 5 b5 hk
theorem OwnD.far_set {w : World} {B g : Nat} {v : Value} {D : List (Int × Int)} (h : OwnD w B v D) (j : Nat) (u : Value) (hg : g < B) : OwnD (w.setCell ⟨g, j, none⟩ u) B v D := ownsRow_setCell_below h (a := ⟨g, j, none⟩) hg u
theorem dar8 {w : World} {B : Nat} {v : Value} {D : List (Int × Int)} (h : OwnD w B v D) {g k : Nat} (hg : g < B) (hk : k < B) (a4 a5 b0 b1 b2 b3 b4 b5 : Value) : OwnD (set8 w g k a4 a5 b0 b1 b2 b3 b4 b5) B v D :=
  (((((((OwnD.far_set h 4 a4 hg).far_set 5 a5 hg).far_set 0 b0 hk).far_set 1 b1 hk).far_set 2 b2 hk).far_set 3 b3 hk).far_set 4 b4 hk).far_set 5 b5 hk
theorem bar8 {w0 w : World} {B : Nat} (h : Below B w0 w) {g k : Nat} (hg : B ≤ g) (hk : B ≤ k) (a4 a5 b0 b1 b2 b3 b4 b5 : Value) : Below B w0 (set8 w g k a4 a5 b0 b1 b2 b3 b4 b5) :=
  Below.setCell (p := ⟨k, 5, none⟩) (Below.setCell (p := ⟨k, 4, none⟩) (Below.setCell (p := ⟨k, 3, none⟩) (Below.setCell (p := ⟨k, 2, none⟩) (Below.setCell (p := ⟨k, 1, none⟩) (Below.setCell (p := ⟨k, 0, none⟩) (Below.setCell (p := ⟨g, 5, none⟩) (Below.setCell (p := ⟨g, 4, none⟩) h hg a4) hg a5) hk b0) hk b1) hk b2) hk b3) hk b4) hk b5
def srZ : Array Value := #[.int .i64 0, .slice none 0 0, .int .i64 0, .int .i64 0, .slice none 0 0, .int .i64 0]
end Go.Proofs.Ytcenndlbhgfdfaa
namespace Go.Proofs.Ytcenndlbhgfdfaa
open Go.RowKit
set_option linter.unusedVariables false
set_option maxRecDepth 100000

def candF (N k : Nat) : Int × Int := (nth (partsF N) (k / N), ((k % N : Nat) : Int))
def covS (F : List (Int × Int)) (x r : Int) : Bool := F.any fun o => (o.2 == r) && ins o.1 x
def stepF (R : List (List Int)) (m : Int) (N k : Nat) (z : List (Int × Int) × Int) : List (Int × Int) × Int :=
  if hasc (candF N k).1 (candF N k).2 || covS z.1 (candF N k).1 (candF N k).2 then z else (if holdsF R m (candF N k).1 (candF N k).2 then z.1 ++ [((candF N k).1, (candF N k).2)] else z.1, z.2 + 1)
def repF (R : List (List Int)) (m : Int) (N : Nat) : Nat → List (Int × Int) × Int
  | 0 => ([], 0)
  | k + 1 => stepF R m N k (repF R m N k)
theorem parts_full {N : Nat} (hN : N ≤ 5) : (partsF N).length = 2 ^ N := by
  unfold partsF
  rw [if_pos ⟨by omega, by omega⟩, Int.toNat_natCast]
  unfold valS sortS finsB
  simp
theorem cand_ok {N k : Nat} (hN : N ≤ 5) (h1 : 1 ≤ N) (hk : k < N * 2 ^ N) : k / N < (partsF N).length ∧ St (candF N k).1 ∧ Co (candF N k).2 ∧ (candF N k).1 < 2 ^ N ∧ (candF N k).2 < N := by
  have h2 : k / N < (partsF N).length := by
    rw [parts_full hN]
    exact Nat.div_lt_of_lt_mul hk
  have hm := List.mem_iff_getElem?.2 ⟨k / N, nth_eq h2⟩
  have h3 := (partsF_mem (n := (N : Int)) (by omega) (by omega)).1 hm
  have h4 := (pow_wrap (n := (N : Int)) (by omega) (by omega)).2.1
  rw [Int.toNat_natCast] at h3 h4
  have h5 := Nat.mod_lt k (show 0 < N by omega)
  have e5 : St (candF N k).1 := ⟨h3.1, by show nth (partsF N) (k / N) < 32; omega⟩
  have e6 : Co (candF N k).2 := ⟨by show 0 ≤ ((k % N : Nat) : Int); omega, by show ((k % N : Nat) : Int) < 5; omega⟩
  exact ⟨h2, e5, e6, h3.2, by show ((k % N : Nat) : Int) < N; omega⟩
theorem rep_ok {R : List (List Int)} {m : Int} {N : Nat} (hN : N ≤ 5) (h1 : 1 ≤ N) : ∀ k, k ≤ N * 2 ^ N → (∀ o ∈ (repF R m N k).1, St o.1 ∧ Co o.2) ∧ (repF R m N k).1.length ≤ k ∧ 0 ≤ (repF R m N k).2 ∧ (repF R m N k).2 ≤ k
  | 0, _ => ⟨(fun o ho => by cases ho), Nat.le_refl _, Int.le_refl _, Int.le_refl _⟩
  | k + 1, hk => by
    obtain ⟨i1, i2, i3, i4⟩ := rep_ok (R := R) (m := m) hN h1 k (by omega)
    obtain ⟨_, c1, c2, _⟩ := cand_ok hN h1 (show k < N * 2 ^ N by omega)
    show (∀ o ∈ (stepF R m N k (repF R m N k)).1, St o.1 ∧ Co o.2) ∧ (stepF R m N k (repF R m N k)).1.length ≤ k + 1 ∧ 0 ≤ (stepF R m N k (repF R m N k)).2 ∧ (stepF R m N k (repF R m N k)).2 ≤ (k + 1 : Nat)
    unfold stepF
    split
    · exact ⟨i1, by omega, i3, by omega⟩
    · split
      · refine ⟨fun o ho => ?_, by rw [List.length_append]; simp; omega, by omega, by simp; omega⟩
        rcases List.mem_append.1 ho with h | h
        · exact i1 o h
        · rw [List.mem_singleton.1 h]; exact ⟨c1, c2⟩
      · exact ⟨i1, by show (repF R m N k).1.length ≤ k + 1; omega, by show 0 ≤ (repF R m N k).2 + 1; omega, by show (repF R m N k).2 + 1 ≤ ((k + 1 : Nat) : Int); omega⟩
theorem count_le {N : Nat} (hN : N ≤ 5) : N * 2 ^ N ≤ 160 := by
  have h : ∀ N < 6, N * 2 ^ N ≤ 160 := by decide
  exact h N (by omega)
end Go.Proofs.Ytcenndlbhgfdfaa
namespace Go.Proofs.Ytcenndlbhgfdfaa
open Go.RowKit
set_option linter.unusedVariables false
set_option maxRecDepth 100000

def set6 (w : World) (k : Nat) (b0 b1 b2 b3 b4 b5 : Value) : World := (((((w.setCell ⟨k, 0, none⟩ b0).setCell ⟨k, 1, none⟩ b1).setCell ⟨k, 2, none⟩ b2).setCell ⟨k, 3, none⟩ b3).setCell ⟨k, 4, none⟩ b4).setCell ⟨k, 5, none⟩ b5
theorem OwnD.set_ne {w : World} {B g : Nat} {v : Value} {D : List (Int × Int)} (h : OwnD w B v D) (j : Nat) (u : Value) (hg : v.ownBlock ≠ some g) : OwnD (w.setCell ⟨g, j, none⟩ u) B v D := ownsRow_setCell_other h (a := ⟨g, j, none⟩) hg u
theorem OwnD.set6 {w : World} {B k : Nat} {v : Value} {D : List (Int × Int)} (h : OwnD w B v D) (hk : v.ownBlock ≠ some k) (b0 b1 b2 b3 b4 b5 : Value) : OwnD (set6 w k b0 b1 b2 b3 b4 b5) B v D :=
  (((((h.set_ne 0 b0 hk).set_ne 1 b1 hk).set_ne 2 b2 hk).set_ne 3 b3 hk).set_ne 4 b4 hk).set_ne 5 b5 hk
theorem bel_set6 {w0 w : World} {B : Nat} (h : Below B w0 w) {k : Nat} (hk : B ≤ k) (b0 b1 b2 b3 b4 b5 : Value) : Below B w0 (set6 w k b0 b1 b2 b3 b4 b5) :=
  Below.setCell (p := ⟨k, 5, none⟩) (Below.setCell (p := ⟨k, 4, none⟩) (Below.setCell (p := ⟨k, 3, none⟩) (Below.setCell (p := ⟨k, 2, none⟩) (Below.setCell (p := ⟨k, 1, none⟩) (Below.setCell (p := ⟨k, 0, none⟩) h hk b0) hk b1) hk b2) hk b3) hk b4) hk b5
theorem OwnD.nilcap {w : World} {B n c : Nat} {oa : Option Addr} {D : List (Int × Int)} (h : OwnD w B (.slice oa n c) D) : oa = none → c = 0 := by
  intro e
  subst e
  rcases h.2 with ⟨hv, _⟩ | ⟨g, c', cur, hv, _⟩
  · cases hv; rfl
  · cases hv
theorem OwnD.not_new {w : World} {B : Nat} {v : Value} {D : List (Int × Int)} (h : OwnD w B v D) {g : Nat} (hg : w.heap.size ≤ g) : v.ownBlock ≠ some g := fun e => by
  have := (World.ownsRow.lt h g e).2
  omega
theorem Fresh.self (w : World) (v : Value) : Fresh w v v := .inl rfl
theorem covS_take {F : List (Int × Int)} {x r : Int} {j : Nat} (hj : j < F.length) : covS (F.take (j + 1)) x r = (covS (F.take j) x r || ((nr F j == r) && ins (nl F j) x)) := by
  unfold covS
  rw [List.take_add_one, dnth_eq hj, List.any_append]; simp
theorem covS_at {F : List (Int × Int)} {x r : Int} {j : Nat} (hj : j < F.length) (h : ((nr F j == r) && ins (nl F j) x) = true) : covS F x r = true := List.any_eq_true.2 ⟨(nl F j, nr F j), List.mem_iff_getElem?.2 ⟨j, dnth_eq hj⟩, h⟩
theorem ask_cand {N k : Nat} {R : List (List Int)} {m : Int} (ht : isTabF N R = true) (hm : modeF m = true) (hk : k < N * 2 ^ N) : askF N R m (candF N k).1 (candF N k).2 = true := by
  obtain ⟨h1, h5, _, _⟩ := isTab_of ht
  obtain ⟨_, c1, c2, c3, c4⟩ := cand_ok (by omega) (by omega) hk
  unfold askF isDepF isAttr
  rw [ht, hm]
  simp only [Bool.and_self, Bool.true_and, Bool.and_eq_true, decide_eq_true_eq, Int.toNat_natCast]
  exact ⟨⟨⟨h1, ⟨⟨⟨by omega, h5⟩, c1.1⟩, c3⟩⟩, c2.1⟩, c4⟩
theorem Blk.grown {a b : World} {g : Nat} {c : Array Value} {T : TypeId} {row : Option Nat} (h : Blk a g c T) (hg : a.grownBy b row) (hne : some g ≠ row) : Blk b g c T := (hg.block g h.lt hne).trans h
theorem lit_keep {w w' : World} {n : Nat} {c : Array Value} {T : TypeId} (h : Below n (w.alloc (.cells c T)) w') (hn : n = w.heap.size + 1) : w'.heap[w.heap.size]? = some (.cells c T (0, 0)) := (h.block w.heap.size (by omega)).trans (heap_alloc_new w _)
theorem lit_keep_drew {w w' : World} {n : Nat} {c : Array Value} {T : TypeId} (h : Below n (w.alloc (.cells c T)).drew w') (hn : n = w.heap.size + 1) : w'.heap[w.heap.size]? = some (.cells c T (0, 0)) := (h.block w.heap.size (by omega)).trans (heap_alloc_new w _)
theorem own_snocD' {w : World} {base : Nat} {v : Value} {A : List (Int × Int)} {l r : Int} (h : w.ownsRow base 28 2 v (A.length + 1) (dcells A ++ [.int .i64 l, .int .i64 r])) : OwnD w base v (A ++ [(l, r)]) := OwnD.joined (B := [(l, r)]) h
theorem snoc_shape {w : World} {base : Nat} {v : Value} {A : List (Int × Int)} {d : Int × Int} (h : OwnD w base v (A ++ [d])) : ∃ o c, v = .slice o (A.length + 1) c := by
  obtain ⟨o, c, e⟩ := h.shape
  exact ⟨o, c, by rw [e]; simp⟩
end Go.Proofs.Ytcenndlbhgfdfaa
namespace Go.Proofs.Ytcenndlbhgfdfaa
open Go.RowKit
set_option linter.unusedVariables false
set_option maxRecDepth 100000

/-- Rows, each of which is nil without capacity, if it is nil. -/
def RowsC (w : World) (oa : Option Addr) (R : List (List Int)) : Prop := RowsAt w oa R ∧ ∀ (b off : Nat), oa = some ⟨b, off, none⟩ → ∀ k, k < R.length → ∀ o n c, w.cell? ⟨b, off + k, none⟩ = some (.slice o n c) → o = none → c = 0
theorem RowsC.keep {w w' : World} {oa : Option Addr} {R : List (List Int)} (h : RowsC w oa R) (hb : Below w.heap.size w w') : RowsC w' oa R :=
  ⟨h.1.keep hb, fun b off e k hk o n c hc => by
    obtain ⟨b', off', e', hlt, _⟩ := h.1.at_ (by omega)
    rw [e] at e'
    simp only [Option.some.injEq, Addr.mk.injEq, and_true] at e'
    obtain ⟨rfl, rfl⟩ := e'
    exact h.2 b off e k hk o n c (by rw [← hb.cell (p := ⟨b, off + k, none⟩) hlt]; exact hc)⟩
theorem OwnI.nilcap {w : World} {B n c : Nat} {oa : Option Addr} {L : List Int} (h : OwnI w B (.slice oa n c) L) : oa = none → c = 0 := by
  intro e
  subst e
  rcases h.2 with ⟨hv, _⟩ | ⟨g, c', cur, hv, _⟩
  · cases hv; rfl
  · cases hv
theorem OwnRows.readC {w : World} {B : Nat} {oa : Option Addr} {n c : Nat} {xs : List Value} {R : List (List Int)} (h : OwnRows w B (.slice oa n c) xs R) (hR : R.length ≤ Room) (hr : ∀ j, j < R.length → (row R j).length ≤ Room) : RowsC w oa R := by
  refine ⟨h.read hR hr, fun b off e k hk o n' c' hc ho => ?_⟩
  obtain ⟨g, e', _, hlt, hcell⟩ := h.at_ (by omega)
  rw [e'] at e
  simp only [Option.some.injEq, Addr.mk.injEq, and_true] at e
  obtain ⟨rfl, rfl⟩ := e
  obtain ⟨o2, c2, q1, q2, _⟩ := h.rows k hk
  have := hcell k hk
  rw [Nat.zero_add] at hc
  rw [hc, q1] at this
  simp only [Option.some.injEq, Value.slice.injEq] at this
  obtain ⟨rfl, _, rfl⟩ := this
  exact q2.nilcap ho
theorem take_row {R : List (List Int)} {k : Nat} (h : k < R.length) : R.take (k + 1) = R.take k ++ [row R k] := by rw [List.take_add_one, row_eq h]; rfl
end Go.Proofs.Ytcenndlbhgfdfaa
namespace Go.Proofs.Ytcenndlbhgfdfaa
open Go.RowKit
set_option linter.unusedVariables false
set_option maxRecDepth 100000

theorem bel_set2 {w0 w : World} {B : Nat} (h : Below B w0 w) {k : Nat} (hk : B ≤ k) (b0 b1 : Value) : Below B w0 ((w.setCell ⟨k, 0, none⟩ b0).setCell ⟨k, 1, none⟩ b1) :=
  Below.setCell (p := ⟨k, 1, none⟩) (Below.setCell (p := ⟨k, 0, none⟩) h hk b0) hk b1
theorem apart_lit {v : Value} {g n c : Nat} (h : v.ownBlock ≠ some g) : Apart (.slice (some ⟨g, 0, none⟩) n c) v := Or.inr fun e => h e.symm
theorem Blk.world {w : World} {g : Nat} {c : Array Value} {T : TypeId} (h : Blk w g c T) : ∃ w', w' = w := ⟨w, rfl⟩
theorem drew_grown {w w' : World} {row : Option Nat} (h : w.drew.grownBy w' row) : w.grownBy w' row := ⟨h.os, h.tape, h.output, h.size, h.block⟩
theorem drew_fresh {w : World} {v v' : Value} (h : Fresh w.drew v v') : Fresh w v v' := h
def OldR (S : Nat) (v : Value) (xs : List Value) : Prop := ∀ y, y = v ∨ y ∈ xs → ∀ g, y.ownBlock = some g → g < S
theorem OwnRows.old {w : World} {B S : Nat} {v : Value} {xs : List Value} {R : List (List Int)} (h : OwnRows w B v xs R) (hS : w.heap.size ≤ S) : OldR S v xs := by
  intro y hy g hg
  rcases hy with rfl | hy
  · exact Nat.lt_of_lt_of_le (World.ownsRow.lt h.outer g hg).2 hS
  · obtain ⟨j, _, o, c, e, h2, _⟩ := h.one hy
    exact Nat.lt_of_lt_of_le (World.ownsRow.lt h2 g hg).2 hS
theorem OwnRows.lowS {w : World} {B S : Nat} {v : Value} {xs : List Value} {R : List (List Int)} (h : OwnRows w B v xs R) (hS : S ≤ B) : ∀ y ∈ xs, ∀ g, y.ownBlock = some g → S ≤ g := by
  intro y hy g hg
  obtain ⟨j, _, o, c, e, h2, _⟩ := h.one hy
  exact Nat.le_trans hS (World.ownsRow.lt h2 g hg).1
theorem OwnRows.many {w w' : World} {B S : Nat} {v : Value} {xs vs : List Value} {R : List (List Int)} (h : OwnRows w B v xs R) (hg : GrownMany w w' vs) (hl : ∀ y ∈ vs, ∀ g, y.ownBlock = some g → S ≤ g) (ho : OldR S v xs) : OwnRows w' B v xs R := by
  have hap : ∀ u, u = v ∨ u ∈ xs → ∀ y ∈ vs, Apart u y := by
    intro u hu y hy
    cases e : u.ownBlock with
    | none => exact .inl e
    | some g => exact .inr fun e' => by have := ho u hu g e; have := hl y hy g (by rw [← e', e]); omega
  refine ⟨h.len, owns_many h.outer hg (hap v (.inl rfl)), fun j hj => ?_, h.pair⟩
  obtain ⟨o, c, h1, h2, h3⟩ := h.rows j hj
  exact ⟨o, c, h1, h2.many hg (hap _ (.inr (List.mem_iff_getElem?.2 ⟨j, h1⟩))), h3⟩
theorem OwnRows.after {w w' : World} {B size n : Nat} {e : TypeId} {u v : Value} {ys xs : List Value} {R : List (List Int)} (h : OwnRows w' w.heap.size v xs R) (h' : w.ownsRow B e size u n ys) : ApartR v xs u :=
  ⟨(apart_old h' h.outer).symm, fun y hy => by obtain ⟨j, _, o, c, e, h2, _⟩ := h.one hy; exact (apart_old h' h2).symm⟩
theorem Blk.many {w w' : World} {k : Nat} {c : Array Value} {T : TypeId} {vs : List Value} (h : Blk w k c T) (hg : GrownMany w w' vs) (hn : ∀ y ∈ vs, y.ownBlock ≠ some k) : Blk w' k c T := (hg.block k h.lt hn).trans h
theorem OwnRows.readSeq {w : World} {B c : Nat} {oa : Option Addr} {xs : List Value} {R : List (List Int)} {k : Int} (h : OwnRows w B (.slice oa R.length c) xs (seqR k R)) (hR : R.length ≤ Room) (hr : ∀ j, j < R.length → (row R j).length ≤ Room) : RowsAt w oa (seqR k R) :=
  h.read (by rw [seqR_length]; exact hR) (fun j hj => by rw [seqR_length] at hj; rw [seqR_row hj, seqI_length]; exact hr j hj)
theorem OwnRows.baseLe {w : World} {B S : Nat} {v : Value} {xs : List Value} {R : List (List Int)} (_ : OwnRows w B v xs R) (h : S ≤ B) : S ≤ B := h
theorem sum_le {R : List (List Int)} {m : Nat} (h : ∀ j, j < R.length → (row R j).length ≤ m) : ∀ k, k ≤ R.length → sumL R k ≤ m * k
  | 0, _ => by simp [sumL]
  | k + 1, hk => by
    rw [sumL_succ (by omega), Nat.mul_succ]
    have := sum_le h k (by omega)
    have := h k (by omega)
    omega
/-- Neither the list nor a row of it lies in block k. -/
def Avoid (k : Nat) (v : Value) (xs : List Value) : Prop := ∀ y, y = v ∨ y ∈ xs → y.ownBlock ≠ some k
theorem set_apart {w : World} {B size n k j : Nat} {e : TypeId} {y u : Value} {ys : List Value} (h : w.ownsRow B e size y n ys) (hk : y.ownBlock ≠ some k) : (w.setCell ⟨k, j, none⟩ u).ownsRow B e size y n ys :=
  World.ownsRow.kept h (grown_set w k j _) (.inr hk)
theorem ownRows_setAvoid {w : World} {B k : Nat} {v : Value} {xs : List Value} {R : List (List Int)} (h : OwnRows w B v xs R) (ha : Avoid k v xs) (j : Nat) (u : Value) : OwnRows (w.setCell ⟨k, j, none⟩ u) B v xs R :=
  ⟨h.len, set_apart h.outer (ha v (.inl rfl)), fun t ht => by
    obtain ⟨o, c, h1, h2, h3⟩ := h.rows t ht
    exact ⟨o, c, h1, set_apart h2 (ha _ (.inr (List.mem_iff_getElem?.2 ⟨t, h1⟩))), h3⟩, h.pair⟩
/-- 't.Rows = append(t.Rows, r)' for a table that the call made. -/
theorem tab_snoc {w w5 w7 : World} {B k6 c c5 nC : Nat} {hd v' : Value} {T T2 : TypeId} {o o5 : Option Addr} {xs : List Value} {P : List (List Int)} {C : List Int} (hnC : C.length = nC)
    (hO : OwnRows w5 B (.slice o P.length c) xs P) (hC : OwnI w5 B (.slice o5 nC c5) C) (hap : ApartR (.slice o P.length c) xs (.slice o5 nC c5))
    (kb : Blk w5 k6 #[hd, .slice o P.length c] T) (av : Avoid k6 (.slice o P.length c) xs) (avC : (Value.slice o5 nC c5).ownBlock ≠ some k6) (hb : Below w.heap.size w w5) (hB : w.heap.size ≤ B) (hk6 : w.heap.size ≤ k6)
    (hown : w7.ownsRow B 37 1 v' (xs.length + 1) (xs ++ [.slice o5 nC c5])) (hgrow : (w5.alloc (.cells #[.slice o5 nC c5] T2)).grownBy w7 (Value.slice o P.length c).ownBlock) (hfr : Fresh (w5.alloc (.cells #[.slice o5 nC c5] T2)) (.slice o P.length c) v') :
    (∃ o' c', v' = .slice o' (P.length + 1) c') ∧ w7.cell? ⟨k6, 1, none⟩ = some (.slice o P.length c) ∧ w7.frozen? ⟨k6, 1, none⟩ = false ∧ Blk (w7.setCell ⟨k6, 1, none⟩ v') k6 #[hd, v'] T ∧
    OwnRows (w7.setCell ⟨k6, 1, none⟩ v') B v' (xs ++ [.slice o5 nC c5]) (P ++ [C]) ∧ Avoid k6 v' (xs ++ [.slice o5 nC c5]) ∧ Below w.heap.size w (w7.setCell ⟨k6, 1, none⟩ v') ∧
    (∀ (B' : Nat) (e : TypeId) (size : Nat) (u : Value) (n : Nat) (ys : List Value), w5.ownsRow B' e size u n ys → Apart u (.slice o P.length c) → u.ownBlock ≠ some k6 → (w7.setCell ⟨k6, 1, none⟩ v').ownsRow B' e size u n ys ∧ Apart u v') ∧
    (∀ (g : Nat) (cs : Array Value) (T' : TypeId), Blk w5 g cs T' → g ≠ k6 → (Value.slice o P.length c).ownBlock ≠ some g → Blk (w7.setCell ⟨k6, 1, none⟩ v') g cs T') := by
  subst hnC
  have hO2 := OwnRows.snoc hO hC hap hown hgrow hfr
  have hsh : ∃ o' c', v' = .slice o' (P.length + 1) c' := by
    obtain ⟨o', c', e⟩ := hO2.shape
    exact ⟨o', c', by rw [e]; simp⟩
  have hv : v'.ownBlock ≠ some k6 := by
    rcases hfr with h | h
    · rw [h]; exact av _ (.inl rfl)
    · intro e
      have h1 := h k6 e
      have h2 := kb.lt
      simp at h1; omega
  have av2 : Avoid k6 v' (xs ++ [.slice o5 C.length c5]) := by
    intro y hy
    rcases hy with rfl | hy
    · exact hv
    · rcases List.mem_append.1 hy with hy | hy
      · exact av y (.inr hy)
      · rw [List.mem_singleton] at hy; subst hy; exact avC
  have k7 : Blk w7 k6 #[hd, .slice o P.length c] T := (kb.alloc _).grown hgrow (fun e => av _ (.inl rfl) e.symm)
  have hb7 : Below w.heap.size w w7 := (hb.alloc hb.size _).grown hgrow (by have := hb.size; simp; omega) (fun g hg => Nat.le_trans hB (World.ownsRow.lt hO.outer g hg).1)
  refine ⟨hsh, k7.cell 1 _ rfl, k7.free 1, k7.set 1 v', ownRows_setAvoid hO2 av2 1 v', av2, Below.setCell (p := (⟨k6, 1, none⟩ : Addr)) hb7 hk6 v', ?_, ?_⟩
  · intro B' e size u n ys h ha hk
    have h1 := World.ownsRow.alloc h (.cells #[.slice o5 C.length c5] T2)
    exact ⟨set_apart (World.ownsRow.kept h1 hgrow ha) hk, Apart.next h1 ha hfr⟩
  · intro g cs T' h hg hne
    exact ((h.alloc _).grown hgrow (fun e => hne e.symm)).far ⟨k6, 1, none⟩ v' hg

theorem oldR_le {S S' : Nat} {v : Value} {xs : List Value} (h : OldR S v xs) (hS : S ≤ S') : OldR S' v xs := fun y hy g e => Nat.lt_of_lt_of_le (h y hy g e) hS
theorem apartR_none (v : Value) (xs : List Value) : ApartR v xs (.slice none 0 0) := ⟨Apart.symm (.inl rfl), fun y _ => Apart.symm (.inl rfl)⟩
theorem ownD_none (w : World) (base : Nat) : OwnD w base (.slice none 0 0) [] := ⟨rfl, Or.inl ⟨rfl, rfl⟩⟩
theorem Blk.keepTo {w w' : World} {g B : Nat} {c : Array Value} {T : TypeId} (h : Blk w g c T) (hg : g < B) (hb : Below B w w') : Blk w' g c T := (hb.block g hg).trans h
end Go.Proofs.Ytcenndlbhgfdfaa
namespace Go.Proofs.Ytcenndlbhgfdfaa
open Go.RowKit
set_option linter.unusedVariables false
set_option maxRecDepth 100000

theorem OwnI.cur {w w' : World} {B g : Nat} {v : Value} {L : List Int} (h : OwnI w B v L) (hg : w.grownBy w' (some g)) (hB : g < B) : OwnI w' B v L := owns_cur h hg hB
theorem OwnRows.cur {w w' : World} {B g : Nat} {v : Value} {xs : List Value} {R : List (List Int)} (h : OwnRows w B v xs R) (hg : w.grownBy w' (some g)) (hB : g < B) : OwnRows w' B v xs R :=
  ⟨h.len, owns_cur h.outer hg hB, fun j hj => by
    obtain ⟨o, c, h1, h2, h3⟩ := h.rows j hj
    exact ⟨o, c, h1, h2.cur hg hB, h3⟩, h.pair⟩
set_option maxHeartbeats 1600000 in
theorem c_l3RandomRow (g N : Nat) (hN : N ≤ 5) (wide : Int) (hw : wide ≤ 256) (w : World) (hc : Cur w g) :
    Calls Try.prog 73 #[.pointer (some ⟨g, 0, none⟩), .int .i64 N, .int .i64 wide] w fun e w' => ∃ o c L, e = .returned (.slice o (L.length : Nat) c) ∧ OwnI w' w.heap.size (.slice o L.length c) L ∧ L.length = N ∧ Cur w' g ∧ w.grownBy w' (some g) := by
  obtain ⟨i0, hi0, hz0, hz1, hz2⟩ := info_parts info_int
  have hlt := hc.lt
  have hI := OwnI.empty w w.heap.size (Nat.le_refl _)
  have hG := grown_of_below ((Below.refl w.heap.size w).alloc (Nat.le_refl _) (.cells #[] 3)) (some g)
  replace hc := cur_alloc hc (.cells #[] 3)
  go_enter Try.func73, Try.ntmps73
  go_wp2_with fail
  go_loopw [7, 8] (fun v i wr => ∃ (k : Nat) (L : List Int), i = .int .i64 k ∧ L.length = k ∧ k ≤ N ∧ OwnI wr w.heap.size v L ∧ Cur wr g ∧ w.grownBy wr (some g)) (fun _ i _ => N - (intOf i).toNat)
  case atStart => exact ⟨0, [], rfl, rfl, Nat.zero_le _, hI, hc, hG⟩
  case round =>
    clear hI hc hG
    obtain ⟨k, L, rfl, hLk, hk, hI, hc, hG⟩ := hrel
    have hi := hi0
    have HLK : Hid (L.length = k) := hLk
    have HL5 : L.length ≤ 5 := by omega
    clear hLk
    by_cases hlt0 : k < N
    · go_wp2_with fail
      refine (c_l1Below g wide hw _ hc).mono ?_
      rintro e w2 ⟨x, rfl, _, _, _, hc2, hg⟩
      replace hI := hI.cur hg hlt
      replace hG := grown_trans hG hg
      clear hc hg
      go_wp2_with fail
      refine (c_l1Once g 12 (by omega) _ hc2).mono ?_
      rintro e w3 ⟨t, rfl, hc3, hg⟩
      replace hI := hI.cur hg hlt
      replace hG := grown_trans hG hg
      clear hc2 hg
      cases t
      · go_wp2_with (first | (at_builtin; refine wpList_append_own _ rfl _ _ 37 rfl w.heap.size 3 i0 (.int .i64 0) 1 8 Try.underlying37 hi hz0 hz1 hz2 rfl (by decide) _ _ _ rfl (World.ownsRow.alloc hI _) _ 1 1 [.int .i64 (x)] rfl rfl (by intro j u hj; match j, hj with | 0, hj => simp at hj; subst hj; simp [Addr.add]) (by intro u hu; simp at hu; subst hu; rfl) (by unfold maxLen; omega) (by omega) (by have := hG.size; simp; omega) ?_; intro v' w9 hown hgrow _; have hc9 := Cur.grown (cur_alloc hc3 _) hgrow (fun k e => by have := (World.ownsRow.lt hI k e).1; omega); have hG9 := grown_more (grown_trans hG (grown_of_below ((Below.refl _ _).alloc (Nat.le_refl _) _) _)) hgrow (fun k e => (World.ownsRow.lt hI k e).1); replace hI := OwnI.snoc hown; clear hown hgrow hG hc3) | fail)
        go_roundw
        case rel => exact ⟨k + 1, L ++ [x], by go_num, by simp; exact HLK.out, by omega, hI, hc9, hG9⟩
        case measure => simp [intOf]; omega
      · go_wp2_with (first | (at_builtin; refine wpList_append_own _ rfl _ _ 37 rfl w.heap.size 3 i0 (.int .i64 0) 1 8 Try.underlying37 hi hz0 hz1 hz2 rfl (by decide) _ _ _ rfl (World.ownsRow.alloc hI _) _ 1 1 [.int .i64 (-1)] rfl rfl (by intro j u hj; match j, hj with | 0, hj => simp at hj; subst hj; simp [Addr.add]) (by intro u hu; simp at hu; subst hu; rfl) (by unfold maxLen; omega) (by omega) (by have := hG.size; simp; omega) ?_; intro v' w9 hown hgrow _; have hc9 := Cur.grown (cur_alloc hc3 _) hgrow (fun k e => by have := (World.ownsRow.lt hI k e).1; omega); have hG9 := grown_more (grown_trans hG (grown_of_below ((Below.refl _ _).alloc (Nat.le_refl _) _) _)) hgrow (fun k e => (World.ownsRow.lt hI k e).1); replace hI := OwnI.snoc hown; clear hown hgrow hG hc3) | fail)
        go_roundw
        case rel => exact ⟨k + 1, L ++ [-1], by go_num, by simp; exact HLK.out, by omega, hI, hc9, hG9⟩
        case measure => simp [intOf]; omega
    · have HK : Hid (L.length = N) := by show L.length = N; have := HLK.out; omega
      obtain ⟨o, c, rfl⟩ := hI.shape
      go_wp2
      go_ret
      exact ⟨o, c, L, rfl, hI, HK.out, hc, hG⟩
end Go.Proofs.Ytcenndlbhgfdfaa
namespace Go.Proofs.Ytcenndlbhgfdfaa
open Go.RowKit
set_option linter.unusedVariables false
set_option maxRecDepth 100000

theorem heap_new_at {w : World} {o : Obj} {k : Nat} (h : k = w.heap.size) : (w.alloc o).heap[k]? = some o := by subst h; exact heap_alloc_new _ _
/-- 't.Rows = append(t.Rows, r)', while a cursor is being read. -/
theorem tab_snocG {w w5 w7 : World} {B k6 c c5 nC g : Nat} {hd v' : Value} {T T2 : TypeId} {o o5 : Option Addr} {xs : List Value} {P : List (List Int)} {C : List Int} (hnC : C.length = nC)
    (hO : OwnRows w5 B (.slice o P.length c) xs P) (hC : OwnI w5 B (.slice o5 nC c5) C) (hap : ApartR (.slice o P.length c) xs (.slice o5 nC c5))
    (kb : Blk w5 k6 #[hd, .slice o P.length c] T) (av : Avoid k6 (.slice o P.length c) xs) (avC : (Value.slice o5 nC c5).ownBlock ≠ some k6) (hc : Cur w5 g) (hG : w.grownBy w5 (some g)) (hB : w.heap.size ≤ B) (hk6 : w.heap.size ≤ k6) (hgk : g < k6)
    (hown : w7.ownsRow B 37 1 v' (xs.length + 1) (xs ++ [.slice o5 nC c5])) (hgrow : (w5.alloc (.cells #[.slice o5 nC c5] T2)).grownBy w7 (Value.slice o P.length c).ownBlock) (hfr : Fresh (w5.alloc (.cells #[.slice o5 nC c5] T2)) (.slice o P.length c) v') (hgB : g < B := by omega) :
    (∃ o' c', v' = .slice o' (P.length + 1) c') ∧ w7.cell? ⟨k6, 1, none⟩ = some (.slice o P.length c) ∧ w7.frozen? ⟨k6, 1, none⟩ = false ∧ Blk (w7.setCell ⟨k6, 1, none⟩ v') k6 #[hd, v'] T ∧
    OwnRows (w7.setCell ⟨k6, 1, none⟩ v') B v' (xs ++ [.slice o5 nC c5]) (P ++ [C]) ∧ Avoid k6 v' (xs ++ [.slice o5 nC c5]) ∧ Cur (w7.setCell ⟨k6, 1, none⟩ v') g ∧ w.grownBy (w7.setCell ⟨k6, 1, none⟩ v') (some g) ∧
    (∀ (B' : Nat) (e : TypeId) (size : Nat) (u : Value) (n : Nat) (ys : List Value), w5.ownsRow B' e size u n ys → Apart u (.slice o P.length c) → u.ownBlock ≠ some k6 → (w7.setCell ⟨k6, 1, none⟩ v').ownsRow B' e size u n ys ∧ Apart u v') ∧
    (∀ (g' : Nat) (cs : Array Value) (T' : TypeId), Blk w5 g' cs T' → g' ≠ k6 → (Value.slice o P.length c).ownBlock ≠ some g' → Blk (w7.setCell ⟨k6, 1, none⟩ v') g' cs T') := by
  have hal : w5.heap.size ≤ (w5.alloc (.cells #[.slice o5 nC c5] T2)).heap.size := by simp
  obtain ⟨h1, h2, h3, h4, h5, h6, _, h8, h9⟩ := tab_snoc (w := { w5 with heap := #[] }) hnC hO hC hap kb av avC ⟨rfl, rfl, rfl, Nat.zero_le _, fun i hi => absurd hi (by simp)⟩ (Nat.zero_le _) (Nat.zero_le _) hown hgrow hfr
  refine ⟨h1, h2, h3, h4, h5, h6, (Cur.grown (cur_alloc hc _) hgrow (fun k e => by have := (World.ownsRow.lt hO.outer k e).1; omega)).set hgk, grown_new (grown_more (grown_trans hG (grown_of_below ((Below.refl _ _).alloc (Nat.le_refl _) _) _)) hgrow (fun k e => by have := (World.ownsRow.lt hO.outer k e).1; omega)) hk6, h8, h9⟩
set_option maxHeartbeats 3200000 in
theorem c_l3Table (g : Nat) (w : World) (hc : Cur w g) :
    Calls Try.prog 67 #[.pointer (some ⟨g, 0, none⟩)] w fun e w' => ∃ (N : Nat) (o : Option Addr) (c : Nat) (xs : List Value) (R : List (List Int)), e = .returned (.agg #[.int .i64 N, .slice o R.length c]) ∧ OwnRows w' w.heap.size (.slice o R.length c) xs R ∧ (2 ≤ N ∧ N ≤ 4 ∧ R.length ≤ 12 ∧ ∀ j, j < R.length → (row R j).length ≤ 5) ∧ Cur w' g ∧ w.grownBy w' (some g) := by
  obtain ⟨i0, hi, hz0, hz1, hz2⟩ := info_parts info_int
  obtain ⟨j0, hj, hy0, hy1, hy2⟩ := info_parts info_ints
  have hlt := hc.lt
  have kZ := Blk.new w #[.int .i64 0, .slice none 0 0] 26
  have hG := grown_of_below ((Below.refl w.heap.size w).alloc (Nat.le_refl _) (.cells #[.int .i64 0, .slice none 0 0] 26)) (some g)
  replace hc := cur_alloc hc (.cells #[.int .i64 0, .slice none 0 0] 26)
  go_enter Try.func67, Try.ntmps67
  go_wp2_with fail
  refine (c_l1Below g 3 (by omega) _ hc).mono ?_
  rintro e w1 ⟨q, rfl, hq0, hq1, _, hc1, hg⟩
  replace kZ := kZ.cur hg (show w.heap.size ≠ g by omega)
  replace hG := grown_trans hG hg
  have hq2 := hq1 (by omega)
  clear hc hg hq1
  have hz := kZ.lt
  have kT := Blk.new w1 #[.int .i64 ((2 : Int) + q), .slice none 0 0] 26
  have hba := (Below.refl w1.heap.size w1).alloc (Nat.le_refl _) (.cells #[.int .i64 ((2 : Int) + q), .slice none 0 0] 26)
  replace kZ := kZ.keep hba
  replace hc1 := hc1.keep hba
  replace hG := grown_trans hG (grown_of_below hba _)
  clear hba
  go_upto_region 2 with fail
  generalize w1.alloc (.cells #[.int .i64 ((2 : Int) + q), .slice none 0 0] 26) = w2 at *
  obtain ⟨k6, hk6⟩ : ∃ k, w1.heap.size = k := ⟨_, rfl⟩
  rw [hk6] at kT hz
  simp only [hk6]
  clear hk6
  obtain ⟨N, hN⟩ : ∃ N : Nat, (2 : Int) + q = N := ⟨(2 + q).toNat, by omega⟩
  have hN2 : 2 ≤ N ∧ N ≤ 4 := by omega
  simp only [hN] at kT ⊢
  clear hN hq0 hq2
  go_wp2_with fail
  refine (c_l1Below g 3 (by omega) _ hc1).mono ?_
  rintro e w3 ⟨q3, rfl, hq0, hq1, _, hc3, hg⟩
  replace kZ := kZ.cur hg (show w.heap.size ≠ g by omega)
  replace kT := kT.cur hg (show k6 ≠ g by omega)
  replace hG := grown_trans hG hg
  have hq2 := hq1 (by omega)
  clear hc1 hg hq1
  go_wp2_with fail
  obtain ⟨wd, hwd⟩ : ∃ z, (2 : Int) + q3 = z := ⟨_, rfl⟩
  have hw4 : wd ≤ 256 := by omega
  simp only [hwd]
  clear hwd hq0 hq2
  refine (c_l1Below g 7 (by omega) _ hc3).mono ?_
  rintro e w4 ⟨q4, rfl, hq0, hq1, _, hc4, hg⟩
  replace kZ := kZ.cur hg (show w.heap.size ≠ g by omega)
  replace kT := kT.cur hg (show k6 ≠ g by omega)
  replace hG := grown_trans hG hg
  obtain ⟨k0, rfl⟩ := Int.eq_ofNat_of_zero_le hq0
  have hk0 : k0 ≤ 6 := by have := hq1 (by omega); omega
  clear hc3 hg hq0 hq1
  have hO := OwnRows.none w4 (w.heap.size + 1)
  go_wp2_with fail
  go_loopw [5] (fun i wr => ∃ (k : Nat) (R : List (List Int)) (o : Option Addr) (c : Nat) (xs : List Value), i = .int .i64 k ∧ R.length + 2 * k ≤ 12 ∧ (∀ j, j < R.length → (row R j).length ≤ 5) ∧ Blk wr k6 #[.int .i64 N, .slice o R.length c] 26 ∧ OwnRows wr (w.heap.size + 1) (.slice o R.length c) xs R ∧ Avoid k6 (.slice o R.length c) xs ∧ Cur wr g ∧ w.grownBy wr (some g) ∧ Blk wr w.heap.size #[.int .i64 0, .slice none 0 0] 26) (fun i _ => (intOf i).toNat)
  case atStart => exact ⟨k0, [], none, 0, [], rfl, by simp; omega, fun j hj => absurd hj (by simp), kT, hO, (fun y hy e => by rcases hy with rfl | hy; (simp [Value.ownBlock] at e); cases hy), hc4, hG, kZ⟩
  case round =>
    clear kT hO hc4 hG kZ
    obtain ⟨k, R, o, c, xs, rfl, hk, hlen, kT, hO, av, hc, hG, kZ⟩ := hrel
    have HLn : Hid (∀ j, j < R.length → (row R j).length ≤ 5) := hlen
    clear hlen
    have hRl : R.length ≤ 12 := by omega
    have hxl := hO.len
    by_cases hlt0 : 0 < k
    · have n0 := kT.cell 0 (.int .i64 N) rfl
      have hkt := kT.lt
      go_wp2_with fail
      refine (c_l3RandomRow g N (by omega) wd hw4 _ hc).mono ?_
      rintro e w5 ⟨o5, c5, C, rfl, hI, hCN, hc5, hg⟩
      have apI := OwnRows.fresh hO hI
      have avI : (Value.slice o5 C.length c5).ownBlock ≠ some k6 := fun e9 => by have := (World.ownsRow.lt hI _ e9).1; omega
      have HCN : Hid (C.length = N) := hCN
      have hC5 : C.length ≤ 5 := by omega
      have hC0 : 0 < C.length := by omega
      clear hCN
      replace hI := hI.based (show w.heap.size + 1 ≤ _ by omega)
      replace kT := kT.cur hg (show k6 ≠ g by omega)
      replace kZ := kZ.cur hg (show w.heap.size ≠ g by omega)
      replace hO := hO.cur hg (show g < w.heap.size + 1 by omega)
      replace hG := grown_trans hG hg
      clear hc hg n0
      have n1 := kT.cell 1 (.slice o R.length c) rfl
      go_wp2_with (first | (at_builtin; refine wpList_append_fresh rfl _ _ 24 rfl (w.heap.size + 1) 37 j0 (.slice none 0 0) 1 24 Try.underlying24 hj hy0 hy1 hy2 rfl (by decide) _ _ _ rfl (World.ownsRow.alloc hO.outer _) _ 1 1 [.slice o5 C.length c5] rfl rfl (World.news_of_block (cs := #[.slice o5 C.length c5]) (t := 37) (fr := (0, 0)) (heap_new_at (by simp))) (by intro u hu; simp at hu; subst hu; rfl) (by unfold maxLen; omega) (by omega) (by have := kT.lt; simp at this ⊢; omega) ?_; intro v7 w7 hown hgrow hfr; obtain ⟨⟨o7, c7, rfl⟩, s7, t7, kT7, hO7, av7, hc7, hG7, hoth, hblk⟩ := tab_snocG rfl hO hI apI kT av avI hc5 hG (Nat.le_succ _) (show w.heap.size ≤ k6 by omega) (show g < k6 by omega) hown hgrow hfr; have kZ7 := hblk _ _ _ kZ (show w.heap.size ≠ k6 by omega) (fun e => by have := (World.ownsRow.lt hO.outer _ e).1; omega); have hI7 := (hoth _ _ _ _ _ _ hI apI.1.symm avI).1; clear hown hgrow hfr hblk hoth) | fail)
      have hl7 : R.length + 1 = (R ++ [C]).length := by simp
      have HL7 : Hid (∀ j, j < (R ++ [C]).length → (row (R ++ [C]) j).length ≤ 5) := fun j hj => by
        by_cases h : j < R.length
        · rw [row_append_lt h]; exact HLn.out j h
        · have : j = R.length := by simp at hj; omega
          rw [this, row_append_end]; exact hC5
      refine (c_l1Once g 3 (by omega) _ hc7).mono ?_
      rintro e w8 ⟨t, rfl, hc8, hg⟩
      replace kT7 := kT7.cur hg (show k6 ≠ g by omega)
      replace kZ7 := kZ7.cur hg (show w.heap.size ≠ g by omega)
      replace hO7 := hO7.cur hg (show g < w.heap.size + 1 by omega)
      replace hI7 := owns_cur hI7 hg (show g < w.heap.size + 1 by omega)
      replace hG7 := grown_trans hG7 hg
      clear hc7 hg n1 s7 t7 kT hO hI kZ hG hc5 av apI avI
      rw [hl7] at kT7 hO7 av7
      have hP : (R ++ [C]).length ≤ 13 := by simp; omega
      have hPk : (R ++ [C]).length + 2 * k ≤ 13 := by simp; omega
      clear hl7
      generalize R ++ [C] = P at *
      generalize xs ++ [Value.slice o5 C.length c5] = ys at *
      cases t
      · go_wp2_with fail
        go_roundw
        case rel => exact ⟨k - 1, P, o7, c7, ys, by go_num, by omega, HL7.out, kT7, hO7, av7, hc8, hG7, kZ7⟩
        case measure => simp [intOf]; omega
      · have hk8 := kT7.lt
        have hba := (Below.refl w8.heap.size w8).alloc (Nat.le_refl _) (.cells #[] 3)
        have hE := OwnI.empty w8 w8.heap.size (Nat.le_refl _)
        obtain ⟨gr, rfl, _⟩ := OwnI.news (show OwnI w8 (w.heap.size + 1) (.slice o5 C.length c5) C from hI7) hC0
        have HB : Hid (∀ j u, (C.map encI)[j]? = some u → (w8.alloc (.cells #[] 3)).cell? ((⟨gr, 0, none⟩ : Addr).add j) = some u) := by
          obtain ⟨gr', e', h'⟩ := OwnI.news (OwnI.keep (show OwnI w8 (w.heap.size + 1) (.slice (some ⟨gr, 0, none⟩) C.length c5) C from hI7) hba) hC0
          cases e'; exact h'
        have old7 := hO7.old (Nat.le_refl _)
        go_wp2_with (first | (at_builtin; refine wpList_append_own _ rfl _ _ 37 rfl w8.heap.size 3 i0 (.int .i64 0) 1 8 Try.underlying37 hi hz0 hz1 hz2 rfl (by decide) (.slice (some ⟨w8.heap.size, 0, none⟩) 0 0) 0 [] rfl hE ⟨gr, 0, none⟩ C.length _ (C.map encI) rfl (by simp) HB.out (ones C) (by unfold maxLen; simp; omega) (by simp; omega) (by simp) ?_; intro v9 w9 hown hgrow _; have hX : OwnI w9 w8.heap.size v9 C := (by unfold OwnI; simpa using hown); have hb9 := hba.grown hgrow (by simp) (fun g hg => (World.ownsRow.lt hE g hg).1); clear hown hgrow; obtain ⟨o9, c9, rfl⟩ := hX.shape; have apX := OwnRows.fresh hO7 hX; replace kT7 := kT7.keep hb9; replace kZ7 := kZ7.keep hb9; replace hO7 := hO7.keep hb9; replace hc8 := hc8.keep hb9; replace hG7 := grown_trans hG7 (grown_of_below hb9 _); have n0 := kT7.cell 0 (.int .i64 N) rfl; clear hb9 hba hE) | fail)
        refine (c_l1Below g N (by omega) _ hc8).mono ?_
        rintro e w10 ⟨qj, rfl, hj0, hj1, _, hc10, hg⟩
        obtain ⟨jn, rfl⟩ := Int.eq_ofNat_of_zero_le hj0
        have hjC : jn < C.length := by have := hj1 (by omega); have := HCN.out; omega
        replace kT7 := kT7.cur hg (show k6 ≠ g by omega)
        replace kZ7 := kZ7.cur hg (show w.heap.size ≠ g by omega)
        replace hO7 := hO7.cur hg (show g < w.heap.size + 1 by omega)
        replace hX := hX.cur hg (show g < w8.heap.size by omega)
        replace hG7 := grown_trans hG7 hg
        clear hc8 hg n0 hj0 hj1
        go_wp2_with fail
        refine (c_l1Below g wd hw4 _ hc10).mono ?_
        rintro e w11 ⟨xv, rfl, _, _, _, hc11, hg⟩
        replace kT7 := kT7.cur hg (show k6 ≠ g by omega)
        replace kZ7 := kZ7.cur hg (show w.heap.size ≠ g by omega)
        replace hO7 := hO7.cur hg (show g < w.heap.size + 1 by omega)
        replace hX := hX.cur hg (show g < w8.heap.size by omega)
        replace hG7 := grown_trans hG7 hg
        clear hc10 hg
        obtain ⟨gx, rfl, _⟩ := hX.news hC0
        have hgx := (World.ownsRow.lt hX gx rfl).1
        have avx : Avoid gx (.slice o7 P.length c7) ys := fun y hy e => by have := old7 y hy _ e; omega
        obtain ⟨x1, x2⟩ := hX.cell rfl jn hjC
        replace hX := hX.store rfl jn xv
        replace kT7 := kT7.far ⟨gx, jn, none⟩ (.int .i64 xv) (show k6 ≠ gx by omega)
        replace kZ7 := kZ7.far ⟨gx, jn, none⟩ (.int .i64 xv) (show w.heap.size ≠ gx by omega)
        replace hO7 := ownRows_setAvoid hO7 avx jn (.int .i64 xv)
        replace hc11 := hc11.set (j := jn) (v := .int .i64 xv) (show g < gx by omega)
        replace hG7 := grown_new (j := jn) (v := .int .i64 xv) hG7 (show w.heap.size ≤ gx by omega)
        have hjj : (0 : Int) ≤ jn ∧ (jn : Int) < C.length := by omega
        have n1 := kT7.cell 1 (.slice o7 P.length c7) rfl
        have hyl := hO7.len
        replace hX := hX.based (show w.heap.size + 1 ≤ w8.heap.size by omega)
        have avX : (Value.slice (some ⟨gx, 0, none⟩) C.length c9).ownBlock ≠ some k6 := fun e9 => by simp [Value.ownBlock] at e9; omega
        go_wp2_with (first | (at_builtin; refine wpList_append_fresh rfl _ _ 24 rfl (w.heap.size + 1) 37 j0 (.slice none 0 0) 1 24 Try.underlying24 hj hy0 hy1 hy2 rfl (by decide) _ _ _ rfl (World.ownsRow.alloc hO7.outer _) _ 1 1 [.slice (some ⟨gx, 0, none⟩) C.length c9] rfl rfl (World.news_of_block (cs := #[.slice (some ⟨gx, 0, none⟩) C.length c9]) (t := 37) (fr := (0, 0)) (heap_new_at (by simp))) (by intro u hu; simp at hu; subst hu; rfl) (by unfold maxLen; omega) (by omega) (by have := kT7.lt; simp at this ⊢; omega) ?_; intro v12 w12 hown hgrow hfr; obtain ⟨⟨o8, c8, rfl⟩, s8, t8, kT8, hO8, av8, hc9, hG8, hoth, hblk⟩ := tab_snocG (show (C.set jn xv).length = C.length by simp) hO7 hX apX kT7 av7 avX hc11 hG7 (Nat.le_succ _) (show w.heap.size ≤ k6 by omega) (show g < k6 by omega) hown hgrow hfr; have kZ8 := hblk _ _ _ kZ7 (show w.heap.size ≠ k6 by omega) (fun e => by have := (World.ownsRow.lt hO7.outer _ e).1; omega); clear hown hgrow hfr hblk hoth) | fail)
        have hl8 : P.length + 1 = (P ++ [C.set jn xv]).length := by simp
        have HL8 : Hid (∀ j, j < (P ++ [C.set jn xv]).length → (row (P ++ [C.set jn xv]) j).length ≤ 5) := fun j hj => by
          by_cases h : j < P.length
          · rw [row_append_lt h]; exact HL7.out j h
          · have : j = P.length := by simp at hj; omega
            rw [this, row_append_end]; simpa using hC5
        rw [hl8] at kT8 hO8 av8
        have hPk8 : (P ++ [C.set jn xv]).length + 2 * (k - 1) ≤ 12 := by simp; omega
        clear hl8
        go_roundw
        case rel => exact ⟨k - 1, P ++ [C.set jn xv], o8, c8, _, by go_num, hPk8, HL8.out, by rw [show (P ++ [C.set jn xv]).length = P.length + 1 by simp] at *; exact kT8, by rw [show (P ++ [C.set jn xv]).length = P.length + 1 by simp] at *; exact hO8, by rw [show (P ++ [C.set jn xv]).length = P.length + 1 by simp] at *; exact av8, hc9, hG8, kZ8⟩
        case measure => simp [intOf]; omega
    · have HK : Hid (k = 0) := by show k = 0; omega
      have r0 := kT.cell 0 (.int .i64 N) rfl
      have r1 := kT.cell 1 (.slice o R.length c) rfl
      have z0 := kZ.cell 0 (.int .i64 0) rfl
      have z1 := kZ.cell 1 (.slice none 0 0) rfl
      have f0 := kZ.free 0
      have f1 := kZ.free 1
      have k2 : Blk _ w.heap.size #[.int .i64 N, .slice o R.length c] 26 := (kZ.set 0 (.int .i64 N)).set 1 (.slice o R.length c)
      have q0 := k2.cell 0 (.int .i64 N) rfl
      have q1 := k2.cell 1 (.slice o R.length c) rfl
      go_wp2
      refine bodyPost_ret (v := .agg #[.int .i64 N, .slice o R.length c]) (by simp only [results, Try.results67]; simp [go_sem, q0, q1]) rfl ?_
      exact ⟨N, o, c, xs, R, rfl, ((hO.far_set 0 (.int .i64 N) (Nat.lt_succ_self _)).far_set 1 (.slice o R.length c) (Nat.lt_succ_self _)).based (Nat.le_succ _), ⟨hN2.1, hN2.2, hRl, HLn.out⟩, (hc.set (j := 0) (v := .int .i64 N) hlt).set (j := 1) (v := .slice o R.length c) hlt, grown_new (j := 1) (v := .slice o R.length c) (grown_new (j := 0) (v := .int .i64 N) hG (Nat.le_refl _)) (Nat.le_refl _)⟩
end Go.Proofs.Ytcenndlbhgfdfaa
