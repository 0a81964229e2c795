/- The classes of rows, of the reference; whether a set is unique, of both. -/
import Derived.Test.YtkanbnbofoabeaaPtnW
import Derived.Test.YtkanbnbofoabeaaHasL
namespace Go.Proofs.Ytkanbnbofoabeaa
open Go.RowKit
set_option linter.unusedVariables false
set_option maxRecDepth 100000

theorem OwnRows.past0 {w w' : World} {B : Nat} {v u u' : Value} {xs : List Value} {R : List (List Int)} (h : OwnRows w B v xs R) (hg : w.grownBy w' u.ownBlock) (ha : ApartR v xs u) (hf : Fresh w u u') : OwnRows w' B v xs R ∧ ApartR v xs u' := by
  refine ⟨OwnRows.far h hg ha, Apart.next h.outer ha.1 hf, fun y hy => ?_⟩
  obtain ⟨j, _, o', c, e, h2, _⟩ := h.one hy
  exact Apart.next h2 (ha.2 y hy) hf
theorem OwnI.news {w : World} {base : Nat} {oa : Option Addr} {n c : Nat} {L : List Int} (h : OwnI w base (.slice oa n c) L) (h0 : 0 < L.length) : ∃ g, oa = some ⟨g, 0, none⟩ ∧ ∀ j u, (L.map encI)[j]? = some u → w.cell? ((⟨g, 0, none⟩ : Addr).add j) = some u := by
  obtain ⟨oa', c', e, hg⟩ := owns_cells h
  simp only [Value.slice.injEq] at e
  obtain ⟨rfl, _, rfl⟩ := e
  obtain ⟨g, h1, _, _, _, _, _⟩ := hg h0
  subst h1
  exact ⟨g, rfl, World.ownsRow.cells h rfl⟩
set_option maxHeartbeats 3200000 in
theorem c_l5Classes (n : Int) (oa) (cap : Nat) (R : List (List Int)) (m s : Int) (w : World) (hR : RowsAt w oa R) (ht : isTabF n R = true) (hs : St s) :
    Calls Try.prog 77 #[.agg #[.int .i64 n, .slice oa R.length cap], .int .i64 m, .int .i64 s] w fun e w' => ∃ v xs, e = .returned v ∧ OwnRows w' w.heap.size v xs (ptnQ (sameB R m s) R.length R.length) ∧ Below w.heap.size w w' := by
  obtain ⟨i0, hi, hz0, hz1, hz2⟩ := info_parts info_int
  obtain ⟨j0, hj, hy0, hy1, hy2⟩ := info_parts info_ints
  obtain ⟨hn1, hn5, hr40, hlen⟩ := isTab_of ht
  have HT : Hid (isTabF n R = true) := ht
  have HP : Hid (Per (sameB R m s) R.length) := same_per ht hs
  have HSS : Hid (St s ∧ ∀ k, k < R.length → (row R k).length ≤ 5) := ⟨hs, fun k hk => by have := hlen k hk; omega⟩
  have HQ : Hid (∀ i k, sameB R m s i k = ins s (agreeF m (row R i) (row R k))) := fun i k => rfl
  have hb := (bel2 w (.cells #[.int .i64 n, .slice oa R.length cap] 28) (.cells #[] 69)).alloc (by simp; omega) (.cells #[] 3)
  have k1 := (Below.refl ((w.alloc (.cells #[.int .i64 n, .slice oa R.length cap] 28)).alloc (.cells #[] 69)).heap.size _).alloc (Nat.le_refl _) (.cells #[] 3)
  have a0 := cell_keep (two_a w #[.int .i64 n, .slice oa R.length cap] 28 #[] 69 0 _ rfl) k1
  have a1 := cell_keep (two_a w #[.int .i64 n, .slice oa R.length cap] 28 #[] 69 1 _ rfl) k1
  have hC0 : OwnRows ((w.alloc (.cells #[.int .i64 n, .slice oa R.length cap] 28)).alloc (.cells #[] 69)) (w.heap.size + 1) (.slice (some ⟨w.heap.size + 1, 0, none⟩) 0 0) [] [] := by
    have h := OwnRows.empty (w.alloc (.cells #[.int .i64 n, .slice oa R.length cap] 28)) _ (Nat.le_refl _)
    simpa only [World.size_alloc] using h
  have hC := hC0.keep k1
  have hD0 := OwnI.empty ((w.alloc (.cells #[.int .i64 n, .slice oa R.length cap] 28)).alloc (.cells #[] 69)) _ (Nat.le_refl _)
  have ap_CD := hC0.fresh hD0
  have hD := hD0.based (show w.heap.size + 1 ≤ _ by simp)
  simp only [World.size_alloc] at hD ap_CD
  clear k1 hD0 hC0 ht hs hlen
  have hnl : 0 < R.length ∨ R.length = 0 := by omega
  generalize hq : sameB R m s = q at *
  go_enter Try.func77, Try.ntmps77
  go_wp2
  go_loopw [7, 8, 9] (fun vC vD i wr => ∃ (i' : Nat) (xs : List Value), i = .int .i64 i' ∧ i' ≤ R.length ∧ OwnRows wr (w.heap.size + 1) vC xs (ptnQ q R.length i') ∧ OwnI wr (w.heap.size + 1) vD (ptnQ q R.length i').flatten ∧ ApartR vC xs vD ∧ wr.cell? ⟨w.heap.size, 0, none⟩ = some (.int .i64 n) ∧ wr.cell? ⟨w.heap.size, 1, none⟩ = some (.slice oa R.length cap) ∧ Below w.heap.size w wr) (fun _ _ i _ => R.length - (intOf i).toNat)
  case atStart => exact ⟨0, [], rfl, Nat.zero_le _, hC, hD, ap_CD, a0, a1, hb⟩
  case round =>
    clear hC hD ap_CD a0 a1 hb
    obtain ⟨i, xs, rfl, hi', hC, hD, ap_CD, a0, a1, hb⟩ := hrel
    have hpl := ptn_len q R.length i
    have hxl := hC.len
    have hxs : xs.length ≤ 40 := by omega
    have hfl := flat_len (q := q) hr40 i
    have hflR : ((ptnQ q R.length i).flatten).length ≤ Room := by unfold Room; omega
    clear hxl
    by_cases hlt : i < R.length
    · have HF0 : Hid (inB' (ptnQ q R.length i).flatten (i : Int) = tkQ q i i) := by
        show inB' (ptnQ q R.length i).flatten (i : Int) = tkQ q i i
        rw [Bool.eq_iff_iff]
        have := ptn_flat HP.out (Nat.le_refl i) hlt
        simpa [inB'] using this
      cases hti : tkQ q i i
      · have hin : inB' (ptnQ q R.length i).flatten (i : Int) = false := HF0.out.trans hti
        have HS : Hid (ptnQ q R.length (i + 1) = ptnQ q R.length i ++ (if decide (1 < (clsTo q i R.length).length) then [clsTo q i R.length] else [])) := by
          show ptnQ q R.length (i + 1) = _
          rw [ptn_succ]; unfold headQ; rw [hti]; rfl
        have HF : Hid (clsTo q i (i + 1) = [(i : Int)]) := cls_first q i
        have HFX : Hid ((ptnQ q R.length (i + 1)).flatten = (ptnQ q R.length i).flatten ++ (if decide (1 < (clsTo q i R.length).length) then clsTo q i R.length else [])) := by
          show (ptnQ q R.length (i + 1)).flatten = _
          rw [HS.out, List.flatten_append]; split <;> simp
        clear HF0
        generalize (ptnQ q R.length i).flatten = F at *
        generalize ptnQ q R.length i = P at *
        obtain ⟨oD, cD, rfl⟩ := hD.shape
        go_wp2_with fail
        refine Calls.mono (Ans.eqb (c_l2Has _ _ _ _ _ (hD.ints rfl hflR)) hin) ?_
        rintro e w1 ⟨rfl, hbn⟩
        replace a0 := cell_keep a0 hbn
        replace a1 := cell_keep a1 hbn
        replace hC := hC.keep hbn
        replace hD := hD.keep hbn
        replace hb := bel_to hb hbn
        clear hbn hin
        have hbe := World.block_lt_of_cell? _ _ a1
        have hI := OwnI.single w1 (w.heap.size + 1) hbe (i : Int)
        have hIf := OwnI.single w1 w1.heap.size (Nat.le_refl _) (i : Int)
        have ap_CI := hC.fresh hIf
        have ap_DI := apart_old hD hIf
        have hba := (Below.refl w1.heap.size w1).alloc (Nat.le_refl _) (.cells #[.int .i64 (i : Int)] 3)
        replace hC := hC.keep hba
        replace hD := hD.keep hba
        replace a0 := cell_keep a0 hba
        replace a1 := cell_keep a1 hba
        replace hb := bel_to hb hba
        clear hIf hba hbe
        go_wp2
        go_loopw [10, 11] (fun vI k' wr => ∃ k : Nat, k' = .int .i64 k ∧ i < k ∧ k ≤ R.length ∧ OwnI wr (w.heap.size + 1) vI (clsTo q i k) ∧ OwnRows wr (w.heap.size + 1) u7 xs P ∧ OwnI wr (w.heap.size + 1) (.slice oD F.length cD) F ∧ ApartR u7 xs (.slice oD F.length cD) ∧ ApartR u7 xs vI ∧ Apart (.slice oD F.length cD) vI ∧ wr.cell? ⟨w.heap.size, 0, none⟩ = some (.int .i64 n) ∧ wr.cell? ⟨w.heap.size, 1, none⟩ = some (.slice oa R.length cap) ∧ Below w.heap.size w wr) (fun _ k _ => R.length - (intOf k).toNat)
        case atStart => exact ⟨i + 1, by go_num, by omega, by omega, by rw [HF.out]; exact hI, hC, hD, ap_CD, ap_CI, ap_DI, a0, a1, hb⟩
        case round =>
          clear hC hD hI ap_CD ap_CI ap_DI a0 a1 hb HF
          obtain ⟨k, rfl, hik, hk, hI, hC, hD, ap_CD, ap_CI, ap_DI, a0, a1, hb⟩ := hrel
          have hcl := cls_len q i k
          by_cases hlk : k < R.length
          · have HCS : Hid (clsTo q i (k + 1) = clsTo q i k ++ (if q i k then [(k : Int)] else [])) := by
              show clsTo q i (k + 1) = _
              rw [cls_succ, decide_eq_true hik]; rfl
            have HV : Hid (q i k = ins s (agreeF m (row R i) (row R k))) := HQ.out i k
            have HSX : Hid (St (agreeF m (row R i) (row R k))) := agreeF_st (HSS.out.2 i hlt)
            generalize clsTo q i k = L at *
            go_wp2_with fail
            refine Calls.mono (c_l4Agree n _ _ _ m i k _ (hR.keep hb) HT.out hlt hlk) ?_
            rintro e w2 ⟨rfl, hbn⟩
            replace a0 := cell_keep a0 hbn
            replace a1 := cell_keep a1 hbn
            replace hC := hC.keep hbn
            replace hD := hD.keep hbn
            replace hI := hI.keep hbn
            replace hb := bel_to hb hbn
            clear hbn
            generalize agreeF m (row R i) (row R k) = x at *
            cases hqk : q i k
            · have h1' : (bits BinOp.and .i64 x s == s) = false := (and_swap HSX.out HSS.out.1).trans (HV.out.symm.trans hqk)
              go_wp2
              go_roundw
              case rel => exact ⟨k + 1, by go_num, by omega, by omega, by rw [HCS.out, hqk]; simpa using hI, hC, hD, ap_CD, ap_CI, ap_DI, a0, a1, hb⟩
              case measure => simp [intOf]; omega
            · have h1' : (bits BinOp.and .i64 x s == s) = true := (and_swap HSX.out HSS.out.1).trans (HV.out.symm.trans hqk)
              go_wp2_with (first | (at_builtin; refine wpList_append_fresh rfl _ _ 69 rfl (w.heap.size + 1) 3 i0 (.int .i64 0) 1 8 Try.underlying69 hi hz0 hz1 hz2 rfl (by decide) _ _ _ rfl (World.ownsRow.alloc hI _) _ 1 1 [.int .i64 (k : Int)] rfl rfl (by intro j u hj; match j, hj with | 0, hj => simp at hj; subst hj; simp [Addr.add]) (by intro u hu; simp at hu; subst hu; rfl) (by unfold maxLen; omega) (by omega) (by have := World.block_lt_of_cell? _ _ a1; simp at this; simp; omega) ?_; intro v' w3 hown hgrow hfr; replace hb := (hb.alloc hb.size _).grown hgrow (by have := hb.size; simp; omega) (fun g hg => Nat.le_trans (Nat.le_succ _) (World.ownsRow.lt hI g hg).1); replace a0 := cell_gr (cell_al a0 _) (World.ownsRow.alloc hI _) (by omega) hgrow; replace a1 := cell_gr (cell_al a1 _) (World.ownsRow.alloc hI _) (by omega) hgrow; obtain ⟨hC, ap_CI⟩ := OwnRows.past hC hgrow ap_CI hfr; obtain ⟨hD, ap_DI⟩ := OwnI.past hD hgrow ap_DI hfr; replace hI := OwnI.snoc hown; clear hown hgrow hfr) | fail)
              go_roundw
              case rel => exact ⟨k + 1, by go_num, by omega, by omega, by rw [HCS.out, hqk]; exact hI, hC, hD, ap_CD, ap_CI, ap_DI, a0, a1, hb⟩
              case measure => simp [intOf]; omega
          · have hkk : k = R.length := by omega
            have HCk : Hid (clsTo q i k = clsTo q i R.length) := by show clsTo q i k = clsTo q i R.length; rw [hkk]
            clear hkk
            rw [HCk.out] at hI
            have hcN := cls_len q i R.length
            generalize clsTo q i R.length = L at *
            obtain ⟨oL, cL, rfl⟩ := hI.shape
            by_cases h1 : 1 < L.length
            · have HSP : Hid (ptnQ q R.length (i + 1) = P ++ [L]) := by show ptnQ q R.length (i + 1) = _; rw [HS.out, decide_eq_true h1]; rfl
              have HFL : Hid ((ptnQ q R.length (i + 1)).flatten = F ++ L) := by show (ptnQ q R.length (i + 1)).flatten = _; rw [HFX.out, decide_eq_true h1]; rfl
              have hxl2 := hC.len
              obtain ⟨gL, rfl, _⟩ := hI.news (by omega)
              have hq : True := trivial
              go_wp2_with (first | (clear hq; at_builtin; refine wpList_append_fresh rfl _ _ 26 rfl (w.heap.size + 1) 69 j0 (.slice none 0 0) 1 24 Try.underlying26 hj hy0 hy1 hy2 rfl (by decide) _ _ _ rfl (World.ownsRow.alloc hC.outer _) _ 1 1 [.slice (some ⟨gL, 0, none⟩) L.length cL] rfl rfl (by intro j u hj; match j, hj with | 0, hj => simp at hj; subst hj; simp [Addr.add]) (by intro u hu; simp at hu; subst hu; rfl) (by unfold maxLen; omega) (by omega) (by have := World.block_lt_of_cell? _ _ a1; simp at this; simp; omega) ?_; intro v' w1 hown hgrow hfr; replace hb := (hb.alloc hb.size _).grown hgrow (by have := hb.size; simp; omega) (fun g hg => Nat.le_trans (Nat.le_succ _) (World.ownsRow.lt hC.outer g hg).1); replace a0 := cell_gr (cell_al a0 _) (World.ownsRow.alloc hC.outer _) (by omega) hgrow; replace a1 := cell_gr (cell_al a1 _) (World.ownsRow.alloc hC.outer _) (by omega) hgrow; have hC2 := OwnRows.snoc hC hI ap_CI hown hgrow hfr; have apI := (OwnI.past hI hgrow ap_CI.1.symm hfr); have apD := (OwnI.past hD hgrow ap_CD.1.symm hfr); replace hI := apI.1; replace hD := apD.1; have ap_CD2 := (show ApartR v' (xs ++ [.slice (some ⟨gL, 0, none⟩) L.length cL]) (.slice oD F.length cD) from ⟨apD.2.symm, fun y hy => by rcases List.mem_append.1 hy with h' | h'; exact ap_CD.2 y h'; (rw [List.mem_singleton.1 h']; exact ap_DI.symm)⟩); clear apI apD; replace hC := hC2; clear hC2 hown hgrow hfr; obtain ⟨gL', eL, hnews⟩ := hI.news (by omega); obtain rfl : gL = gL' := by simpa using eL) | (at_builtin; refine wpList_append_fresh rfl _ _ 69 rfl (w.heap.size + 1) 3 i0 (.int .i64 0) 1 8 Try.underlying69 hi hz0 hz1 hz2 rfl (by decide) (.slice oD F.length cD) F.length (F.map encI) rfl (show _ from hD) _ L.length cL (L.map encI) rfl (by simp) hnews (ones' L) (by unfold maxLen; omega) (by omega) (World.block_lt_of_cell? _ _ a1) ?_; intro v'' w2 hown hgrow hfr; replace hb := hb.grown hgrow hb.size (fun g hg => Nat.le_trans (Nat.le_succ _) (World.ownsRow.lt hD g hg).1); replace a0 := cell_gr a0 hD (by omega) hgrow; replace a1 := cell_gr a1 hD (by omega) hgrow; obtain ⟨hC, ap_CD3⟩ := OwnRows.past0 hC hgrow ap_CD2 hfr; have hD2 := (show OwnI w2 (w.heap.size + 1) v'' (F ++ L) from by unfold OwnI; rw [List.length_append, List.map_append]; exact hown); clear hown hgrow hfr) | fail)
              go_roundw
              case rel => exact ⟨i + 1, _, by go_num, by omega, by rw [HSP.out]; exact hC, by rw [HFL.out]; exact hD2, ap_CD3, a0, a1, hb⟩
              case measure => simp [intOf]; omega
            · have HSP : Hid (ptnQ q R.length (i + 1) = P) := by show ptnQ q R.length (i + 1) = _; rw [HS.out, decide_eq_false h1]; simp
              go_wp2
              go_roundw
              case rel => exact ⟨i + 1, xs, by go_num, by omega, by rw [HSP.out]; exact hC, by rw [HFX.out, decide_eq_false h1]; simpa using hD, ap_CD, a0, a1, hb⟩
              case measure => simp [intOf]; omega
      · have hin : inB' (ptnQ q R.length i).flatten (i : Int) = true := HF0.out.trans hti
        have HS : Hid (ptnQ q R.length (i + 1) = ptnQ q R.length i) := by
          show ptnQ q R.length (i + 1) = _
          rw [ptn_succ]; unfold headQ; rw [hti]; simp
        have HFX : Hid ((ptnQ q R.length (i + 1)).flatten = (ptnQ q R.length i).flatten) := by show (ptnQ q R.length (i + 1)).flatten = _; rw [HS.out]
        clear HF0
        generalize (ptnQ q R.length i).flatten = F at *
        generalize ptnQ q R.length i = P at *
        obtain ⟨oD, cD, rfl⟩ := hD.shape
        go_wp2_with fail
        refine Calls.mono (Ans.eqb (c_l2Has _ _ _ _ _ (hD.ints rfl hflR)) hin) ?_
        rintro e w1 ⟨rfl, hbn⟩
        replace a0 := cell_keep a0 hbn
        replace a1 := cell_keep a1 hbn
        replace hC := hC.keep hbn
        replace hD := hD.keep hbn
        replace hb := bel_to hb hbn
        clear hbn hin
        go_wp2
        go_roundw
        case rel => exact ⟨i + 1, xs, by go_num, by omega, by rw [HS.out]; exact hC, by rw [HFX.out]; exact hD, ap_CD, a0, a1, hb⟩
        case measure => simp [intOf]; omega
    · have hkk : i = R.length := by omega
      have HK : Hid (i = R.length) := hkk
      clear hkk
      go_wp2
      go_ret
      exact ⟨_, _, rfl, by have h := hC.based (Nat.le_succ w.heap.size); rw [HK.out] at h; exact h, hb⟩
end Go.Proofs.Ytkanbnbofoabeaa
