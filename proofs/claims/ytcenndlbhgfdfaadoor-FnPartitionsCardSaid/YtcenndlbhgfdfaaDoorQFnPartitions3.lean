/- Contracts and lemmas for FnPartitions, part 3 of 5. -/
import Derived.Test.YtcenndlbhgfdfaaDoorQFnPartitions1
import Derived.Test.YtcenndlbhgfdfaaDoorQFnPartitions2
import Derived.Laws.BytesArg
import Derived.Laws.DeepStrings4
import Derived.Test.YtcenndlbhgfdfaaDoorShelf
import Derived.Lib.Join
import Derived.Laws.AppendOwnNone
import Derived.Outline
import Derived.Deep.RegionHeld3
import Derived.Deep.AppendLies
import Derived.BigRegion
import Derived.RegionTactic
namespace Go.Proofs.YtcenndlbhgfdfaaDoor
open Go.RowKit
set_option linter.unusedVariables false
set_option maxRecDepth 100000

theorem OwnRows.past0 {w w' : World} {B : Nat} {v u u' : Value} {xs : List Value} {R : List (List Int)} (h : OwnRows w B v xs R) (hg : w.grownBy w' u.ownBlock) (ha : ApartR v xs u) (hf : Fresh w u u') : OwnRows w' B v xs R ∧ ApartR v xs u' := by
  refine ⟨OwnRows.far h hg ha, Apart.next h.outer ha.1 hf, fun y hy => ?_⟩
  obtain ⟨j, _, o', c, e, h2, _⟩ := h.one hy
  exact Apart.next h2 (ha.2 y hy) hf
theorem OwnI.news {w : World} {base : Nat} {oa : Option Addr} {n c : Nat} {L : List Int} (h : OwnI w base (.slice oa n c) L) (h0 : 0 < L.length) : ∃ g, oa = some ⟨g, 0, none⟩ ∧ ∀ j u, (L.map encI)[j]? = some u → w.cell? ((⟨g, 0, none⟩ : Addr).add j) = some u := by
  obtain ⟨oa', c', e, hg⟩ := owns_cells h
  simp only [Value.slice.injEq] at e
  obtain ⟨rfl, _, rfl⟩ := e
  obtain ⟨g, h1, _, _, _, _, _⟩ := hg h0
  subst h1
  exact ⟨g, rfl, World.ownsRow.cells h rfl⟩
set_option maxHeartbeats 3200000 in
theorem c_l5Classes (n : Int) (oa) (cap : Nat) (R : List (List Int)) (m s : Int) (w : World) (hR : RowsAt w oa R) (ht : isTabF n R = true) (hs : St s) :
    Calls Tryd.prog 35 #[.agg #[.int .i64 n, .slice oa R.length cap], .int .i64 m, .int .i64 s] w fun e w' => ∃ v xs, e = .returned v ∧ OwnRows w' w.heap.size v xs (ptnQ (sameB R m s) R.length R.length) ∧ Below w.heap.size w w' := by
  obtain ⟨i0, hi, hz0, hz1, hz2⟩ := info_parts info_int
  obtain ⟨j0, hj, hy0, hy1, hy2⟩ := info_parts info_ints
  obtain ⟨hn1, hn5, hr40, hlen⟩ := isTab_of ht
  have HT : Hid (isTabF n R = true) := ht
  have HP : Hid (Per (sameB R m s) R.length) := same_per ht hs
  have HSS : Hid (St s ∧ ∀ k, k < R.length → (row R k).length ≤ 5) := ⟨hs, fun k hk => by have := hlen k hk; omega⟩
  have HQ : Hid (∀ i k, sameB R m s i k = ins s (agreeF m (row R i) (row R k))) := fun i k => rfl
  have hb := (bel2 w (.cells #[.int .i64 n, .slice oa R.length cap] 26) (.cells #[] 50)).alloc (by simp; omega) (.cells #[] 3)
  have k1 := (Below.refl ((w.alloc (.cells #[.int .i64 n, .slice oa R.length cap] 26)).alloc (.cells #[] 50)).heap.size _).alloc (Nat.le_refl _) (.cells #[] 3)
  have a0 := cell_keep (two_a w #[.int .i64 n, .slice oa R.length cap] 26 #[] 50 0 _ rfl) k1
  have a1 := cell_keep (two_a w #[.int .i64 n, .slice oa R.length cap] 26 #[] 50 1 _ rfl) k1
  have hC0 : OwnRows ((w.alloc (.cells #[.int .i64 n, .slice oa R.length cap] 26)).alloc (.cells #[] 50)) (w.heap.size + 1) (.slice (some ⟨w.heap.size + 1, 0, none⟩) 0 0) [] [] := by
    have h := OwnRows.empty (w.alloc (.cells #[.int .i64 n, .slice oa R.length cap] 26)) _ (Nat.le_refl _)
    simpa only [World.size_alloc] using h
  have hC := hC0.keep k1
  have hD0 := OwnI.empty ((w.alloc (.cells #[.int .i64 n, .slice oa R.length cap] 26)).alloc (.cells #[] 50)) _ (Nat.le_refl _)
  have ap_CD := hC0.fresh hD0
  have hD := hD0.based (show w.heap.size + 1 ≤ _ by simp)
  simp only [World.size_alloc] at hD ap_CD
  clear k1 hD0 hC0 ht hs hlen
  have hnl : 0 < R.length ∨ R.length = 0 := by omega
  generalize hq : sameB R m s = q at *
  go_enter Tryd.func35, Tryd.ntmps35
  go_wp2
  go_loopw [7, 8, 9] (fun vC vD i wr => ∃ (i' : Nat) (xs : List Value), i = .int .i64 i' ∧ i' ≤ R.length ∧ OwnRows wr (w.heap.size + 1) vC xs (ptnQ q R.length i') ∧ OwnI wr (w.heap.size + 1) vD (ptnQ q R.length i').flatten ∧ ApartR vC xs vD ∧ wr.cell? ⟨w.heap.size, 0, none⟩ = some (.int .i64 n) ∧ wr.cell? ⟨w.heap.size, 1, none⟩ = some (.slice oa R.length cap) ∧ Below w.heap.size w wr) (fun _ _ i _ => R.length - (intOf i).toNat)
  case atStart => exact ⟨0, [], rfl, Nat.zero_le _, hC, hD, ap_CD, a0, a1, hb⟩
  case round =>
    clear hC hD ap_CD a0 a1 hb
    obtain ⟨i, xs, rfl, hi', hC, hD, ap_CD, a0, a1, hb⟩ := hrel
    have hpl := ptn_len q R.length i
    have hxl := hC.len
    have hxs : xs.length ≤ 40 := by omega
    have hfl := flat_len (q := q) hr40 i
    have hflR : ((ptnQ q R.length i).flatten).length ≤ Room := by unfold Room; omega
    clear hxl
    by_cases hlt : i < R.length
    · have HF0 : Hid (inB' (ptnQ q R.length i).flatten (i : Int) = tkQ q i i) := by
        show inB' (ptnQ q R.length i).flatten (i : Int) = tkQ q i i
        rw [Bool.eq_iff_iff]
        have := ptn_flat HP.out (Nat.le_refl i) hlt
        simpa [inB'] using this
      cases hti : tkQ q i i
      · have hin : inB' (ptnQ q R.length i).flatten (i : Int) = false := HF0.out.trans hti
        have HS : Hid (ptnQ q R.length (i + 1) = ptnQ q R.length i ++ (if decide (1 < (clsTo q i R.length).length) then [clsTo q i R.length] else [])) := by
          show ptnQ q R.length (i + 1) = _
          rw [ptn_succ]; unfold headQ; rw [hti]; rfl
        have HF : Hid (clsTo q i (i + 1) = [(i : Int)]) := cls_first q i
        have HFX : Hid ((ptnQ q R.length (i + 1)).flatten = (ptnQ q R.length i).flatten ++ (if decide (1 < (clsTo q i R.length).length) then clsTo q i R.length else [])) := by
          show (ptnQ q R.length (i + 1)).flatten = _
          rw [HS.out, List.flatten_append]; split <;> simp
        clear HF0
        generalize (ptnQ q R.length i).flatten = F at *
        generalize ptnQ q R.length i = P at *
        obtain ⟨oD, cD, rfl⟩ := hD.shape
        go_wp2_with fail
        refine Calls.mono (Ans.eqb (c_l2Has _ _ _ _ _ (hD.ints rfl hflR)) hin) ?_
        rintro e w1 ⟨rfl, hbn⟩
        replace a0 := cell_keep a0 hbn
        replace a1 := cell_keep a1 hbn
        replace hC := hC.keep hbn
        replace hD := hD.keep hbn
        replace hb := bel_to hb hbn
        clear hbn hin
        have hbe := World.block_lt_of_cell? _ _ a1
        have hI := OwnI.single w1 (w.heap.size + 1) hbe (i : Int)
        have hIf := OwnI.single w1 w1.heap.size (Nat.le_refl _) (i : Int)
        have ap_CI := hC.fresh hIf
        have ap_DI := apart_old hD hIf
        have hba := (Below.refl w1.heap.size w1).alloc (Nat.le_refl _) (.cells #[.int .i64 (i : Int)] 3)
        replace hC := hC.keep hba
        replace hD := hD.keep hba
        replace a0 := cell_keep a0 hba
        replace a1 := cell_keep a1 hba
        replace hb := bel_to hb hba
        clear hIf hba hbe
        go_wp2
        go_loopw [10, 11] (fun vI k' wr => ∃ k : Nat, k' = .int .i64 k ∧ i < k ∧ k ≤ R.length ∧ OwnI wr (w.heap.size + 1) vI (clsTo q i k) ∧ OwnRows wr (w.heap.size + 1) u7 xs P ∧ OwnI wr (w.heap.size + 1) (.slice oD F.length cD) F ∧ ApartR u7 xs (.slice oD F.length cD) ∧ ApartR u7 xs vI ∧ Apart (.slice oD F.length cD) vI ∧ wr.cell? ⟨w.heap.size, 0, none⟩ = some (.int .i64 n) ∧ wr.cell? ⟨w.heap.size, 1, none⟩ = some (.slice oa R.length cap) ∧ Below w.heap.size w wr) (fun _ k _ => R.length - (intOf k).toNat)
        case atStart => exact ⟨i + 1, by go_num, by omega, by omega, by rw [HF.out]; exact hI, hC, hD, ap_CD, ap_CI, ap_DI, a0, a1, hb⟩
        case round =>
          clear hC hD hI ap_CD ap_CI ap_DI a0 a1 hb HF
          obtain ⟨k, rfl, hik, hk, hI, hC, hD, ap_CD, ap_CI, ap_DI, a0, a1, hb⟩ := hrel
          have hcl := cls_len q i k
          by_cases hlk : k < R.length
          · have HCS : Hid (clsTo q i (k + 1) = clsTo q i k ++ (if q i k then [(k : Int)] else [])) := by
              show clsTo q i (k + 1) = _
              rw [cls_succ, decide_eq_true hik]; rfl
            have HV : Hid (q i k = ins s (agreeF m (row R i) (row R k))) := HQ.out i k
            have HSX : Hid (St (agreeF m (row R i) (row R k))) := agreeF_st (HSS.out.2 i hlt)
            generalize clsTo q i k = L at *
            go_wp2_with fail
            refine Calls.mono (c_l4Agree n _ _ _ m i k _ (hR.keep hb) HT.out hlt hlk) ?_
            rintro e w2 ⟨rfl, hbn⟩
            replace a0 := cell_keep a0 hbn
            replace a1 := cell_keep a1 hbn
            replace hC := hC.keep hbn
            replace hD := hD.keep hbn
            replace hI := hI.keep hbn
            replace hb := bel_to hb hbn
            clear hbn
            generalize agreeF m (row R i) (row R k) = x at *
            cases hqk : q i k
            · have h1' : (bits BinOp.and .i64 x s == s) = false := (and_swap HSX.out HSS.out.1).trans (HV.out.symm.trans hqk)
              go_wp2
              go_roundw
              case rel => exact ⟨k + 1, by go_num, by omega, by omega, by rw [HCS.out, hqk]; simpa using hI, hC, hD, ap_CD, ap_CI, ap_DI, a0, a1, hb⟩
              case measure => simp [intOf]; omega
            · have h1' : (bits BinOp.and .i64 x s == s) = true := (and_swap HSX.out HSS.out.1).trans (HV.out.symm.trans hqk)
              go_wp2_with (first | (at_builtin; refine wpList_append_fresh rfl _ _ 50 rfl (w.heap.size + 1) 3 i0 (.int .i64 0) 1 8 Tryd.underlying50 hi hz0 hz1 hz2 rfl (by decide) _ _ _ rfl (World.ownsRow.alloc hI _) _ 1 1 [.int .i64 (k : Int)] rfl rfl (by intro j u hj; match j, hj with | 0, hj => simp at hj; subst hj; simp [Addr.add]) (by intro u hu; simp at hu; subst hu; rfl) (by unfold maxLen; omega) (by omega) (by have := World.block_lt_of_cell? _ _ a1; simp at this; simp; omega) ?_; intro v' w3 hown hgrow hfr; replace hb := (hb.alloc hb.size _).grown hgrow (by have := hb.size; simp; omega) (fun g hg => Nat.le_trans (Nat.le_succ _) (World.ownsRow.lt hI g hg).1); replace a0 := cell_gr (cell_al a0 _) (World.ownsRow.alloc hI _) (by omega) hgrow; replace a1 := cell_gr (cell_al a1 _) (World.ownsRow.alloc hI _) (by omega) hgrow; obtain ⟨hC, ap_CI⟩ := OwnRows.past hC hgrow ap_CI hfr; obtain ⟨hD, ap_DI⟩ := OwnI.past hD hgrow ap_DI hfr; replace hI := OwnI.snoc hown; clear hown hgrow hfr) | fail)
              go_roundw
              case rel => exact ⟨k + 1, by go_num, by omega, by omega, by rw [HCS.out, hqk]; exact hI, hC, hD, ap_CD, ap_CI, ap_DI, a0, a1, hb⟩
              case measure => simp [intOf]; omega
          · have hkk : k = R.length := by omega
            have HCk : Hid (clsTo q i k = clsTo q i R.length) := by show clsTo q i k = clsTo q i R.length; rw [hkk]
            clear hkk
            rw [HCk.out] at hI
            have hcN := cls_len q i R.length
            generalize clsTo q i R.length = L at *
            obtain ⟨oL, cL, rfl⟩ := hI.shape
            by_cases h1 : 1 < L.length
            · have HSP : Hid (ptnQ q R.length (i + 1) = P ++ [L]) := by show ptnQ q R.length (i + 1) = _; rw [HS.out, decide_eq_true h1]; rfl
              have HFL : Hid ((ptnQ q R.length (i + 1)).flatten = F ++ L) := by show (ptnQ q R.length (i + 1)).flatten = _; rw [HFX.out, decide_eq_true h1]; rfl
              have hxl2 := hC.len
              obtain ⟨gL, rfl, _⟩ := hI.news (by omega)
              have hq : True := trivial
              go_wp2_with (first | (clear hq; at_builtin; refine wpList_append_fresh rfl _ _ 24 rfl (w.heap.size + 1) 50 j0 (.slice none 0 0) 1 24 Tryd.underlying24 hj hy0 hy1 hy2 rfl (by decide) _ _ _ rfl (World.ownsRow.alloc hC.outer _) _ 1 1 [.slice (some ⟨gL, 0, none⟩) L.length cL] rfl rfl (by intro j u hj; match j, hj with | 0, hj => simp at hj; subst hj; simp [Addr.add]) (by intro u hu; simp at hu; subst hu; rfl) (by unfold maxLen; omega) (by omega) (by have := World.block_lt_of_cell? _ _ a1; simp at this; simp; omega) ?_; intro v' w1 hown hgrow hfr; replace hb := (hb.alloc hb.size _).grown hgrow (by have := hb.size; simp; omega) (fun g hg => Nat.le_trans (Nat.le_succ _) (World.ownsRow.lt hC.outer g hg).1); replace a0 := cell_gr (cell_al a0 _) (World.ownsRow.alloc hC.outer _) (by omega) hgrow; replace a1 := cell_gr (cell_al a1 _) (World.ownsRow.alloc hC.outer _) (by omega) hgrow; have hC2 := OwnRows.snoc hC hI ap_CI hown hgrow hfr; have apI := (OwnI.past hI hgrow ap_CI.1.symm hfr); have apD := (OwnI.past hD hgrow ap_CD.1.symm hfr); replace hI := apI.1; replace hD := apD.1; have ap_CD2 := (show ApartR v' (xs ++ [.slice (some ⟨gL, 0, none⟩) L.length cL]) (.slice oD F.length cD) from ⟨apD.2.symm, fun y hy => by rcases List.mem_append.1 hy with h' | h'; exact ap_CD.2 y h'; (rw [List.mem_singleton.1 h']; exact ap_DI.symm)⟩); clear apI apD; replace hC := hC2; clear hC2 hown hgrow hfr; obtain ⟨gL', eL, hnews⟩ := hI.news (by omega); obtain rfl : gL = gL' := by simpa using eL) | (at_builtin; refine wpList_append_fresh rfl _ _ 50 rfl (w.heap.size + 1) 3 i0 (.int .i64 0) 1 8 Tryd.underlying50 hi hz0 hz1 hz2 rfl (by decide) (.slice oD F.length cD) F.length (F.map encI) rfl (show _ from hD) _ L.length cL (L.map encI) rfl (by simp) hnews (ones' L) (by unfold maxLen; omega) (by omega) (World.block_lt_of_cell? _ _ a1) ?_; intro v'' w2 hown hgrow hfr; replace hb := hb.grown hgrow hb.size (fun g hg => Nat.le_trans (Nat.le_succ _) (World.ownsRow.lt hD g hg).1); replace a0 := cell_gr a0 hD (by omega) hgrow; replace a1 := cell_gr a1 hD (by omega) hgrow; obtain ⟨hC, ap_CD3⟩ := OwnRows.past0 hC hgrow ap_CD2 hfr; have hD2 := (show OwnI w2 (w.heap.size + 1) v'' (F ++ L) from by unfold OwnI; rw [List.length_append, List.map_append]; exact hown); clear hown hgrow hfr) | fail)
              go_roundw
              case rel => exact ⟨i + 1, _, by go_num, by omega, by rw [HSP.out]; exact hC, by rw [HFL.out]; exact hD2, ap_CD3, a0, a1, hb⟩
              case measure => simp [intOf]; omega
            · have HSP : Hid (ptnQ q R.length (i + 1) = P) := by show ptnQ q R.length (i + 1) = _; rw [HS.out, decide_eq_false h1]; simp
              go_wp2
              go_roundw
              case rel => exact ⟨i + 1, xs, by go_num, by omega, by rw [HSP.out]; exact hC, by rw [HFX.out, decide_eq_false h1]; simpa using hD, ap_CD, a0, a1, hb⟩
              case measure => simp [intOf]; omega
      · have hin : inB' (ptnQ q R.length i).flatten (i : Int) = true := HF0.out.trans hti
        have HS : Hid (ptnQ q R.length (i + 1) = ptnQ q R.length i) := by
          show ptnQ q R.length (i + 1) = _
          rw [ptn_succ]; unfold headQ; rw [hti]; simp
        have HFX : Hid ((ptnQ q R.length (i + 1)).flatten = (ptnQ q R.length i).flatten) := by show (ptnQ q R.length (i + 1)).flatten = _; rw [HS.out]
        clear HF0
        generalize (ptnQ q R.length i).flatten = F at *
        generalize ptnQ q R.length i = P at *
        obtain ⟨oD, cD, rfl⟩ := hD.shape
        go_wp2_with fail
        refine Calls.mono (Ans.eqb (c_l2Has _ _ _ _ _ (hD.ints rfl hflR)) hin) ?_
        rintro e w1 ⟨rfl, hbn⟩
        replace a0 := cell_keep a0 hbn
        replace a1 := cell_keep a1 hbn
        replace hC := hC.keep hbn
        replace hD := hD.keep hbn
        replace hb := bel_to hb hbn
        clear hbn hin
        go_wp2
        go_roundw
        case rel => exact ⟨i + 1, xs, by go_num, by omega, by rw [HS.out]; exact hC, by rw [HFX.out]; exact hD, ap_CD, a0, a1, hb⟩
        case measure => simp [intOf]; omega
    · have hkk : i = R.length := by omega
      have HK : Hid (i = R.length) := hkk
      clear hkk
      go_wp2
      go_ret
      exact ⟨_, _, rfl, by have h := hC.based (Nat.le_succ w.heap.size); rw [HK.out] at h; exact h, hb⟩
end Go.Proofs.YtcenndlbhgfdfaaDoor
namespace Go.Proofs.YtcenndlbhgfdfaaDoor
open Go.RowKit
set_option linter.unusedVariables false
set_option maxRecDepth 100000

theorem sorted_of {L : List Int} (h : ∀ k, 0 < k → k < L.length → nth L (k - 1) < nth L k) : L.Pairwise (· < ·) := by
  rw [List.pairwise_iff_getElem]
  intro i j hi hj hij
  have key : ∀ j, i < j → j < L.length → nth L i < nth L j := by
    intro j
    induction j with
    | zero => intro h1; omega
    | succ j ih =>
      intro h1 h2
      have h4 := h (j + 1) (by omega) h2
      rw [Nat.add_sub_cancel] at h4
      rcases Nat.lt_or_ge i j with h3 | h3
      · have := ih h3 (by omega); omega
      · have : i = j := by omega
        subst this; exact h4
  have := key j hij hj
  unfold nth List.getD at this
  rw [List.getElem?_eq_getElem hi, List.getElem?_eq_getElem hj] at this
  exact this
theorem rel_skip {P S : List (List Int)} {i : Nat} (h : ownF P i < 0 ∨ ownF S i < 0) (k : Nat) : relF P S i k = false := by
  cases e : relF P S i k
  · rfl
  · rw [rel_iff] at e; omega
theorem ptn_skip0 {q : Nat → Nat → Bool} {N i : Nat} (h : ∀ k, q i k = false) : ptnQ q N (i + 1) = ptnQ q N i := by
  have e : clsTo q i N = [(i : Int)] := by unfold clsTo; rw [List.filter_eq_nil_iff.2 (fun k _ => by rw [h k]; simp)]; rfl
  rw [ptn_succ]
  unfold headQ
  rw [e]; simp
theorem ptn_skip1 {q : Nat → Nat → Bool} {N i : Nat} (h : tkQ q i i = true) : ptnQ q N (i + 1) = ptnQ q N i := by
  rw [ptn_succ]; unfold headQ; rw [h]; simp
theorem tk_skip0 {q : Nat → Nat → Bool} {i : Nat} (h : ∀ k, q i k = false) (k : Nat) : tkQ q (i + 1) k = tkQ q i k := by rw [tk_succ, h k]; simp
theorem prod_cls {P S : List (List Int)} {N i a b : Nat} (hP : ptnAll P N) (hS : ptnAll S N) (hi : i < N) (ha : ownAt P i a) (hb : ownAt S i b) (ht : tkQ (relF P S) i i = false) :
    (row P a).filter (inB' (row S b)) = clsTo (relF P S) i N := by
  have oa := ownF_at ha
  have ob := ownF_at hb
  have hsA : (row P a).Pairwise (· < ·) := sorted_of fun k h0 hk => ((hP a ha.1).2 k hk).2.2.1 h0
  refine sorted_eq (hsA.filter _) (cls_sorted _ _ _) fun x => ?_
  rw [List.mem_filter]
  constructor
  · rintro ⟨h1, h2⟩
    have h2' : x ∈ row S b := by unfold inB' at h2; exact of_decide_eq_true h2
    obtain ⟨u, hu⟩ := List.mem_iff_getElem?.1 h1
    have hul : u < (row P a).length := (List.getElem?_eq_some_iff.1 hu).1
    rw [nth_eq hul] at hu
    have hx := Option.some.inj hu
    obtain ⟨x0, x1, _, x3⟩ := (hP a ha.1).2 u hul
    obtain ⟨t, ht'⟩ := List.mem_iff_getElem?.1 h2'
    have htl : t < (row S b).length := (List.getElem?_eq_some_iff.1 ht').1
    rw [nth_eq htl] at ht'
    have hy := Option.some.inj ht'
    obtain ⟨_, _, _, y3⟩ := (hS b hb.1).2 t htl
    rw [hx] at x0 x1 x3
    rw [hy] at y3
    obtain ⟨k, rfl⟩ : ∃ k : Nat, x = k := ⟨x.toNat, by omega⟩
    rcases Nat.lt_trichotomy i k with h | h | h
    · exact cls_mem.2 (.inr ⟨k, rfl, by omega, h, rel_iff.2 ⟨by omega, by omega, by omega, by omega⟩⟩)
    · subst h; exact cls_mem.2 (.inl rfl)
    · have : tkQ (relF P S) i i = true := tk_iff.2 ⟨k, h, h, rel_iff.2 ⟨by omega, by omega, by omega, by omega⟩⟩
      rw [ht] at this; cases this
  · intro h
    rcases cls_mem.1 h with e | ⟨k, e, k1, k2, k3⟩
    · subst e
      exact ⟨ha.2.1, by unfold inB'; exact decide_eq_true hb.2.1⟩
    · subst e
      rw [rel_iff] at k3
      obtain ⟨c, hc, ec⟩ := ownF_ge (show 0 ≤ ownF P k by omega)
      obtain ⟨d, hd, ed⟩ := ownF_ge (show 0 ≤ ownF S k by omega)
      have : c = a := by omega
      subst this
      have : d = b := by omega
      subst this
      exact ⟨hc.2.1, by unfold inB'; exact decide_eq_true hd.2.1⟩
theorem filter_take {p : Int → Bool} {L : List Int} {t : Nat} (h : t < L.length) : (L.take (t + 1)).filter p = (L.take t).filter p ++ (if p (nth L t) then [nth L t] else []) := by
  rw [take_nth h, List.filter_append]
  cases e : p (nth L t) <;> simp [e]
set_option maxHeartbeats 25600000 in
theorem c_specProductOf (oa ob) (ca cb : Nat) (P S : List (List Int)) (N : Nat) (hN : N ≤ 40) (w : World) (hP : RowsAt w oa P) (hS : RowsAt w ob S) (hsP : SmallP P) (hsS : SmallP S) :
    Calls Tryd.prog 21 #[.slice oa P.length ca, .slice ob S.length cb, .int .i64 N] w fun e w' => ∃ v xs, e = .returned v ∧ OwnRows w' w.heap.size v xs (prodF P S N) ∧ Below w.heap.size w w' := by
  obtain ⟨i0, hi, hz0, hz1, hz2⟩ := info_parts info_int
  obtain ⟨j0, hj, hy0, hy1, hy2⟩ := info_parts info_ints
  have hb := (Below.refl w.heap.size w).alloc (Nat.le_refl _) (.cells #[] 50)
  have hC := OwnRows.empty w w.heap.size (Nat.le_refl _)
  have HSP : Hid (SmallP P) := hsP
  have HSS : Hid (SmallP S) := hsS
  clear hsP hsS
  cases h1 : isPtnF P N
  · have HM : Hid (prodF P S N = []) := by show prodF P S N = []; unfold prodF; rw [h1]; rfl
    have K1 : Hid (∀ W, Below w.heap.size w W → Calls Tryd.prog 22 #[.slice oa P.length ca, .int .i64 N] W fun e w' => e = .returned (.bool false) ∧ Below W.heap.size W w') := fun W hB => Ans.eqb (c_specIsPartition _ _ P N hN _ (hP.keep hB) HSP.out) h1
    go_enter Tryd.func21, Tryd.ntmps21
    go_wp2_with (first | (go_at_call 22; with_reducible refine Calls.mono (K1.out _ hb) ?_; rintro e w1 ⟨rfl, hbn⟩; replace hC := hC.keep hbn; replace hb := bel_to hb hbn; clear hbn) | fail)
    go_ret
    exact ⟨_, _, rfl, by rw [HM.out]; exact hC, hb⟩
  cases h2 : isPtnF S N
  · have HM : Hid (prodF P S N = []) := by show prodF P S N = []; unfold prodF; rw [h1, h2]; rfl
    have K1 : Hid (∀ W, Below w.heap.size w W → Calls Tryd.prog 22 #[.slice oa P.length ca, .int .i64 N] W fun e w' => e = .returned (.bool true) ∧ Below W.heap.size W w') := fun W hB => Ans.eqb (c_specIsPartition _ _ P N hN _ (hP.keep hB) HSP.out) h1
    have K2 : Hid (∀ W, Below w.heap.size w W → Calls Tryd.prog 22 #[.slice ob S.length cb, .int .i64 N] W fun e w' => e = .returned (.bool false) ∧ Below W.heap.size W w') := fun W hB => Ans.eqb (c_specIsPartition _ _ S N hN _ (hS.keep hB) HSS.out) h2
    go_enter Tryd.func21, Tryd.ntmps21
    go_wp2_with (first | (go_at_call 22; with_reducible refine Calls.mono (K1.out _ hb) ?_; rintro e w1 ⟨rfl, hbn⟩; replace hC := hC.keep hbn; replace hb := bel_to hb hbn; clear hbn) | (go_at_call 22; with_reducible refine Calls.mono (K2.out _ hb) ?_; rintro e w1 ⟨rfl, hbn⟩; replace hC := hC.keep hbn; replace hb := bel_to hb hbn; clear hbn) | fail)
    go_ret
    exact ⟨_, _, rfl, by rw [HM.out]; exact hC, hb⟩
  have HM : Hid (prodF P S N = ptnQ (relF P S) N N) := by show prodF P S N = _; unfold prodF; rw [h1, h2]; rfl
  have HPA : Hid (ptnAll P N) := isPtn_iff.1 h1
  have HSA : Hid (ptnAll S N) := isPtn_iff.1 h2
  have HPR : Hid (Per (relF P S) N) := rel_per P S N
  have K1 : Hid (∀ W, Below w.heap.size w W → Calls Tryd.prog 22 #[.slice oa P.length ca, .int .i64 N] W fun e w' => e = .returned (.bool true) ∧ Below W.heap.size W w') := fun W hB => Ans.eqb (c_specIsPartition _ _ P N hN _ (hP.keep hB) HSP.out) h1
  have K2 : Hid (∀ W, Below w.heap.size w W → Calls Tryd.prog 22 #[.slice ob S.length cb, .int .i64 N] W fun e w' => e = .returned (.bool true) ∧ Below W.heap.size W w') := fun W hB => Ans.eqb (c_specIsPartition _ _ S N hN _ (hS.keep hB) HSS.out) h2
  go_enter Tryd.func21, Tryd.ntmps21
  go_wp2_with (first | (go_at_call 22; with_reducible refine Calls.mono (K1.out _ hb) ?_; rintro e w1 ⟨rfl, hbn⟩; replace hC := hC.keep hbn; replace hb := bel_to hb hbn; clear hbn) | (go_at_call 22; with_reducible refine Calls.mono (K2.out _ hb) ?_; rintro e w1 ⟨rfl, hbn⟩; replace hC := hC.keep hbn; replace hb := bel_to hb hbn; clear hbn) | fail)
  clear K1 K2 h1 h2
  have hD0 := OwnI.empty w1 _ (Nat.le_refl _)
  have ap_CD : ApartR (.slice (some ⟨w.heap.size, 0, none⟩) 0 0) [] (.slice (some ⟨w1.heap.size, 0, none⟩) 0 0) := hC.fresh hD0
  have hD := hD0.based hb.size
  replace hC := hC.keep ((Below.refl w1.heap.size w1).alloc (Nat.le_refl _) (.cells #[] 3))
  replace hb := hb.alloc hb.size (.cells #[] 3)
  clear hD0
  have hll : 0 ≤ N := Nat.zero_le _
  go_loopw [7, 8, 9] (fun vC vD i wr => ∃ (i' : Nat) (xs : List Value) (F : List Int), i = .int .i64 i' ∧ i' ≤ N ∧ OwnRows wr w.heap.size vC xs (ptnQ (relF P S) N i') ∧ OwnI wr w.heap.size vD F ∧ ApartR vC xs vD ∧ (∀ k, i' ≤ k → k < N → inB' F (k : Int) = tkQ (relF P S) i' k) ∧ F.length ≤ 100 * i' ∧ Below w.heap.size w wr) (fun _ _ i _ => N - (intOf i).toNat)
  case atStart => exact ⟨0, [], [], rfl, Nat.zero_le _, hC, hD, ap_CD, fun k _ _ => by simp [inB', tkQ], by simp, hb⟩
  case round =>
    clear hC hD ap_CD hb
    obtain ⟨i, xs, F, rfl, hi', hC, hD, ap_CD, hFk, hFl, hb⟩ := hrel
    have HFk : Hid (∀ k, i ≤ k → k < N → inB' F (k : Int) = tkQ (relF P S) i k) := hFk
    have hFR : F.length ≤ Room := by unfold Room; omega
    have hpl := ptn_len (relF P S) N i
    have hxl := hC.len
    have hxs : xs.length ≤ 40 := by omega
    clear hFk hpl hxl
    by_cases hlt : i < N
    · obtain ⟨a, ha⟩ : ∃ a, ownF P i = a := ⟨_, rfl⟩
      obtain ⟨b, hb1⟩ : ∃ b, ownF S i = b := ⟨_, rfl⟩
      have KA : Hid (∀ W, Below w.heap.size w W → Calls Tryd.prog 47 #[.slice oa P.length ca, .int .i64 i] W fun e w' => e = .returned (.int .i64 a) ∧ Below W.heap.size W w') := fun W hB => Ans.eqi' (c_l5Class _ _ P _ _ (hP.keep hB)) ha
      have KB : Hid (∀ W, Below w.heap.size w W → Calls Tryd.prog 47 #[.slice ob S.length cb, .int .i64 i] W fun e w' => e = .returned (.int .i64 b) ∧ Below W.heap.size W w') := fun W hB => Ans.eqi' (c_l5Class _ _ S _ _ (hS.keep hB)) hb1
      have HOA : Hid (ownF P i = a) := ha
      have HOB : Hid (ownF S i = b) := hb1
      have HF0 : Hid (inB' F (i : Int) = tkQ (relF P S) i i) := HFk.out i (Nat.le_refl _) hlt
      clear ha hb1
      obtain ⟨oD, cD, rfl⟩ := hD.shape
      by_cases q1 : a < 0
      · have HSP : Hid (ptnQ (relF P S) N (i + 1) = ptnQ (relF P S) N i) := ptn_skip0 (rel_skip (.inl (by rw [HOA.out]; exact q1)))
        have HTS : Hid (∀ k, i + 1 ≤ k → tkQ (relF P S) i k = tkQ (relF P S) (i + 1) k) := fun k _ => (tk_skip0 (rel_skip (.inl (by rw [HOA.out]; exact q1))) k).symm
        generalize ptnQ (relF P S) N i = Q at *
        go_wp2_with (first | (go_at_call 47; with_reducible refine Calls.mono (KA.out _ hb) ?_; rintro e w1 ⟨rfl, hbn⟩; replace hC := hC.keep hbn; replace hD := hD.keep hbn; replace hb := bel_to hb hbn; clear hbn) | (go_at_call 47; with_reducible refine Calls.mono (KB.out _ hb) ?_; rintro e w1 ⟨rfl, hbn⟩; replace hC := hC.keep hbn; replace hD := hD.keep hbn; replace hb := bel_to hb hbn; clear hbn) | fail)
        go_roundw
        case rel => exact ⟨i + 1, xs, F, by go_num, by omega, by rw [HSP.out]; exact hC, hD, ap_CD, fun k h1 h2 => by rw [HFk.out k (by omega) h2, HTS.out k (by omega)], by omega, hb⟩
        case measure => simp [intOf]; omega
      by_cases q2 : b < 0
      · have HSP : Hid (ptnQ (relF P S) N (i + 1) = ptnQ (relF P S) N i) := ptn_skip0 (rel_skip (.inr (by rw [HOB.out]; exact q2)))
        have HTS : Hid (∀ k, i + 1 ≤ k → tkQ (relF P S) i k = tkQ (relF P S) (i + 1) k) := fun k _ => (tk_skip0 (rel_skip (.inr (by rw [HOB.out]; exact q2))) k).symm
        generalize ptnQ (relF P S) N i = Q at *
        go_wp2_with (first | (go_at_call 47; with_reducible refine Calls.mono (KA.out _ hb) ?_; rintro e w1 ⟨rfl, hbn⟩; replace hC := hC.keep hbn; replace hD := hD.keep hbn; replace hb := bel_to hb hbn; clear hbn) | (go_at_call 47; with_reducible refine Calls.mono (KB.out _ hb) ?_; rintro e w1 ⟨rfl, hbn⟩; replace hC := hC.keep hbn; replace hD := hD.keep hbn; replace hb := bel_to hb hbn; clear hbn) | fail)
        go_roundw
        case rel => exact ⟨i + 1, xs, F, by go_num, by omega, by rw [HSP.out]; exact hC, hD, ap_CD, fun k h1 h2 => by rw [HFk.out k (by omega) h2, HTS.out k (by omega)], by omega, hb⟩
        case measure => simp [intOf]; omega
      cases hti : tkQ (relF P S) i i
      · have hin : inB' F (i : Int) = false := HF0.out.trans hti
        obtain ⟨al, hal, ea⟩ := ownF_ge (show 0 ≤ ownF P i by rw [HOA.out]; omega)
        obtain ⟨be, hbe, eb⟩ := ownF_ge (show 0 ≤ ownF S i by rw [HOB.out]; omega)
        have HCl : Hid ((row P al).filter (inB' (row S be)) = clsTo (relF P S) i N) := prod_cls HPA.out HSA.out hlt hal hbe hti
        have HS : Hid (ptnQ (relF P S) N (i + 1) = ptnQ (relF P S) N i ++ (if decide (1 < (clsTo (relF P S) i N).length) then [clsTo (relF P S) i N] else [])) := by
          show ptnQ (relF P S) N (i + 1) = _
          rw [ptn_succ]; unfold headQ; rw [hti]; rfl
        have HFN : Hid (∀ k, i + 1 ≤ k → k < N → inB' (F ++ clsTo (relF P S) i N) (k : Int) = tkQ (relF P S) (i + 1) k) := fun k h1 h2 => by
          rw [tk_succ, ← HFk.out k (by omega) h2, Bool.eq_iff_iff]
          unfold inB'
          simp only [decide_eq_true_eq, Bool.or_eq_true, Bool.and_eq_true, List.mem_append]
          constructor
          · rintro (h | h)
            · exact .inl h
            · rcases cls_mem.1 h with e | ⟨t, e, t1, t2, t3⟩
              · omega
              · have : t = k := by omega
                subst this; exact .inr ⟨t2, t3⟩
          · rintro (h | h)
            · exact .inl h
            · exact .inr (cls_mem.2 (.inr ⟨k, rfl, h2, h.1, h.2⟩))
        have hcN := cls_len (relF P S) i N
        have hc0 : 0 < (clsTo (relF P S) i N).length := by unfold clsTo; simp
        have HaE : Hid ((al : Int) = a) := by show (al : Int) = a; rw [← HOA.out, ea]
        have HbE : Hid ((be : Int) = b) := by show (be : Int) = b; rw [← HOB.out, eb]
        have hall1 : al < P.length := hal.1
        have hbll : be < S.length := hbe.1
        obtain rfl : (al : Int) = a := HaE.out
        obtain rfl : (be : Int) = b := HbE.out
        have hlA := HSP.out.2 al hall1
        have hlB := HSS.out.2 be hbll
        clear HOA HOB HF0 hal hbe ea eb HaE HbE q1 q2 HFk
        obtain ⟨bP, fP, rfl, hbP, hcP⟩ := hP.at_ (by omega)
        obtain ⟨bS, fS, rfl, hbS, hcS⟩ := hS.at_ (by omega)
        obtain ⟨o1, c1, h1w, r1w⟩ := hcP al hall1
        obtain ⟨o2, c2, h2w, r2w⟩ := hcS be hbll
        clear hcP hcS
        generalize hLA : row P al = LA at *
        generalize hLB : row S be = LB at *
        clear hLA hLB
        generalize ptnQ (relF P S) N i = Q at *
        generalize hcC : clsTo (relF P S) i N = C at *
        clear hcC
        go_wp2_with (first | (go_at_call 47; with_reducible refine Calls.mono (KA.out _ hb) ?_; rintro e w1 ⟨rfl, hbn⟩; replace hC := hC.keep hbn; replace hD := hD.keep hbn; replace hb := bel_to hb hbn; clear hbn) | (go_at_call 47; with_reducible refine Calls.mono (KB.out _ hb) ?_; rintro e w1 ⟨rfl, hbn⟩; replace hC := hC.keep hbn; replace hD := hD.keep hbn; replace hb := bel_to hb hbn; clear hbn) | (go_at_call 48; refine Calls.mono (Ans.eqb (c_l2Has _ _ _ _ _ (hD.ints rfl hFR)) hin) ?_; rintro e w1 ⟨rfl, hbn⟩; replace hC := hC.keep hbn; replace hD := hD.keep hbn; replace hb := bel_to hb hbn; clear hbn) | fail)
        have hI0 := OwnI.empty w1 _ (Nat.le_refl _)
        have ap_CI := hC.fresh hI0
        have ap_DI := apart_old hD hI0
        have hI := hI0.based hb.size
        replace hC := hC.keep ((Below.refl w1.heap.size w1).alloc (Nat.le_refl _) (.cells #[] 3))
        replace hD := hD.keep ((Below.refl w1.heap.size w1).alloc (Nat.le_refl _) (.cells #[] 3))
        replace hb := hb.alloc hb.size (.cells #[] 3)
        clear hI0 KA KB
        go_loopw [12, 13] (fun vI j wr => ∃ t : Nat, j = .int .i64 t ∧ t ≤ LA.length ∧ OwnI wr w.heap.size vI ((LA.take t).filter (inB' LB)) ∧ OwnRows wr w.heap.size u7 xs Q ∧ OwnI wr w.heap.size (.slice oD F.length cD) F ∧ ApartR u7 xs (.slice oD F.length cD) ∧ ApartR u7 xs vI ∧ Apart (.slice oD F.length cD) vI ∧ Below w.heap.size w wr) (fun _ j _ => LA.length - (intOf j).toNat)
        case atStart => exact ⟨0, rfl, Nat.zero_le _, by rw [List.take_zero]; exact hI, hC, hD, ap_CD, ap_CI, ap_DI, hb⟩
        case round =>
          clear hC hD hI ap_CD ap_CI ap_DI hb
          obtain ⟨t, rfl, ht, hI, hC, hD, ap_CD, ap_CI, ap_DI, hb⟩ := hrel
          have h1 := cell_keep h1w hb
          have h2 := cell_keep h2w hb
          by_cases htl : t < LA.length
          · obtain ⟨b1, f1, ho, _, hc1⟩ := r1w.at_ (by omega)
            cases ho
            have q1 := cell_keep (hc1 t htl) hb
            have HFT : Hid ((LA.take (t + 1)).filter (inB' LB) = (LA.take t).filter (inB' LB) ++ (if inB' LB (nth LA t) then [nth LA t] else [])) := filter_take htl
            have hfl : ((LA.take t).filter (inB' LB)).length ≤ 100 := by
              have := List.length_filter_le (inB' LB) (LA.take t)
              rw [List.length_take] at this; omega
            generalize (LA.take t).filter (inB' LB) = G at *
            have r2 := r2w.keep hb
            have hx := fun (x : After wr) => r2.keep x.bel
            have keep3 : True := trivial
            clear hc1
            cases hin2 : inB' LB (nth LA t)
            · go_wp2_with fail
              (refine wp_region_after (by kernel_rfl) (by kernel_rfl) ?_; have q_h1 := fun (x : After _) => cell_keep h1 x.bel; have q_h2 := fun (x : After _) => cell_keep h2 x.bel; have q_q1 := fun (x : After _) => cell_keep q1 x.bel; (repeat (go_big_quiet_step ((first | (go_at_call 48; exact Ans.after (Ans.eqb (c_l2Has _ _ _ _ _ (hx _)) hin2)))))); clear q_h1; clear q_h2; clear q_q1; refine wpQuiet_nil ?_; rintro _ ⟨⟨w1, hbn⟩, rfl⟩; (try simp only [After.w]); replace h1 := cell_keep h1 hbn; replace h2 := cell_keep h2 hbn; replace q1 := cell_keep q1 hbn; replace hI := hI.keep hbn; replace hC := hC.keep hbn; replace hD := hD.keep hbn; replace hb := bel_to (w := w) (by first | exact hb | exact hb.alloc hb.size _ | exact (hb.alloc hb.size _).alloc (Nat.le_trans hb.size (by simp)) _ | exact hb.setCell (by simp [hb.size]) _) hbn; clear hbn)
              go_wp2
              go_roundw
              case rel => exact ⟨t + 1, by go_num, by omega, by rw [HFT.out, hin2]; simpa using hI, hC, hD, ap_CD, ap_CI, ap_DI, hb⟩
              case measure => simp [intOf]; omega
            · go_wp2_with fail
              (refine wp_region_after (by kernel_rfl) (by kernel_rfl) ?_; have q_h1 := fun (x : After _) => cell_keep h1 x.bel; have q_h2 := fun (x : After _) => cell_keep h2 x.bel; have q_q1 := fun (x : After _) => cell_keep q1 x.bel; (repeat (go_big_quiet_step ((first | (go_at_call 48; exact Ans.after (Ans.eqb (c_l2Has _ _ _ _ _ (hx _)) hin2)))))); clear q_h1; clear q_h2; clear q_q1; refine wpQuiet_nil ?_; rintro _ ⟨⟨w1, hbn⟩, rfl⟩; (try simp only [After.w]); replace h1 := cell_keep h1 hbn; replace h2 := cell_keep h2 hbn; replace q1 := cell_keep q1 hbn; replace hI := hI.keep hbn; replace hC := hC.keep hbn; replace hD := hD.keep hbn; replace hb := bel_to (w := w) (by first | exact hb | exact hb.alloc hb.size _ | exact (hb.alloc hb.size _).alloc (Nat.le_trans hb.size (by simp)) _ | exact hb.setCell (by simp [hb.size]) _) hbn; clear hbn)
              clear hx r2
              go_wp2_with (first | (at_builtin; refine wpList_append_fresh rfl _ _ 50 rfl w.heap.size 3 i0 (.int .i64 0) 1 8 Tryd.underlying50 hi hz0 hz1 hz2 rfl (by decide) _ _ _ rfl (World.ownsRow.alloc hI _) _ 1 1 [.int .i64 (nth LA t)] rfl rfl (by intro j u hj; match j, hj with | 0, hj => simp at hj; subst hj; simp [Addr.add]) (by intro u hu; simp at hu; subst hu; rfl) (by unfold maxLen; omega) (by omega) (by have := hb.size; simp; omega) ?_; intro v' w3 hown hgrow hfr; replace hb := (hb.alloc hb.size _).grown hgrow (by have := hb.size; simp; omega) (fun g hg => (World.ownsRow.lt hI g hg).1); obtain ⟨hC, ap_CI⟩ := OwnRows.past hC hgrow ap_CI hfr; obtain ⟨hD, ap_DI⟩ := OwnI.past hD hgrow ap_DI hfr; replace hI := OwnI.snoc hown; clear hown hgrow hfr) | fail)
              go_roundw
              case rel => exact ⟨t + 1, by go_num, by omega, by rw [HFT.out, hin2]; exact hI, hC, hD, ap_CD, ap_CI, ap_DI, hb⟩
              case measure => simp [intOf]; omega
          · have htt : t = LA.length := by omega
            have HCC : Hid ((LA.take t).filter (inB' LB) = C) := by show (LA.take t).filter (inB' LB) = C; rw [htt, List.take_length]; exact HCl.out
            clear htt
            rw [HCC.out] at hI
            obtain ⟨oL, cL, rfl⟩ := hI.shape
            obtain ⟨gL, rfl, hnews⟩ := hI.news hc0
            have hq : True := trivial
            by_cases h1c : 1 < C.length
            · have HSPC : Hid (ptnQ (relF P S) N (i + 1) = Q ++ [C]) := by show ptnQ (relF P S) N (i + 1) = _; rw [HS.out, decide_eq_true h1c]; rfl
              have hFCl : (F ++ C).length ≤ 100 * (i + 1) := by rw [List.length_append]; omega
              go_wp2_with (first | (clear hq; at_builtin; refine wpList_append_fresh rfl _ _ 50 rfl w.heap.size 3 i0 (.int .i64 0) 1 8 Tryd.underlying50 hi hz0 hz1 hz2 rfl (by decide) (.slice oD F.length cD) F.length (F.map encI) rfl (show _ from hD) _ C.length cL (C.map encI) rfl (by simp) hnews (ones' C) (by unfold maxLen; omega) (by omega) hb.size ?_; intro v'' w2 hown hgrow hfr; replace hb := hb.grown hgrow hb.size (fun g hg => (World.ownsRow.lt hD g hg).1); obtain ⟨hC, ap_CD⟩ := OwnRows.past0 hC hgrow ap_CD hfr; have ap_ID := Apart.next hI ap_DI.symm hfr; replace hI := OwnI.far hI hgrow ap_DI.symm; have hD2 := (show OwnI w2 w.heap.size v'' (F ++ C) from by unfold OwnI; rw [List.length_append, List.map_append]; exact hown); clear hown hgrow hfr hD hnews) | (at_builtin; refine wpList_append_fresh rfl _ _ 24 rfl w.heap.size 50 j0 (.slice none 0 0) 1 24 Tryd.underlying24 hj hy0 hy1 hy2 rfl (by decide) _ _ _ rfl (World.ownsRow.alloc hC.outer _) _ 1 1 [.slice (some ⟨gL, 0, none⟩) C.length cL] rfl rfl (by intro j u hj; match j, hj with | 0, hj => simp at hj; subst hj; simp [Addr.add]) (by intro u hu; simp at hu; subst hu; rfl) (by unfold maxLen; omega) (by omega) (by have := hb.size; simp; omega) ?_; intro v' w1 hown hgrow hfr; replace hb := (hb.alloc hb.size _).grown hgrow (by have := hb.size; simp; omega) (fun g hg => (World.ownsRow.lt hC.outer g hg).1); have hC2 := OwnRows.snoc hC hI ap_CI hown hgrow hfr; have apD := (OwnI.past hD2 hgrow ap_CD.1.symm hfr); replace hD2 := apD.1; have ap_CD2 := (show ApartR v' (xs ++ [.slice (some ⟨gL, 0, none⟩) C.length cL]) _ from ⟨apD.2.symm, fun y hy => by rcases List.mem_append.1 hy with h' | h'; exact ap_CD.2 y h'; (rw [List.mem_singleton.1 h']; exact ap_ID)⟩); clear apD; replace hC := hC2; clear hC2 hown hgrow hfr) | fail)
              go_roundw
              case rel => exact ⟨i + 1, _, F ++ C, by go_num, by omega, by rw [HSPC.out]; exact hC, hD2, ap_CD2, HFN.out, hFCl, hb⟩
              case measure => simp [intOf]; omega
            · have HSPC : Hid (ptnQ (relF P S) N (i + 1) = Q) := by show ptnQ (relF P S) N (i + 1) = _; rw [HS.out, decide_eq_false h1c]; simp
              have hFCl : (F ++ C).length ≤ 100 * (i + 1) := by rw [List.length_append]; omega
              go_wp2_with (first | (clear hq; at_builtin; refine wpList_append_fresh rfl _ _ 50 rfl w.heap.size 3 i0 (.int .i64 0) 1 8 Tryd.underlying50 hi hz0 hz1 hz2 rfl (by decide) (.slice oD F.length cD) F.length (F.map encI) rfl (show _ from hD) _ C.length cL (C.map encI) rfl (by simp) hnews (ones' C) (by unfold maxLen; omega) (by omega) hb.size ?_; intro v'' w2 hown hgrow hfr; replace hb := hb.grown hgrow hb.size (fun g hg => (World.ownsRow.lt hD g hg).1); obtain ⟨hC, ap_CD⟩ := OwnRows.past0 hC hgrow ap_CD hfr; have ap_ID := Apart.next hI ap_DI.symm hfr; replace hI := OwnI.far hI hgrow ap_DI.symm; have hD2 := (show OwnI w2 w.heap.size v'' (F ++ C) from by unfold OwnI; rw [List.length_append, List.map_append]; exact hown); clear hown hgrow hfr hD hnews) | fail)
              go_roundw
              case rel => exact ⟨i + 1, xs, F ++ C, by go_num, by omega, by rw [HSPC.out]; exact hC, hD2, ap_CD, HFN.out, hFCl, hb⟩
              case measure => simp [intOf]; omega
      · have hin : inB' F (i : Int) = true := HF0.out.trans hti
        have HSP : Hid (ptnQ (relF P S) N (i + 1) = ptnQ (relF P S) N i) := ptn_skip1 hti
        have HTS : Hid (∀ k, i + 1 ≤ k → tkQ (relF P S) i k = tkQ (relF P S) (i + 1) k) := fun k _ => (tk_taken HPR.out hlt hti k).symm
        generalize ptnQ (relF P S) N i = Q at *
        go_wp2_with (first | (go_at_call 47; with_reducible refine Calls.mono (KA.out _ hb) ?_; rintro e w1 ⟨rfl, hbn⟩; replace hC := hC.keep hbn; replace hD := hD.keep hbn; replace hb := bel_to hb hbn; clear hbn) | (go_at_call 47; with_reducible refine Calls.mono (KB.out _ hb) ?_; rintro e w1 ⟨rfl, hbn⟩; replace hC := hC.keep hbn; replace hD := hD.keep hbn; replace hb := bel_to hb hbn; clear hbn) | (go_at_call 48; refine Calls.mono (Ans.eqb (c_l2Has _ _ _ _ _ (hD.ints rfl hFR)) hin) ?_; rintro e w1 ⟨rfl, hbn⟩; replace hC := hC.keep hbn; replace hD := hD.keep hbn; replace hb := bel_to hb hbn; clear hbn) | fail)
        go_roundw
        case rel => exact ⟨i + 1, xs, F, by go_num, by omega, by rw [HSP.out]; exact hC, hD, ap_CD, fun k h1 h2 => by rw [HFk.out k (by omega) h2, HTS.out k (by omega)], by omega, hb⟩
        case measure => simp [intOf]; omega
    · have hkk : i = N := by omega
      have HK : Hid (i = N) := hkk
      clear hkk
      go_wp2
      go_ret
      exact ⟨_, _, rfl, by rw [HM.out]; rw [HK.out] at hC; exact hC, hb⟩
end Go.Proofs.YtcenndlbhgfdfaaDoor
namespace Go.Proofs.YtcenndlbhgfdfaaDoor
open Go.RowKit
set_option linter.unusedVariables false
set_option maxRecDepth 100000

theorem rel_eq {P S : List (List Int)} {i k : Nat} {a b c d : Int} (h1 : ownF P i = a) (h2 : ownF S i = b) (h3 : ownF P k = c) (h4 : ownF S k = d) : relF P S i k = ((decide (0 ≤ a) && decide (0 ≤ b)) && ((a == c) && (b == d))) := by unfold relF; rw [h1, h2, h3, h4]
set_option maxHeartbeats 1600000 in
theorem c_clP (oa ob) (ca cb : Nat) (P S : List (List Int)) (i k : Nat) (X Y : Nat) (w : World) (hP : RowsAt w oa P) (hS : RowsAt w ob S)
    (m0 : w.cell? ⟨X, 0, none⟩ = some (.slice oa P.length ca)) (s0 : w.cell? ⟨Y, 0, none⟩ = some (.slice ob S.length cb)) :
    Ans Tryd.prog 41 #[.int .i64 i, .int .i64 k, .pointer (some ⟨X, 0, none⟩), .pointer (some ⟨Y, 0, none⟩)] w (.bool (relF P S i k)) := by
  unfold Ans
  have hb := Below.refl w.heap.size w
  obtain ⟨a, ha⟩ : ∃ e, ownF P i = e := ⟨_, rfl⟩
  obtain ⟨b, hb1⟩ : ∃ e, ownF S i = e := ⟨_, rfl⟩
  obtain ⟨c, hc⟩ : ∃ e, ownF P k = e := ⟨_, rfl⟩
  obtain ⟨d, hd⟩ : ∃ e, ownF S k = e := ⟨_, rfl⟩
  have HV : Hid (relF P S i k = ((decide (0 ≤ a) && decide (0 ≤ b)) && ((a == c) && (b == d)))) := rel_eq ha hb1 hc hd
  have HA : Hid (ownF P i = a) := ha
  have HB : Hid (ownF S i = b) := hb1
  have HC : Hid (ownF P k = c) := hc
  have HD : Hid (ownF S k = d) := hd
  clear ha hb1 hc hd
  have K1 : Hid (∀ x : After w, Ans Tryd.prog 42 #[.slice oa P.length ca, .int .i64 i] x.w (.int .i64 a)) := fun x => Ans.eqi' (c_ownerOf _ _ P _ _ (hP.keep x.bel)) HA.out
  have K2 : Hid (∀ x : After w, Ans Tryd.prog 42 #[.slice ob S.length cb, .int .i64 i] x.w (.int .i64 b)) := fun x => Ans.eqi' (c_ownerOf _ _ S _ _ (hS.keep x.bel)) HB.out
  have K3 : Hid (∀ W, Below w.heap.size w W → Calls Tryd.prog 42 #[.slice oa P.length ca, .int .i64 k] W fun e w' => e = .returned (.int .i64 c) ∧ Below W.heap.size W w') := fun W hB => Ans.eqi' (c_ownerOf _ _ P _ _ (hP.keep hB)) HC.out
  have K4 : Hid (∀ W, Below w.heap.size w W → Calls Tryd.prog 42 #[.slice ob S.length cb, .int .i64 k] W fun e w' => e = .returned (.int .i64 d) ∧ Below W.heap.size W w') := fun W hB => Ans.eqi' (c_ownerOf _ _ S _ _ (hS.keep hB)) HD.out
  clear HA HB HC HD hP hS
  generalize P.length = lp at *
  generalize S.length = ls at *
  by_cases q1 : 0 ≤ a
  · by_cases q2 : 0 ≤ b
    · by_cases q3 : a = c
      · have e3 : (a == c) = true := by rw [beq_iff_eq]; exact q3
        have H3 : Hid (a = c) := q3
        clear q3
        by_cases q4 : b = d
        · have e4 : (b == d) = true := by rw [beq_iff_eq]; exact q4
          have H4 : Hid (b = d) := q4
          clear q4
          go_enter Tryd.func41, Tryd.ntmps41
          go_wp2_with fail
          (refine wp_region_after (by kernel_rfl) (by kernel_rfl) ?_; have q_m0 := fun (x : After _) => cell_keep m0 x.bel; have q_s0 := fun (x : After _) => cell_keep s0 x.bel; (repeat (go_big_quiet_step ((first | (go_at_call 42; with_reducible exact Ans.after (K1.out _)) | (go_at_call 42; with_reducible exact Ans.after (K2.out _)))))); clear q_m0; clear q_s0; refine wpQuiet_nil ?_; rintro _ ⟨⟨w1, hbn⟩, rfl⟩; (try simp only [After.w]); replace m0 := cell_keep m0 hbn; replace s0 := cell_keep s0 hbn; replace hb := bel_to (w := w) (by first | exact hb | exact hb.alloc hb.size _ | exact (hb.alloc hb.size _).alloc (Nat.le_trans hb.size (by simp)) _ | exact hb.setCell (by simp [hb.size]) _) hbn; clear hbn)
          go_wp2_with (first | (go_at_call 42; with_reducible refine Calls.mono (K3.out _ hb) ?_; rintro e w1 ⟨rfl, hbn⟩; replace m0 := cell_keep m0 hbn; replace s0 := cell_keep s0 hbn; replace hb := bel_to hb hbn; clear hbn) | (go_at_call 42; with_reducible refine Calls.mono (K4.out _ hb) ?_; rintro e w1 ⟨rfl, hbn⟩; replace m0 := cell_keep m0 hbn; replace s0 := cell_keep s0 hbn; replace hb := bel_to hb hbn; clear hbn) | fail)
          go_ret
          exact ⟨ret_bool (by rw [HV.out]; simp [q1, q2, e3, e4]), hb⟩
        · have e4 : (b == d) = false := by rw [beq_eq_false_iff_ne]; exact q4
          have H4 : Hid (b ≠ d) := q4
          clear q4
          go_enter Tryd.func41, Tryd.ntmps41
          go_wp2_with fail
          (refine wp_region_after (by kernel_rfl) (by kernel_rfl) ?_; have q_m0 := fun (x : After _) => cell_keep m0 x.bel; have q_s0 := fun (x : After _) => cell_keep s0 x.bel; (repeat (go_big_quiet_step ((first | (go_at_call 42; with_reducible exact Ans.after (K1.out _)) | (go_at_call 42; with_reducible exact Ans.after (K2.out _)))))); clear q_m0; clear q_s0; refine wpQuiet_nil ?_; rintro _ ⟨⟨w1, hbn⟩, rfl⟩; (try simp only [After.w]); replace m0 := cell_keep m0 hbn; replace s0 := cell_keep s0 hbn; replace hb := bel_to (w := w) (by first | exact hb | exact hb.alloc hb.size _ | exact (hb.alloc hb.size _).alloc (Nat.le_trans hb.size (by simp)) _ | exact hb.setCell (by simp [hb.size]) _) hbn; clear hbn)
          go_wp2_with (first | (go_at_call 42; with_reducible refine Calls.mono (K3.out _ hb) ?_; rintro e w1 ⟨rfl, hbn⟩; replace m0 := cell_keep m0 hbn; replace s0 := cell_keep s0 hbn; replace hb := bel_to hb hbn; clear hbn) | (go_at_call 42; with_reducible refine Calls.mono (K4.out _ hb) ?_; rintro e w1 ⟨rfl, hbn⟩; replace m0 := cell_keep m0 hbn; replace s0 := cell_keep s0 hbn; replace hb := bel_to hb hbn; clear hbn) | fail)
          go_ret
          exact ⟨ret_bool (by rw [HV.out]; simp [e4]), hb⟩
      · have e3 : (a == c) = false := by rw [beq_eq_false_iff_ne]; exact q3
        have H3 : Hid (a ≠ c) := q3
        clear q3
        go_enter Tryd.func41, Tryd.ntmps41
        go_wp2_with fail
        (refine wp_region_after (by kernel_rfl) (by kernel_rfl) ?_; have q_m0 := fun (x : After _) => cell_keep m0 x.bel; have q_s0 := fun (x : After _) => cell_keep s0 x.bel; (repeat (go_big_quiet_step ((first | (go_at_call 42; with_reducible exact Ans.after (K1.out _)) | (go_at_call 42; with_reducible exact Ans.after (K2.out _)))))); clear q_m0; clear q_s0; refine wpQuiet_nil ?_; rintro _ ⟨⟨w1, hbn⟩, rfl⟩; (try simp only [After.w]); replace m0 := cell_keep m0 hbn; replace s0 := cell_keep s0 hbn; replace hb := bel_to (w := w) (by first | exact hb | exact hb.alloc hb.size _ | exact (hb.alloc hb.size _).alloc (Nat.le_trans hb.size (by simp)) _ | exact hb.setCell (by simp [hb.size]) _) hbn; clear hbn)
        go_wp2_with (first | (go_at_call 42; with_reducible refine Calls.mono (K3.out _ hb) ?_; rintro e w1 ⟨rfl, hbn⟩; replace m0 := cell_keep m0 hbn; replace s0 := cell_keep s0 hbn; replace hb := bel_to hb hbn; clear hbn) | fail)
        go_ret
        exact ⟨ret_bool (by rw [HV.out]; simp [e3]), hb⟩
    · have H2 : Hid (decide (0 ≤ b) = false) := decide_eq_false q2
      go_enter Tryd.func41, Tryd.ntmps41
      go_wp2_with fail
      (refine wp_region_after (by kernel_rfl) (by kernel_rfl) ?_; have q_m0 := fun (x : After _) => cell_keep m0 x.bel; have q_s0 := fun (x : After _) => cell_keep s0 x.bel; (repeat (go_big_quiet_step ((first | (go_at_call 42; with_reducible exact Ans.after (K1.out _)) | (go_at_call 42; with_reducible exact Ans.after (K2.out _)))))); clear q_m0; clear q_s0; refine wpQuiet_nil ?_; rintro _ ⟨⟨w1, hbn⟩, rfl⟩; (try simp only [After.w]); replace m0 := cell_keep m0 hbn; replace s0 := cell_keep s0 hbn; replace hb := bel_to (w := w) (by first | exact hb | exact hb.alloc hb.size _ | exact (hb.alloc hb.size _).alloc (Nat.le_trans hb.size (by simp)) _ | exact hb.setCell (by simp [hb.size]) _) hbn; clear hbn)
      go_wp2_with (first | fail)
      go_ret
      exact ⟨ret_bool (by rw [HV.out]; rw [H2.out]; simp), hb⟩
  · have H1 : Hid (decide (0 ≤ a) = false) := decide_eq_false q1
    go_enter Tryd.func41, Tryd.ntmps41
    go_wp2_with fail
    (refine wp_region_after (by kernel_rfl) (by kernel_rfl) ?_; have q_m0 := fun (x : After _) => cell_keep m0 x.bel; have q_s0 := fun (x : After _) => cell_keep s0 x.bel; (repeat (go_big_quiet_step ((first | (go_at_call 42; with_reducible exact Ans.after (K1.out _)) | (go_at_call 42; with_reducible exact Ans.after (K2.out _)))))); clear q_m0; clear q_s0; refine wpQuiet_nil ?_; rintro _ ⟨⟨w1, hbn⟩, rfl⟩; (try simp only [After.w]); replace m0 := cell_keep m0 hbn; replace s0 := cell_keep s0 hbn; replace hb := bel_to (w := w) (by first | exact hb | exact hb.alloc hb.size _ | exact (hb.alloc hb.size _).alloc (Nat.le_trans hb.size (by simp)) _ | exact hb.setCell (by simp [hb.size]) _) hbn; clear hbn)
    go_wp2_with (first | fail)
    go_ret
    exact ⟨ret_bool (by rw [HV.out]; rw [H1.out]; simp), hb⟩

set_option maxHeartbeats 3200000 in
theorem c_classesOf_P (N : Nat) (hN : N ≤ 40) (e0 e1 : Value) (q : Nat → Nat → Bool) (hp : Per q N) (w : World)
    (hcl : ∀ (W : World) (i k : Nat), i < k → k < N → Below w.heap.size w W → Ans Tryd.prog 41 #[.int .i64 i, .int .i64 k, e0, e1] W (.bool (q i k))) :
    Calls Tryd.prog 29 #[.int .i64 N, .func (.func 41) #[] #[e0, e1]] w fun e w' => ∃ v xs, e = .returned v ∧ OwnRows w' w.heap.size v xs (ptnQ q N N) ∧ Below w.heap.size w w' := by
  obtain ⟨i0, hi, hz0, hz1, hz2⟩ := info_parts info_int
  obtain ⟨j0, hj, hy0, hy1, hy2⟩ := info_parts info_ints
  obtain ⟨b0, hbo, hx0, hx1, hx2⟩ := info_parts info_bool
  have hb := (Below.refl w.heap.size w).alloc (Nat.le_refl _) (.cells #[] 50)
  have hC := OwnRows.empty w w.heap.size (Nat.le_refl _)
  have HQ : Hid (∀ (W : World) (i k : Nat), i < k → k < N → Below w.heap.size w W → Ans Tryd.prog 41 #[.int .i64 i, .int .i64 k, e0, e1] W (.bool (q i k))) := hcl
  have HP : Hid (Per q N) := hp
  clear hcl hp
  go_enter Tryd.func29, Tryd.ntmps29
  have oldC := hC
  go_wp2_with (first | (at_make; refine wpList_make_full _ rfl _ _ 67 rfl (w.heap.size + 1) 4 b0 (.bool false) 1 Tryd.underlying67 hbo hx0 hx1 .i64 .i64 _ _ N rfl rfl rfl rfl (by rw [hx2]; omega) (by unfold maxLen; omega) (by simp) ?_; intro w1 hown hgrow))
  have hT := ownB_made hown
  have ap_CT : ApartR (.slice (some ⟨w.heap.size, 0, none⟩) 0 0) [] (.slice (some ⟨w.heap.size + 1, 0, none⟩) N N) := ⟨.inr (by simp [Value.ownBlock]), fun y hy => by cases hy⟩
  have hbg : Below (w.alloc (.cells #[] 50)).heap.size (w.alloc (.cells #[] 50)) w1 := below_grown hgrow (Nat.le_refl _) (by simp)
  replace hC := hC.keep hbg
  replace hb := bel_to hb hbg
  replace hT : OwnB w1 w.heap.size (.slice (some ⟨w.heap.size + 1, 0, none⟩) N N) (List.replicate N false) := OwnB.based (by simpa only [World.size_alloc] using hT) (Nat.le_succ w.heap.size)
  clear hown hgrow hbg hbo hx0 hx1 hx2 b0 oldC
  go_loopw [5, 7] (fun vC i wr => ∃ (i' : Nat) (xs : List Value) (T : List Bool), i = .int .i64 i' ∧ i' ≤ N ∧ OwnRows wr w.heap.size vC xs (ptnQ q N i') ∧ T.length = N ∧ (∀ k, i' ≤ k → k < N → bth T k = tkQ q i' k) ∧ OwnB wr w.heap.size (.slice (some ⟨w.heap.size + 1, 0, none⟩) N N) T ∧ ApartR vC xs (.slice (some ⟨w.heap.size + 1, 0, none⟩) N N) ∧ Below w.heap.size w wr) (fun _ i _ => N - (intOf i).toNat)
  case atStart => exact ⟨0, [], List.replicate N false, rfl, Nat.zero_le _, hC, by simp, fun k _ _ => by rw [bth_replicate]; simp [tkQ], hT, ap_CT, hb⟩
  case round =>
    clear hC hT ap_CT hb
    obtain ⟨i, xs, T, rfl, hi', hC, hTl, hTk, hT, ap_CT, hb⟩ := hrel
    have HTl : Hid (T.length = N) := hTl
    have HTk : Hid (∀ k, i ≤ k → k < N → bth T k = tkQ q i k) := hTk
    have hpl := ptn_len q N i
    have hxl := hC.len
    have hxs : xs.length ≤ 40 := by omega
    clear hTl hTk
    by_cases hlt : i < N
    · have hc1 := hT.cell HTl.out.symm i hlt
      have hc6 := hc1.1
      have hc7 := hc1.2
      have HTi : Hid (bth T i = tkQ q i i) := HTk.out i (Nat.le_refl _) hlt
      clear hc1 hxl
      cases hti : tkQ q i i
      · have HS : Hid (ptnQ q N (i + 1) = ptnQ q N i ++ (if decide (1 < (clsTo q i N).length) then [clsTo q i N] else [])) := by
          show ptnQ q N (i + 1) = _
          rw [ptn_succ]; unfold headQ; rw [hti]; rfl
        have HF : Hid (clsTo q i (i + 1) = [(i : Int)]) := cls_first q i
        generalize ptnQ q N i = P at *
        rw [HTi.out, hti] at hc6
        have hI := OwnI.single wr w.heap.size hb.size (i : Int)
        have hIf := OwnI.single wr wr.heap.size (Nat.le_refl _) (i : Int)
        have ap_CI := hC.fresh hIf
        have ap_TI := apart_old hT hIf
        replace hC := hC.keep ((Below.refl wr.heap.size wr).alloc (Nat.le_refl _) (.cells #[.int .i64 (i : Int)] 3))
        replace hT := hT.keep ((Below.refl wr.heap.size wr).alloc (Nat.le_refl _) (.cells #[.int .i64 (i : Int)] 3))
        replace hb := hb.alloc hb.size (.cells #[.int .i64 (i : Int)] 3)
        clear hIf
        go_wp2
        go_loopw [8, 9] (fun vI k' wr => ∃ (k : Nat) (T : List Bool), k' = .int .i64 k ∧ i < k ∧ k ≤ N ∧ OwnI wr w.heap.size vI (clsTo q i k) ∧ OwnRows wr w.heap.size u5 xs P ∧ T.length = N ∧ (∀ t, i < t → t < N → bth T t = if t < k then tkQ q (i + 1) t else tkQ q i t) ∧ OwnB wr w.heap.size (.slice (some ⟨w.heap.size + 1, 0, none⟩) N N) T ∧ ApartR u5 xs (.slice (some ⟨w.heap.size + 1, 0, none⟩) N N) ∧ ApartR u5 xs vI ∧ Apart (.slice (some ⟨w.heap.size + 1, 0, none⟩) N N) vI ∧ Below w.heap.size w wr) (fun _ k _ => N - (intOf k).toNat)
        case atStart => exact ⟨i + 1, T, by go_num, by omega, by omega, by rw [HF.out]; exact hI, hC, HTl.out, fun t h1 h2 => by rw [HTk.out t (by omega) h2, if_neg (by omega)], hT, ap_CT, ap_CI, ap_TI, hb⟩
        case round =>
          clear hC hT hI ap_CT ap_CI ap_TI hb hc6 hc7 HTl HTk HTi HF
          obtain ⟨k, T, rfl, hik, hk, hI, hC, hTl, hTk, hT, ap_CT, ap_CI, ap_TI, hb⟩ := hrel
          have HTl : Hid (T.length = N) := hTl
          have HTk : Hid (∀ t, i < t → t < N → bth T t = if t < k then tkQ q (i + 1) t else tkQ q i t) := hTk
          have hcl := cls_len q i k
          clear hTl hTk
          by_cases hlk : k < N
          · have HCS : Hid (clsTo q i (k + 1) = clsTo q i k ++ (if q i k then [(k : Int)] else [])) := by
              show clsTo q i (k + 1) = _
              rw [cls_succ, decide_eq_true hik]; rfl
            have hc1 := hT.cell HTl.out.symm k hlk
            have hc6 := hc1.1
            have hc7 := hc1.2
            have HTi : Hid (bth T k = tkQ q i k) := by show bth T k = _; rw [HTk.out k hik hlk, if_neg (by omega)]
            have HSk : Hid (tkQ q (i + 1) k = (tkQ q i k || q i k)) := by show tkQ q (i + 1) k = _; rw [tk_succ, decide_eq_true hik]; rfl
            clear hc1
            generalize clsTo q i k = L at *
            cases hqk : q i k
            · have HN : Hid (∀ t, i < t → t < N → bth T t = if t < k + 1 then tkQ q (i + 1) t else tkQ q i t) := fun t h1 h2 => by
                rw [HTk.out t h1 h2]
                by_cases e : t = k
                · subst e; rw [if_neg (by omega), if_pos (by omega), HSk.out, hqk, Bool.or_false]
                · by_cases h' : t < k
                  · rw [if_pos h', if_pos (by omega)]
                  · rw [if_neg h', if_neg (by omega)]
              cases htk : tkQ q i k
              · rw [HTi.out, htk] at hc6
                go_wp2_with (first | (go_at_call 41; refine Calls.mono (Ans.eqb (HQ.out _ i k hik hlk hb) hqk) ?_; rintro e w1 ⟨rfl, hbn⟩; replace hT := hT.keep hbn; replace hC := hC.keep hbn; replace hI := hI.keep hbn; replace hb := bel_to hb hbn; clear hbn) | fail)
                go_roundw
                case rel => exact ⟨k + 1, T, by go_num, by omega, by omega, by rw [HCS.out, hqk]; simpa using hI, hC, HTl.out, HN.out, hT, ap_CT, ap_CI, ap_TI, hb⟩
                case measure => simp [intOf]; omega
              · rw [HTi.out, htk] at hc6
                go_wp2_with (first | (go_at_call 41; refine Calls.mono (Ans.eqb (HQ.out _ i k hik hlk hb) hqk) ?_; rintro e w1 ⟨rfl, hbn⟩; replace hT := hT.keep hbn; replace hC := hC.keep hbn; replace hI := hI.keep hbn; replace hb := bel_to hb hbn; clear hbn) | fail)
                go_roundw
                case rel => exact ⟨k + 1, T, by go_num, by omega, by omega, by rw [HCS.out, hqk]; simpa using hI, hC, HTl.out, HN.out, hT, ap_CT, ap_CI, ap_TI, hb⟩
                case measure => simp [intOf]; omega
            · have htk : tkQ q i k = false := tk_free HP.out hlt hti hqk
              have HN : Hid (∀ t, i < t → t < N → bth (T.set k true) t = if t < k + 1 then tkQ q (i + 1) t else tkQ q i t) := fun t h1 h2 => by
                rw [bth_set (by have := HTl.out; omega)]
                by_cases e : t = k
                · subst e; rw [if_pos rfl, if_pos (by omega), HSk.out, hqk, Bool.or_true]
                · rw [if_neg e, HTk.out t h1 h2]
                  by_cases h' : t < k
                  · rw [if_pos h', if_pos (by omega)]
                  · rw [if_neg h', if_neg (by omega)]
              rw [HTi.out, htk] at hc6
              have HT2 : Hid ((T.set k true).length = N) := by show (T.set k true).length = N; rw [List.length_set]; exact HTl.out
              go_wp2_with (first | (go_at_call 41; refine Calls.mono (Ans.eqb (HQ.out _ i k hik hlk hb) hqk) ?_; rintro e w1 ⟨rfl, hbn⟩; replace hT := hT.keep hbn; replace hC := hC.keep hbn; replace hI := hI.keep hbn; replace hc6 := cell_keep hc6 hbn; replace hc7 := (hT.cell HTl.out.symm k hlk).2; replace hb := bel_to hb hbn; clear hbn) | (at_builtin; have hI' := OwnI.far (v' := .slice (some ⟨w.heap.size + 1, 0, none⟩) N N) hI (grown_set w1 (w.heap.size + 1) k (.bool true)) ap_TI.symm; have hC' := OwnRows.far (u := .slice (some ⟨w.heap.size + 1, 0, none⟩) N N) hC (grown_set w1 (w.heap.size + 1) k (.bool true)) ap_CT; have hT' := hT.store HTl.out.symm k true; have hb' := Below.setCell (p := (⟨w.heap.size + 1, k, none⟩ : Addr)) hb (Nat.le_succ _) (.bool true); refine wpList_append_fresh rfl _ _ 50 rfl w.heap.size 3 i0 (.int .i64 0) 1 8 Tryd.underlying50 hi hz0 hz1 hz2 rfl (by decide) _ _ _ rfl (World.ownsRow.alloc hI' _) _ 1 1 [.int .i64 (k : Int)] rfl rfl (World.news_of_block (cs := #[.int .i64 (k : Int)]) (t := 3) (fr := (0, 0)) (by have h9 := heap_alloc_new (w1.setCell ⟨w.heap.size + 1, k, none⟩ (.bool true)) (.cells #[.int .i64 (k : Int)] 3); simpa using h9)) (by intro u hu; simp at hu; subst hu; rfl) (by unfold maxLen; omega) (by omega) (by have := hb.size; simp; omega) ?_; intro v' w1 hown hgrow hfr; replace hb := (hb'.alloc (by have := hb.size; simp; omega) _).grown hgrow (by have := hb.size; simp; omega) (fun g hg => (World.ownsRow.lt hI' g hg).1); obtain ⟨hC, ap_CI⟩ := OwnRows.past hC' hgrow ap_CI hfr; obtain ⟨hT, ap_TI⟩ := OwnB.past hT' hgrow ap_TI hfr; replace hI := OwnI.snoc hown; clear hown hgrow hfr hI' hC' hT' hb') | fail)
              go_roundw
              case rel => exact ⟨k + 1, T.set k true, by go_num, by omega, by omega, by rw [HCS.out, hqk]; exact hI, hC, HT2.out, HN.out, hT, ap_CT, ap_CI, ap_TI, hb⟩
              case measure => simp [intOf]; omega
          · have hkk : k = N := by omega
            have HK : Hid (k = N) := hkk
            have HN : Hid (∀ t, i + 1 ≤ t → t < N → bth T t = tkQ q (i + 1) t) := fun t h1 h2 => by rw [HTk.out t (by omega) h2, if_pos (by omega)]
            have HCk : Hid (clsTo q i k = clsTo q i N) := by show clsTo q i k = clsTo q i N; rw [hkk]
            clear hkk
            rw [HCk.out] at hI
            have hcN := cls_len q i N
            generalize clsTo q i N = L at *
            obtain ⟨oL, cL, rfl⟩ := hI.shape
            by_cases h1 : 1 < L.length
            · have HSP : Hid (ptnQ q N (i + 1) = P ++ [L]) := by show ptnQ q N (i + 1) = _; rw [HS.out, decide_eq_true h1]; rfl
              have hxl2 := hC.len
              have hdec : decide ((1 : Int) < (L.length : Int)) = true := by simp; omega
              go_wp2_with (first | (at_builtin; refine wpList_append_fresh rfl _ _ 24 rfl w.heap.size 50 j0 (.slice none 0 0) 1 24 Tryd.underlying24 hj hy0 hy1 hy2 rfl (by decide) _ _ _ rfl (World.ownsRow.alloc hC.outer _) _ 1 1 [.slice oL L.length cL] rfl rfl (by intro j u hj; match j, hj with | 0, hj => simp at hj; subst hj; simp [Addr.add]) (by intro u hu; simp at hu; subst hu; rfl) (by unfold maxLen; omega) (by omega) (by have := hb.size; simp; omega) ?_; intro v' w1 hown hgrow hfr; replace hb := (hb.alloc hb.size _).grown hgrow (by have := hb.size; simp; omega) (fun g hg => (World.ownsRow.lt hC.outer g hg).1); have hC2 := OwnRows.snoc hC hI ap_CI hown hgrow hfr; have ap2 := (OwnB.past hT hgrow ap_CT.1.symm hfr); replace hT := ap2.1; have ap_CT2 := ap2.2.symm; clear ap2; replace hC := hC2; clear hC2 hown hgrow hfr) | fail)
              go_roundw
              case rel => exact ⟨i + 1, _, T, by go_num, by omega, by rw [HSP.out]; exact hC, HTl.out, HN.out, hT, ⟨ap_CT2, fun y hy => by rcases List.mem_append.1 hy with h' | h'; exact ap_CT.2 y h'; (rw [List.mem_singleton.1 h']; exact ap_TI.symm)⟩, hb⟩
              case measure => simp [intOf]; omega
            · have HSP : Hid (ptnQ q N (i + 1) = P) := by show ptnQ q N (i + 1) = _; rw [HS.out, decide_eq_false h1]; simp
              go_wp2
              go_roundw
              case rel => exact ⟨i + 1, xs, T, by go_num, by omega, by rw [HSP.out]; exact hC, HTl.out, HN.out, hT, ap_CT, hb⟩
              case measure => simp [intOf]; omega
      · have HS : Hid (ptnQ q N (i + 1) = ptnQ q N i) := by
          show ptnQ q N (i + 1) = _
          rw [ptn_succ]; unfold headQ; rw [hti]; simp
        have HN : Hid (∀ t, i + 1 ≤ t → t < N → bth T t = tkQ q (i + 1) t) := fun t h1 h2 => by rw [HTk.out t (by omega) h2, tk_taken HP.out hlt hti]
        rw [HTi.out, hti] at hc6
        go_wp2
        go_roundw
        case rel => exact ⟨i + 1, xs, T, by go_num, by omega, by rw [HS.out]; exact hC, HTl.out, HN.out, hT, ap_CT, hb⟩
        case measure => simp [intOf]; omega
    · have hkk : i = N := by omega
      have HK : Hid (i = N) := hkk
      clear hkk
      go_wp2
      go_ret
      exact ⟨_, _, rfl, by rw [← HK.out]; rw [HK.out] at hC ⊢; exact hC, hb⟩


set_option maxHeartbeats 1600000 in
theorem c_ProductOf (oa ob) (ca cb : Nat) (P S : List (List Int)) (N : Nat) (hN : N ≤ 40) (w : World) (hP : RowsAt w oa P) (hS : RowsAt w ob S) :
    Calls Tryd.prog 13 #[.slice oa P.length ca, .slice ob S.length cb, .int .i64 N] w fun e w' => ∃ v xs, e = .returned v ∧ OwnRows w' w.heap.size v xs (prodF P S N) ∧ Below w.heap.size w w' := by
  have hb := bel2 w (.cells #[.slice oa P.length ca] 24) (.cells #[.slice ob S.length cb] 24)
  have a0 := two_a w #[.slice oa P.length ca] 24 #[.slice ob S.length cb] 24 0 _ rfl
  have b0 := two_b w #[.slice oa P.length ca] 24 #[.slice ob S.length cb] 24 0 _ rfl
  cases h1 : isPtnF P N
  · have HM : Hid (prodF P S N = []) := by show prodF P S N = []; unfold prodF; rw [h1]; rfl
    have K1 : Hid (∀ W, Below w.heap.size w W → Calls Tryd.prog 17 #[.slice oa P.length ca, .int .i64 N] W fun e w' => e = .returned (.bool false) ∧ Below W.heap.size W w') := fun W hB => Ans.eqb (c_IsPartition _ _ P N hN _ (hP.keep hB)) h1
    go_enter Tryd.func13, Tryd.ntmps13
    go_wp2_with (first | (go_at_call 17; with_reducible refine Calls.mono (K1.out _ hb) ?_; rintro e w1 ⟨rfl, hbn⟩; replace a0 := cell_keep a0 hbn; replace b0 := cell_keep b0 hbn; replace hb := bel_to hb hbn; clear hbn) | fail)
    go_ret
    exact ⟨_, _, rfl, by rw [HM.out]; exact OwnRows.none _ _, hb⟩
  cases h2 : isPtnF S N
  · have HM : Hid (prodF P S N = []) := by show prodF P S N = []; unfold prodF; rw [h1, h2]; rfl
    have K1 : Hid (∀ W, Below w.heap.size w W → Calls Tryd.prog 17 #[.slice oa P.length ca, .int .i64 N] W fun e w' => e = .returned (.bool true) ∧ Below W.heap.size W w') := fun W hB => Ans.eqb (c_IsPartition _ _ P N hN _ (hP.keep hB)) h1
    have K2 : Hid (∀ W, Below w.heap.size w W → Calls Tryd.prog 17 #[.slice ob S.length cb, .int .i64 N] W fun e w' => e = .returned (.bool false) ∧ Below W.heap.size W w') := fun W hB => Ans.eqb (c_IsPartition _ _ S N hN _ (hS.keep hB)) h2
    generalize P.length = lp at *
    generalize S.length = ls at *
    go_enter Tryd.func13, Tryd.ntmps13
    go_wp2_with (first | (go_at_call 17; with_reducible refine Calls.mono (K1.out _ hb) ?_; rintro e w1 ⟨rfl, hbn⟩; replace a0 := cell_keep a0 hbn; replace b0 := cell_keep b0 hbn; replace hb := bel_to hb hbn; clear hbn) | (go_at_call 17; with_reducible refine Calls.mono (K2.out _ hb) ?_; rintro e w1 ⟨rfl, hbn⟩; replace a0 := cell_keep a0 hbn; replace b0 := cell_keep b0 hbn; replace hb := bel_to hb hbn; clear hbn) | fail)
    go_ret
    exact ⟨_, _, rfl, by rw [HM.out]; exact OwnRows.none _ _, hb⟩
  have HM : Hid (prodF P S N = ptnQ (relF P S) N N) := by show prodF P S N = _; unfold prodF; rw [h1, h2]; rfl
  have K1 : Hid (∀ W, Below w.heap.size w W → Calls Tryd.prog 17 #[.slice oa P.length ca, .int .i64 N] W fun e w' => e = .returned (.bool true) ∧ Below W.heap.size W w') := fun W hB => Ans.eqb (c_IsPartition _ _ P N hN _ (hP.keep hB)) h1
  have K2 : Hid (∀ W, Below w.heap.size w W → Calls Tryd.prog 17 #[.slice ob S.length cb, .int .i64 N] W fun e w' => e = .returned (.bool true) ∧ Below W.heap.size W w') := fun W hB => Ans.eqb (c_IsPartition _ _ S N hN _ (hS.keep hB)) h2
  go_enter Tryd.func13, Tryd.ntmps13
  go_wp2_with (first | (go_at_call 17; with_reducible refine Calls.mono (K1.out _ hb) ?_; rintro e w1 ⟨rfl, hbn⟩; replace a0 := cell_keep a0 hbn; replace b0 := cell_keep b0 hbn; replace hb := bel_to hb hbn; clear hbn) | (go_at_call 17; with_reducible refine Calls.mono (K2.out _ hb) ?_; rintro e w1 ⟨rfl, hbn⟩; replace a0 := cell_keep a0 hbn; replace b0 := cell_keep b0 hbn; replace hb := bel_to hb hbn; clear hbn) | fail)
  refine (c_classesOf_P N hN _ _ (relF P S) (rel_per P S N) _ ?_).mono ?_
  · intro W i k hik hk hB
    exact c_clP oa ob ca cb P S i k _ _ W ((hP.keep hb).keep hB) ((hS.keep hb).keep hB) (cell_keep a0 hB) (cell_keep b0 hB)
  rintro e w2 ⟨v2, xs, rfl, hO, hbn⟩
  replace hO := hO.based hb.size
  replace hb := bel_to hb hbn
  clear hbn
  go_wp2
  go_ret
  exact ⟨_, _, rfl, by rw [HM.out]; exact hO, hb⟩
end Go.Proofs.YtcenndlbhgfdfaaDoor
namespace Go.Proofs.YtcenndlbhgfdfaaDoor
open Go.RowKit
set_option linter.unusedVariables false
set_option maxRecDepth 100000

theorem ptnF_is {n : Int} {R : List (List Int)} {m s : Int} (h : ptnOk n R m s = true) : ptnF n R m s = ptnQ (sameB R m s) R.length R.length := by unfold ptnF; rw [if_pos h]
theorem ptnF_not {n : Int} {R : List (List Int)} {m s : Int} (h : ptnOk n R m s = false) : ptnF n R m s = [] := by unfold ptnF; rw [h]; rfl
set_option maxHeartbeats 800000 in
theorem c_specPartitionOf (n : Int) (oa) (cap : Nat) (R : List (List Int)) (m s : Int) (w : World) (hR : RowsAt w oa R) :
    Calls Tryd.prog 8 #[.agg #[.int .i64 n, .slice oa R.length cap], .int .i64 m, .int .i64 s] w fun e w' => ∃ v xs, e = .returned v ∧ OwnRows w' w.heap.size v xs (ptnF n R m s) ∧ Below w.heap.size w w' := by
  have hb := (Below.refl w.heap.size w).alloc (Nat.le_refl _) (.cells #[.int .i64 n, .slice oa R.length cap] 26)
  have a0 := box_at w #[.int .i64 n, .slice oa R.length cap] 26 0 _ rfl
  have a1 := box_at w #[.int .i64 n, .slice oa R.length cap] 26 1 _ rfl
  cases hf : (isTabF n R && modeF m)
  · have HM : Hid (ptnF n R m s = []) := ptnF_not (by unfold ptnOk; rw [hf]; rfl)
    go_enter Tryd.func8, Tryd.ntmps8
    go_wp2_with (first | (go_at_call 33; refine Calls.mono (Ans.eqb (c_l4Fine _ _ _ _ _ _ (hR.keep hb)) hf) ?_; rintro e w1 ⟨rfl, hbn⟩; replace a0 := cell_keep a0 hbn; replace a1 := cell_keep a1 hbn; replace hb := bel_to (w := w) (by first | exact hb | exact hb.alloc hb.size _ | exact (hb.alloc hb.size _).alloc (Nat.le_trans hb.size (by simp)) _ | exact hb.setCell (by simp [hb.size]) _) hbn; clear hbn))
    go_ret
    exact ⟨_, _, rfl, by rw [HM.out]; exact OwnRows.empty _ _ hb.size, hb.alloc hb.size _⟩
  cases h3 : isAttr n s
  · have HM : Hid (ptnF n R m s = []) := ptnF_not (by unfold ptnOk; rw [hf, h3]; rfl)
    go_enter Tryd.func8, Tryd.ntmps8
    go_wp2_with (first | (go_at_call 33; refine Calls.mono (Ans.eqb (c_l4Fine _ _ _ _ _ _ (hR.keep hb)) hf) ?_; rintro e w1 ⟨rfl, hbn⟩; replace a0 := cell_keep a0 hbn; replace a1 := cell_keep a1 hbn; replace hb := bel_to (w := w) (by first | exact hb | exact hb.alloc hb.size _ | exact (hb.alloc hb.size _).alloc (Nat.le_trans hb.size (by simp)) _ | exact hb.setCell (by simp [hb.size]) _) hbn; clear hbn) | (go_at_call 34; refine Calls.mono (Ans.eqb (c_specIsAttributes _ _ _) h3) ?_; rintro e w1 ⟨rfl, hbn⟩; replace a0 := cell_keep a0 hbn; replace a1 := cell_keep a1 hbn; replace hb := bel_to (w := w) (by first | exact hb | exact hb.alloc hb.size _ | exact (hb.alloc hb.size _).alloc (Nat.le_trans hb.size (by simp)) _ | exact hb.setCell (by simp [hb.size]) _) hbn; clear hbn))
    go_ret
    exact ⟨_, _, rfl, by rw [HM.out]; exact OwnRows.empty _ _ hb.size, hb.alloc hb.size _⟩
  have HM : Hid (ptnF n R m s = ptnQ (sameB R m s) R.length R.length) := ptnF_is (by unfold ptnOk; rw [hf, h3]; rfl)
  have ht : isTabF n R = true := by have := hf; simp only [Bool.and_eq_true] at this; exact this.1
  have HS : Hid (isTabF n R = true ∧ St s) := by
    refine ⟨ht, ?_⟩
    have h := h3
    unfold isAttr at h
    simp only [Bool.and_eq_true, decide_eq_true_eq] at h
    have hp := (pow_wrap (n := n) (by omega) (isTab_of ht).2.1).2.1
    exact ⟨h.1.2, by omega⟩
  clear ht
  go_enter Tryd.func8, Tryd.ntmps8
  go_wp2_with (first | (go_at_call 33; refine Calls.mono (Ans.eqb (c_l4Fine _ _ _ _ _ _ (hR.keep hb)) hf) ?_; rintro e w1 ⟨rfl, hbn⟩; replace a0 := cell_keep a0 hbn; replace a1 := cell_keep a1 hbn; replace hb := bel_to (w := w) (by first | exact hb | exact hb.alloc hb.size _ | exact (hb.alloc hb.size _).alloc (Nat.le_trans hb.size (by simp)) _ | exact hb.setCell (by simp [hb.size]) _) hbn; clear hbn) | (go_at_call 34; refine Calls.mono (Ans.eqb (c_specIsAttributes _ _ _) h3) ?_; rintro e w1 ⟨rfl, hbn⟩; replace a0 := cell_keep a0 hbn; replace a1 := cell_keep a1 hbn; replace hb := bel_to (w := w) (by first | exact hb | exact hb.alloc hb.size _ | exact (hb.alloc hb.size _).alloc (Nat.le_trans hb.size (by simp)) _ | exact hb.setCell (by simp [hb.size]) _) hbn; clear hbn))
  refine (c_l5Classes n _ _ R m s _ (hR.keep hb) HS.out.1 HS.out.2).mono ?_
  rintro e w2 ⟨v2, xs, rfl, hO, hbn⟩
  replace hO := hO.based hb.size
  replace hb := bel_to hb hbn
  clear hbn
  go_wp2
  go_ret
  exact ⟨_, _, rfl, by rw [HM.out]; exact hO, hb⟩
end Go.Proofs.YtcenndlbhgfdfaaDoor
namespace Go.Proofs.YtcenndlbhgfdfaaDoor
open Go.RowKit
set_option linter.unusedVariables false
set_option maxRecDepth 100000

/-- Block g is a cursor. -/
def Cur (w : World) (g : Nat) : Prop := ∃ (oa : Option Addr) (n cap i : Nat) (h : Int), Blk w g #[.slice oa n cap, .int .i64 i, .int .i64 h] 84 ∧ i ≤ n ∧ n ≤ 1048576 ∧ BytesAt w oa n ∧ (0 < n → ∀ a, oa = some a → a.block < g)
theorem Cur.lt {w : World} {g : Nat} (h : Cur w g) : g < w.heap.size := by obtain ⟨_, _, _, _, _, h, _⟩ := h; exact h.lt
theorem BytesAt.grown {w w' : World} {oa : Option Addr} {n : Nat} {row : Option Nat} (h : BytesAt w oa n) (hg : w.grownBy w' row) (hne : 0 < n → ∀ a, oa = some a → some a.block ≠ row) : BytesAt w' oa n :=
  ⟨fun h0 => by
    obtain ⟨b, off, e, hlt, hc⟩ := h.at_ h0
    exact ⟨b, off, e, Nat.lt_of_lt_of_le hlt hg.size, fun k hk => by rw [World.cell?_of_block (hg.block b hlt (hne h0 _ e))]; exact hc k hk⟩⟩
theorem Cur.keep {w w' : World} {g : Nat} (h : Cur w g) (hb : Below w.heap.size w w') : Cur w' g := by
  obtain ⟨oa, n, cap, i, x, h1, h2, h3, h4, h5⟩ := h
  exact ⟨oa, n, cap, i, x, h1.keep hb, h2, h3, h4.keep hb, h5⟩
theorem Blk.gr {a b : World} {g : Nat} {c : Array Value} {T : TypeId} {row : Option Nat} (h : Blk a g c T) (hg : a.grownBy b row) (hne : some g ≠ row) : Blk b g c T := (hg.block g h.lt hne).trans h
/-- What the call made behind the cursor may turn. -/
theorem Cur.grown {w w' : World} {g : Nat} {row : Option Nat} (h : Cur w g) (hg : w.grownBy w' row) (hr : ∀ k, row = some k → g < k) : Cur w' g := by
  obtain ⟨oa, n, cap, i, x, h1, h2, h3, h4, h5⟩ := h
  refine ⟨oa, n, cap, i, x, h1.gr hg (fun e => by have := hr g e.symm; omega), h2, h3, h4.grown hg (fun h0 a e e' => ?_), h5⟩
  have := h5 h0 a e
  have := hr _ e'.symm
  omega
theorem and255 (x : Int) : 0 ≤ bits BinOp.and .i64 x 255 ∧ bits BinOp.and .i64 x 255 < 256 := by
  unfold bits
  have h : ∀ b : BitVec 64, (b &&& BitVec.ofInt 64 255).toNat < 256 := fun b => by
    rw [BitVec.toNat_and]
    exact Nat.lt_of_le_of_lt Nat.and_le_right (by decide)
  have := h (BitVec.ofInt 64 x)
  have e : ∀ n : Nat, n < 256 → IntKind.i64.wrap (n : Int) = n := fun n hn => by
    unfold IntKind.wrap
    simp [IntKind.bits, IntKind.signed]
    omega
  show 0 ≤ IntKind.i64.wrap ((BitVec.ofInt 64 x &&& BitVec.ofInt 64 255).toNat : Int) ∧ IntKind.i64.wrap ((BitVec.ofInt 64 x &&& BitVec.ofInt 64 255).toNat : Int) < 256
  rw [e _ this]
  omega
set_option maxHeartbeats 800000 in
theorem c_l1Byte (g : Nat) (w : World) (hc : Cur w g) :
    Calls Tryd.prog 77 #[.pointer (some ⟨g, 0, none⟩)] w fun e w' => ∃ x : Int, e = .returned (.int .i64 x) ∧ 0 ≤ x ∧ x < 256 ∧ Cur w' g ∧ w.grownBy w' (some g) := by
  obtain ⟨oa, n, cap, i, h, k, hi, hn, hB, hlo⟩ := hc
  have k2 := k.cell 2 (.int .i64 h) rfl
  have f2 := k.free 2
  have HI : Hid (i ≤ n) := hi
  clear hi
  go_enter Tryd.func77, Tryd.ntmps77
  go_wp2_with fail
  have kk : Blk _ g #[.slice oa n cap, .int .i64 i, .int .i64 (wrap64 (wrap64 (h * 6364136223846793005) + 1442695040888963407))] 84 := k.set 2 (.int .i64 (wrap64 (wrap64 (h * 6364136223846793005) + 1442695040888963407)))
  have hg := grown_set w g 2 (.int .i64 (wrap64 (wrap64 (h * 6364136223846793005) + 1442695040888963407)))
  clear k k2 f2
  generalize wrap64 (wrap64 (h * 6364136223846793005) + 1442695040888963407) = h2 at *
  have s2 := kk.cell 2 (.int .i64 h2) rfl
  (refine wp_region_after (by kernel_rfl) (by kernel_rfl) ?_; have q_s2 := fun (x : After _) => cell_keep s2 x.bel; (repeat (go_big_quiet_step (fail))); clear q_s2; refine wpQuiet_nil ?_; rintro _ ⟨⟨w1, hbn⟩, rfl⟩; (try simp only [After.w]))
  replace kk := kk.keep hbn
  replace hg := grown_trans hg (grown_of_below hbn _)
  clear hbn s2
  have hx := and255 (bits BinOp.xor IntKind.i64 (h2 / 8589934592) (h2 / 35184372088832))
  generalize bits BinOp.and IntKind.i64 (bits BinOp.xor IntKind.i64 (h2 / 8589934592) (h2 / 35184372088832)) 255 = x at *
  obtain ⟨hx0, hx1⟩ := hx
  go_wp2_with fail
  have s0 := kk.cell 0 (.slice oa n cap) rfl
  have s1 := kk.cell 1 (.int .i64 i) rfl
  (refine wp_region_after (by kernel_rfl) (by kernel_rfl) ?_; have q_s0 := fun (x : After _) => cell_keep s0 x.bel; have q_s1 := fun (x : After _) => cell_keep s1 x.bel; (repeat (go_big_quiet_step (fail))); clear q_s0; clear q_s1; refine wpQuiet_nil ?_; rintro _ ⟨⟨w1, hbn⟩, rfl⟩; (try simp only [After.w]))
  replace kk := kk.keep hbn
  replace hg := grown_trans hg (grown_of_below hbn _)
  clear hbn s0 s1
  by_cases hlt : i < n
  · have hB' := hB.grown hg (fun h0 a e e' => by injection e' with e'; have := hlo h0 a e; omega)
    obtain ⟨b, off, rfl, hbs, hcell⟩ := hB'.at_ (by omega)
    obtain ⟨y, hy, hy0, hy1⟩ := hcell i hlt
    have s0 := kk.cell 0 (.slice (some ⟨b, off, none⟩) n cap) rfl
    have s1 := kk.cell 1 (.int .i64 i) rfl
    clear hcell
    go_wp2_with fail
    (refine wp_region_after (by kernel_rfl) (by kernel_rfl) ?_; have q_s0 := fun (x : After _) => cell_keep s0 x.bel; have q_s1 := fun (x : After _) => cell_keep s1 x.bel; have q_hy := fun (x : After _) => cell_keep hy x.bel; (repeat (go_big_quiet_step (fail))); clear q_s0; clear q_s1; clear q_hy; refine wpQuiet_nil ?_; rintro _ ⟨⟨w1, hbn⟩, rfl⟩; (try simp only [After.w]))
    replace kk := kk.keep hbn
    replace hg := grown_trans hg (grown_of_below hbn _)
    clear hbn s0 s1 hy
    have hz := and255 (x + y)
    generalize bits BinOp.and IntKind.i64 (x + y) 255 = z at *
    obtain ⟨hz0, hz1⟩ := hz
    have s1 := kk.cell 1 (.int .i64 i) rfl
    have f1 := kk.free 1
    have k2 : Blk _ g #[.slice (some ⟨b, off, none⟩) n cap, .int .i64 ((i : Int) + 1), .int .i64 h2] 84 := kk.set 1 (.int .i64 ((i : Int) + 1))
    have hg2 := grown_trans hg (grown_set _ g 1 (.int .i64 ((i : Int) + 1)))
    have hB2 := hB.grown hg2 (fun h0 a e e' => by injection e' with e'; have := hlo h0 a e; omega)
    clear hB' hg kk
    go_wp2
    go_ret
    exact ⟨z, rfl, hz0, hz1, ⟨_, n, cap, i + 1, h2, k2, by omega, hn, hB2, hlo⟩, hg2⟩
  · have HE : Hid (i = n) := by have := HI.out; show i = n; omega
    go_wp2
    go_ret
    exact ⟨x, rfl, hx0, hx1, ⟨oa, n, cap, i, h2, kk, HI.out, hn, hB.grown hg (fun h0 a e e' => by injection e' with e'; have := hlo h0 a e; omega), hlo⟩, hg⟩
end Go.Proofs.YtcenndlbhgfdfaaDoor
namespace Go.Proofs.YtcenndlbhgfdfaaDoor
open Go.RowKit
set_option linter.unusedVariables false
set_option maxRecDepth 100000

theorem tmod_in {x n : Int} (h0 : 0 ≤ x) (hn : 0 < n) : 0 ≤ x.tmod n ∧ x.tmod n < n := by
  rw [Int.tmod_eq_emod_of_nonneg h0]
  exact ⟨Int.emod_nonneg _ (by omega), Int.emod_lt_of_pos _ hn⟩
set_option maxHeartbeats 800000 in
theorem c_l1Below (g : Nat) (n : Int) (hn : n ≤ 256) (w : World) (hc : Cur w g) :
    Calls Tryd.prog 65 #[.pointer (some ⟨g, 0, none⟩), .int .i64 n] w fun e w' => ∃ x : Int, e = .returned (.int .i64 x) ∧ 0 ≤ x ∧ (0 < n → x < n) ∧ (n ≤ 0 → x = 0) ∧ Cur w' g ∧ w.grownBy w' (some g) := by
  by_cases h0 : n ≤ 0
  · go_enter Tryd.func65, Tryd.ntmps65
    go_wp2
    go_ret
    exact ⟨0, rfl, by omega, by omega, fun _ => rfl, hc, grown_refl _ _⟩
  · have hne : n ≠ 0 := by omega
    have hne1 : n ≠ -1 := by omega
    go_enter Tryd.func65, Tryd.ntmps65
    go_wp2_with fail
    refine (c_l1Byte g _ hc).mono ?_
    rintro e w1 ⟨x, rfl, hx0, hx1, hc1, hg⟩
    have hm0 := Int.emod_nonneg x hne
    have hm1 := Int.emod_lt_of_pos x (show 0 < n by omega)
    clear hc
    go_wp2
    go_ret
    exact ⟨x % n, rfl, hm0, fun _ => hm1, fun h => by omega, hc1, hg⟩
theorem c_l1Once (g : Nat) (n : Int) (hn : n ≤ 256) (w : World) (hc : Cur w g) :
    Calls Tryd.prog 66 #[.pointer (some ⟨g, 0, none⟩), .int .i64 n] w fun e w' => ∃ b : Bool, e = .returned (.bool b) ∧ Cur w' g ∧ w.grownBy w' (some g) := by
  go_enter Tryd.func66, Tryd.ntmps66
  go_wp2_with fail
  refine (c_l1Below g n hn _ hc).mono ?_
  rintro e w1 ⟨x, rfl, _, _, _, hc1, hg⟩
  clear hc
  go_wp2
  go_ret
  exact ⟨_, rfl, hc1, hg⟩
theorem IntsAt.grown {w w' : World} {oa : Option Addr} {L : List Int} {row : Option Nat} (h : IntsAt w oa L) (hg : w.grownBy w' row) (hne : ∀ a, oa = some a → some a.block ≠ row) : IntsAt w' oa L :=
  ⟨h.len, fun h0 => by
    obtain ⟨b, off, e, hlt, hc⟩ := h.at_ h0
    exact ⟨b, off, e, Nat.lt_of_lt_of_le hlt hg.size, fun k hk => by rw [World.cell?_of_block (hg.block b hlt (hne _ e))]; exact hc k hk⟩⟩
theorem c_l1PickInt (g : Nat) (oa) (cap : Nat) (L : List Int) (h0 : 0 < L.length) (hl : L.length ≤ 256) (w : World) (hc : Cur w g) (hL : IntsAt w oa L) (hne : ∀ a, oa = some a → a.block ≠ g) :
    Calls Tryd.prog 68 #[.pointer (some ⟨g, 0, none⟩), .slice oa L.length cap] w fun e w' => ∃ x : Int, e = .returned (.int .i64 x) ∧ x ∈ L ∧ Cur w' g ∧ w.grownBy w' (some g) := by
  go_enter Tryd.func68, Tryd.ntmps68
  go_wp2_with fail
  refine (c_l1Below g L.length (by omega) _ hc).mono ?_
  rintro e w1 ⟨x, rfl, hx0, hx1, _, hc1, hg⟩
  obtain ⟨k, rfl⟩ := Int.eq_ofNat_of_zero_le hx0
  have hk : k < L.length := by have := hx1 (by omega); omega
  replace hL := hL.grown hg (fun a e e' => hne a e (by injection e'))
  obtain ⟨b, off, rfl, hbs, hcell⟩ := hL.at_ (by omega)
  have h1 := hcell k hk
  have HM : Hid (nth L k ∈ L) := List.mem_iff_getElem?.2 ⟨k, nth_eq hk⟩
  clear hcell hx1 hc hne hL
  go_wp2
  go_ret
  exact ⟨_, rfl, HM.out, hc1, hg⟩
/-- A literal list of ints behind the cursor. -/
theorem lit_ints (w : World) (cs : Array Value) (L : List Int) (hl : L.length ≤ 100) (hcs : ∀ k, k < L.length → cs[k]? = some (.int .i64 (nth L k))) (T : TypeId) : IntsAt (w.alloc (.cells cs T)) (some ⟨w.heap.size, 0, none⟩) L :=
  ⟨by unfold Room; omega, fun _ => ⟨w.heap.size, 0, rfl, by simp, fun k hk => by rw [Nat.zero_add]; simp only [World.cell?, heap_alloc_new]; exact hcs k hk⟩⟩
theorem cur_alloc {w : World} {g : Nat} (h : Cur w g) (o : Obj) : Cur (w.alloc o) g := h.keep ((Below.refl _ _).alloc (Nat.le_refl _) o)
theorem grown_alloc {w w' : World} {row : Option Nat} {o : Obj} (h : (w.alloc o).grownBy w' row) : w.grownBy w' row := grown_trans (grown_of_below ((Below.refl _ _).alloc (Nat.le_refl _) o) row) h
theorem c_l2Any (g : Nat) (w : World) (hc : Cur w g) :
    Calls Tryd.prog 70 #[.pointer (some ⟨g, 0, none⟩)] w fun e w' => ∃ x : Int, e = .returned (.int .i64 x) ∧ -1 ≤ x ∧ x ≤ 33 ∧ Cur w' g ∧ w.grownBy w' (some g) := by
  go_enter Tryd.func70, Tryd.ntmps70
  go_wp2_with fail
  refine (c_l1Once g 8 (by omega) _ hc).mono ?_
  rintro e w1 ⟨t, rfl, hc1, hg⟩
  clear hc
  cases t
  · go_wp2_with fail
    refine (c_l1Below g 32 (by omega) _ hc1).mono ?_
    rintro e w2 ⟨x, rfl, hx0, hx1, _, hc2, hg2⟩
    have h32 := hx1 (by omega)
    replace hg := grown_trans hg hg2
    clear hc1 hg2 hx1
    go_wp2
    go_ret
    exact ⟨x, rfl, by omega, by omega, hc2, hg⟩
  · have hL := fun T => lit_ints w1 #[.int .i64 (-1), .int .i64 31, .int .i64 32, .int .i64 33] [-1, 31, 32, 33] (by simp) (fun k hk => by match k, hk with | 0, _ => rfl | 1, _ => rfl | 2, _ => rfl | 3, _ => rfl) T
    have hlt := hc1.lt
    go_wp2_with fail
    refine (c_l1PickInt g _ 4 [-1, 31, 32, 33] (by simp) (by simp) _ (cur_alloc hc1 _) (hL _) (fun a e => by injection e with e; subst e; simp; omega)).mono ?_
    rintro e w2 ⟨x, rfl, hx, hc2, hg2⟩
    replace hg := grown_trans hg (grown_alloc hg2)
    have hx2 : -1 ≤ x ∧ x ≤ 33 := by simp at hx; omega
    clear hc1 hg2 hL hx
    go_wp2
    go_ret
    exact ⟨x, rfl, hx2.1, hx2.2, hc2, hg⟩
end Go.Proofs.YtcenndlbhgfdfaaDoor
namespace Go.Proofs.YtcenndlbhgfdfaaDoor
open Go.RowKit
set_option linter.unusedVariables false
set_option maxRecDepth 100000

def bs (l : List UInt8) : ByteArray := ⟨l.toArray⟩
theorem bs_app (a b : List UInt8) : bs a ++ bs b = bs (a ++ b) := by
  apply ByteArray.ext
  simp [bs]
theorem bs_size (a : List UInt8) : (bs a).size = a.length := by simp [bs, ByteArray.size]
theorem bs_list (a : List UInt8) : (bs a).toList = a := by simp [bs]
def ltr (c : Int) : UInt8 := UInt8.ofNat (65 + c.toNat)
def ltrsTo (x : Int) (k : Nat) : List UInt8 := (membersUpTo x k).map ltr
def noneL : List UInt8 := [110, 111, 110, 101]
def fmtA (x : Int) : List UInt8 := if stB x then (if x = 0 then noneL else ltrsTo x 5) else []
theorem ltrs_succ (x : Int) (k : Nat) : ltrsTo x (k + 1) = ltrsTo x k ++ (if hasc x k then [ltr k] else []) := by
  unfold ltrsTo
  rw [membersUpTo_succ, List.map_append]
  split <;> rfl
theorem ltrs_len (x : Int) (k : Nat) : (ltrsTo x k).length ≤ k := by unfold ltrsTo; rw [List.length_map]; exact membersUpTo_le x k
theorem ltrs_nil {x : Int} (hx : St x) : (ltrsTo x 5 == []) = decide (x = 0) := by
  obtain ⟨n, hn, rfl⟩ := st_nat hx
  have h : ∀ n < 32, (ltrsTo (n : Nat) 5 == []) = decide (((n : Nat) : Int) = 0) := by decide +kernel
  exact h n hn
theorem emp_eq (l : List UInt8) : l.isEmpty = (l == []) := by cases l <;> rfl
theorem abc_at : ∀ k < 5, ((ByteArray.mk #[65, 66, 67, 68, 69]).extract k (k + 1)) = bs [ltr ((k : Nat) : Int)] := by
  intro k hk
  apply ByteArray.ext
  match k, hk with
  | 0, _ => rfl
  | 1, _ => rfl
  | 2, _ => rfl
  | 3, _ => rfl
  | 4, _ => rfl
theorem run_sadd {P : Program} (a b : List UInt8) (h : a.length + b.length ≤ 1000000000) (w : World) : (Op.stringOp .add (bs a) (bs b)).run P w = .ok (.string (bs (a ++ b))) w := by
  simp only [Op.stringOp, bs_size, bs_app]
  rw [if_neg (by unfold IntKind.max; simp [IntKind.bits, IntKind.signed]; omega)]
  rfl
theorem info_byte : (Tryd.prog.info? 5).map (fun i => (i.zero, i.size, i.bytes)) = some (some (.int .u8 0), 1, 1) := by kernel_rfl
def encU (c : UInt8) : Value := .int .u8 c.toNat
def OwnU (w : World) (base : Nat) (v : Value) (L : List UInt8) : Prop := w.ownsRow base 5 1 v L.length (L.map encU)
theorem OwnU.keep {w w' : World} {base : Nat} {v : Value} {L : List UInt8} (h : OwnU w base v L) (hb : Below w.heap.size w w') : OwnU w' base v L := owns_keep h hb
theorem OwnU.snoc {w : World} {base : Nat} {v : Value} {L : List UInt8} {x : UInt8} (h : w.ownsRow base 5 1 v (L.length + 1) (L.map encU ++ [encU x])) : OwnU w base v (L ++ [x]) := by
  unfold OwnU
  rw [List.length_append, List.map_append]
  exact h
theorem OwnU.empty (w : World) (base : Nat) (hb : base ≤ w.heap.size) : OwnU (w.alloc (.cells #[] 5)) base (.slice (some ⟨w.heap.size, 0, none⟩) 0 0) [] :=
  World.ownsRow_lit w #[] 0 hb (Nat.zero_le _) rfl
theorem OwnU.conv {w : World} {base : Nat} {v : Value} {L : List UInt8} (h : OwnU w base v L) : ∃ oa cap, v = .slice oa L.length cap ∧ ∀ dst, Tryd.prog.underlying dst = some .string → (convert 22 dst (.slice oa L.length cap)).run Tryd.prog w = .ok (.string (bs L)) w := by
  obtain ⟨oa, cap, rfl, hc⟩ := owns_cells h
  refine ⟨oa, cap, rfl, fun dst hd => ?_⟩
  by_cases h0 : 0 < L.length
  · obtain ⟨g, rfl, _, _, _, hcell, _⟩ := hc h0
    have := run_convert_bytes_arg (P := Tryd.prog) w 22 5 Tryd.underlying22 Tryd.underlying5 g 0 L.length cap (L.map fun x => (x.toNat : Int)) (by simp) (fun i hi => by
      rw [Nat.zero_add, hcell i (by omega), List.getElem?_map, List.getElem?_eq_getElem hi]
      simp [encU, List.getD, List.getElem?_map, List.getElem?_eq_getElem hi]) dst hd
    rw [this]
    congr 2
    unfold strOfNums bs
    congr 1
    rw [List.map_map]
    congr 1
    conv => rhs; rw [← List.map_id L]
    apply List.map_congr_left
    intro x _
    simp
  · have : L = [] := List.length_eq_zero_iff.1 (by omega)
    subst this
    rcases h.2 with ⟨e, _⟩ | ⟨g, cap', cur, e, _⟩
    · injection e with e1 e2 e3
      subst e1
      exact run_convert_bytes_nil (P := Tryd.prog) w 22 5 Tryd.underlying22 Tryd.underlying5 _ _ dst hd
    · injection e with e1 e2 e3
      subst e1
      exact run_convert_bytes_arg (P := Tryd.prog) w 22 5 Tryd.underlying22 Tryd.underlying5 g 0 0 cap [] rfl (fun i hi => absurd hi (Nat.not_lt_zero _)) dst hd
theorem letter_conv {c : Int} (hc : Co c) : wrap64 (65 + c) % 256 = (ltr c).toNat := by
  obtain ⟨k, hk, rfl⟩ := co_nat hc
  have h : ∀ k < 5, wrap64 (65 + ((k : Nat) : Int)) % 256 = ((ltr ((k : Nat) : Int)).toNat : Int) := by decide +kernel
  exact h k hk
end Go.Proofs.YtcenndlbhgfdfaaDoor
namespace Go.Proofs.YtcenndlbhgfdfaaDoor
open Go.RowKit
set_option linter.unusedVariables false
set_option maxRecDepth 100000

def num (x : Int) : List UInt8 := Go.Lib.decDigits x.toNat
theorem num_small {k : Nat} (h : k < 10) : Go.Lib.decDigits k = [UInt8.ofNat (48 + k)] := by rw [Go.Lib.decDigits, dif_pos h]
theorem num_big {k : Nat} (h : ¬ k < 10) : Go.Lib.decDigits k = Go.Lib.decDigits (k / 10) ++ [UInt8.ofNat (48 + k % 10)] := by rw [Go.Lib.decDigits, dif_neg h]
theorem num_len {k : Nat} (h : k < 100) : (Go.Lib.decDigits k).length ≤ 2 := by
  by_cases h1 : k < 10
  · rw [num_small h1]; simp
  · rw [num_big h1, num_small (show k / 10 < 10 by omega)]; simp
theorem num_ne (k : Nat) : 0 < (Go.Lib.decDigits k).length := by
  by_cases h1 : k < 10
  · rw [num_small h1]; simp
  · rw [num_big h1]; simp
theorem conv_oneP (w : World) (y : Int) (c : UInt8) (h : y = (c.toNat : Int)) (k : Nat) (hk : w.cell? ⟨k, 0, none⟩ = some (.int .u8 y)) : (convert 22 9 (.slice (some ⟨k, 0, none⟩) 1 1)).run Tryd.prog w = .ok (.string (bs [c])) w := by
  subst h
  have hcell : ∀ i, i < 1 → w.cell? ⟨k, 0 + i, none⟩ = some (.int .u8 (([(c.toNat : Int)] : List Int).getD i 0)) := fun i hi => by
    have e : i = 0 := by omega
    subst e
    exact hk
  have := run_convert_bytes_arg (P := Tryd.prog) w 22 5 Tryd.underlying22 Tryd.underlying5 k 0 1 1 [(c.toNat : Int)] rfl hcell 9 Tryd.underlying9
  rw [this]
  congr 2
  unfold strOfNums bs
  congr 1
  simp
theorem c_FormatInt (k : Nat) (hk : k < 100) (w : World) : Ans Tryd.prog 36 #[.int .i64 k] w (.string (bs (num k))) := by
  unfold Ans
  go_enter Tryd.func36, Tryd.ntmps36
  go_wp2_with (go_at_call 57; refine (Tryd.strconv_Itoa_small k hk _).mono ?_; rintro e w' ⟨rfl, rfl⟩)
  go_ret
  exact ⟨rfl, Below.refl _ _⟩
theorem digit_conv {d : Nat} (h : d < 10) : (48 : Int) + (d : Int) = ((UInt8.ofNat (48 + d)).toNat : Int) := by
  have : ∀ d < 10, (48 : Int) + ((d : Nat) : Int) = ((UInt8.ofNat (48 + d)).toNat : Int) := by decide +kernel
  exact this d h
set_option maxHeartbeats 1600000 in
theorem c_specFormatInt (i : Nat) (hi : i < 100) (w : World) : Ans Tryd.prog 38 #[.int .i64 i] w (.string (bs (num i))) := by
  unfold Ans
  by_cases h0 : i = 0
  · subst h0
    go_enter Tryd.func38, Tryd.ntmps38
    go_wp2
    go_ret
    exact ⟨by unfold num; rw [show ((0 : Nat) : Int).toNat = 0 from rfl, num_small (by omega)]; rfl, Below.refl _ _⟩
  · have hz : ((i : Int) == 0) = false := by rw [beq_eq_false_iff_ne]; omega
    have hn : ¬ (i : Int) < 0 := by omega
    go_enter Tryd.func38, Tryd.ntmps38
    go_wp2
    go_loopw [0, 3] (fun vn vs wr => ∃ (k : Nat) (s : List UInt8), vn = .int .i64 k ∧ vs = .string (bs s) ∧ (0 < k → Go.Lib.decDigits k ++ s = Go.Lib.decDigits i) ∧ (k = 0 → s = Go.Lib.decDigits i) ∧ k + s.length ≤ i ∧ Below w.heap.size w wr) (fun vn _ _ => (intOf vn).toNat)
    case atStart => exact ⟨i, [], rfl, rfl, fun _ => by simp, fun h => absurd h h0, by simp, Below.refl _ _⟩
    case round =>
      obtain ⟨k, s, rfl, rfl, hA, hB, hl, hb⟩ := hrel
      by_cases hk : k = 0
      · subst hk
        have HE : Hid (s = Go.Lib.decDigits i) := hB rfl
        clear hA hB
        go_wp2
        go_ret
        exact ⟨by rw [HE.out]; rfl, hb⟩
      · have hA2 : Hid (Go.Lib.decDigits k ++ s = Go.Lib.decDigits i) := hA (by omega)
        have hnz : ((k : Int) != 0) = true := bne_true (by omega)
        have e1 : (k : Int).tmod 10 = ((k % 10 : Nat) : Int) := by rw [Int.tmod_eq_emod_of_nonneg (by omega)]; omega
        have e2 : (k : Int).tdiv 10 = ((k / 10 : Nat) : Int) := by rw [Int.tdiv_eq_ediv_of_nonneg (by omega)]; omega
        have HS : Hid ((0 < k / 10 → Go.Lib.decDigits (k / 10) ++ (UInt8.ofNat (48 + k % 10) :: s) = Go.Lib.decDigits i) ∧ (k / 10 = 0 → UInt8.ofNat (48 + k % 10) :: s = Go.Lib.decDigits i)) := by
          refine ⟨fun h => ?_, fun h => ?_⟩
          · rw [← hA2.out, num_big (show ¬ k < 10 by omega)]; simp
          · rw [← hA2.out, num_small (show k < 10 by omega), show k % 10 = k by omega]; rfl
        have HL : Hid (k / 10 + (s.length + 1) ≤ i) := by show k / 10 + (s.length + 1) ≤ i; omega
        have hm : (k / 10 : Nat) < k := by omega
        have hsl : s.length ≤ 100 := by omega
        have hk99 : k ≤ 99 := by omega
        clear hA hB hl
        obtain ⟨d, hd⟩ : ∃ d, k % 10 = d := ⟨_, rfl⟩
        obtain ⟨q, hq⟩ : ∃ q, k / 10 = q := ⟨_, rfl⟩
        have hd9 : d < 10 := by omega
        rw [hd] at e1 HS
        rw [hq] at e2 HS HL hm
        have hq99 : q ≤ 99 := by omega
        clear hd hq
        have hdn : ¬ (d : Int) < 0 := by omega
        have hwq : wrap64 (q : Int) = q := by clear e1 e2; unfold wrap64; omega
        have hcv : Hid ((48 : Int) + (d : Int) = ((UInt8.ofNat (48 + d)).toNat : Int)) := digit_conv hd9
        generalize UInt8.ofNat (48 + d) = ch at *
        have hcn := conv_oneP (wr.alloc (.cells #[.int .u8 (48 + (d : Int))] 5)) _ ch hcv.out wr.heap.size (box_at wr _ _ 0 _ rfl)
        have hrun := run_sadd (P := Tryd.prog) [ch] s (by simp; omega)
        have hsz : ¬ 9223372036854775807 < (bs [ch]).size + (bs s).size := by rw [bs_size, bs_size]; simp; omega
        go_wp2
        go_roundw
        case rel => exact ⟨q, ch :: s, rfl, rfl, HS.out.1, HS.out.2, by have := HL.out; simpa using this, bel_to hb ((Below.refl wr.heap.size wr).alloc (Nat.le_refl _) _)⟩
        case measure => simp [intOf]; omega
end Go.Proofs.YtcenndlbhgfdfaaDoor
namespace Go.Proofs.YtcenndlbhgfdfaaDoor
open Go.RowKit
set_option linter.unusedVariables false
set_option maxRecDepth 100000

def jn (sep : List UInt8) (L : List (List UInt8)) : List UInt8 := Go.Lib.join L sep
def spL : List UInt8 := [32]
def barL : List UInt8 := [32, 124, 32]
def lineF (L : List Int) : List UInt8 := jn spL (L.map num)
def linesF (P : List (List Int)) : List UInt8 := jn barL (P.map lineF)
def fmtP (P : List (List Int)) : List UInt8 := if linesF P = [] then noneL else linesF P
/-- What FormatPartition is called on. -/
def FineP (P : List (List Int)) : Prop := SmallP P ∧ ∀ j, j < P.length → ∀ x ∈ row P j, 0 ≤ x ∧ x < 100
theorem jn_snoc (L : List (List UInt8)) (y sep : List UInt8) : jn sep (L ++ [y]) = jn sep L ++ (if 0 < L.length then sep else []) ++ y := by
  unfold jn
  cases L with
  | nil => rw [List.nil_append, Go.Lib.join_one, Go.Lib.join_nil]; simp
  | cons x r =>
    rw [List.cons_append, Go.Lib.join_cons, Go.Lib.join_cons]
    have : Go.Lib.joinTail sep (r ++ [y]) = Go.Lib.joinTail sep r ++ sep ++ y := by simp [Go.Lib.joinTail, List.append_assoc]
    rw [this]; simp [List.append_assoc]
theorem lens_le {B : Nat} : ∀ {L : List (List UInt8)}, (∀ x ∈ L, x.length ≤ B) → Go.Lib.lens L ≤ L.length * B
  | [], _ => by simp [Go.Lib.lens]
  | x :: L, h => by
    have ih := lens_le (B := B) (L := L) fun y hy => h y (by simp [hy])
    have h1 := h x (by simp)
    simp only [Go.Lib.lens, List.map_cons, List.sum_cons, List.length_cons] at ih ⊢
    rw [Nat.succ_mul]; omega
theorem jn_len {B : Nat} {L : List (List UInt8)} {sep : List UInt8} (h : ∀ x ∈ L, x.length ≤ B) : (jn sep L).length ≤ L.length * (B + sep.length) := by
  unfold jn
  cases L with
  | nil => simp [Go.Lib.join_nil]
  | cons x r =>
    rw [Go.Lib.join_length]
    have h1 := lens_le h
    have h2 : sep.length * r.length ≤ (x :: r).length * sep.length := by rw [Nat.mul_comm]; exact Nat.mul_le_mul_right _ (by simp)
    rw [Nat.mul_add]
    omega
theorem num_lenI {x : Int} (h : 0 ≤ x ∧ x < 100) : (num x).length ≤ 2 := num_len (by omega)
theorem line_len {L : List Int} (hl : L.length ≤ 100) (h : ∀ x ∈ L, 0 ≤ x ∧ x < 100) : (lineF L).length ≤ 300 := by
  have h1 : ∀ y ∈ L.map num, y.length ≤ 2 := fun y hy => by
    obtain ⟨x, hx, rfl⟩ := List.mem_map.1 hy
    exact num_lenI (h x hx)
  have := jn_len (sep := spL) h1
  unfold lineF
  rw [List.length_map] at this
  have e : spL.length = 1 := rfl
  rw [e] at this
  omega
theorem take_all {L : List Int} {t : Nat} (h : ∀ x ∈ L, 0 ≤ x ∧ x < 100) : ∀ x ∈ L.take t, 0 ≤ x ∧ x < 100 := fun x hx => h x (List.mem_of_mem_take hx)
theorem lines_len {P : List (List Int)} {k : Nat} (h : FineP P) (hk : k ≤ P.length) : (linesF (P.take k)).length ≤ 30300 := by
  have h1 : ∀ y ∈ (P.take k).map lineF, y.length ≤ 300 := fun y hy => by
    obtain ⟨L, hL, rfl⟩ := List.mem_map.1 hy
    obtain ⟨j, hj⟩ := List.mem_iff_getElem?.1 (List.mem_of_mem_take hL)
    have hl : j < P.length := (List.getElem?_eq_some_iff.1 hj).1
    rw [row_eq hl] at hj
    have := Option.some.inj hj
    subst this
    exact line_len (h.1.2 j hl) (h.2 j hl)
  have h2 := jn_len (sep := barL) h1
  unfold linesF
  rw [List.length_map, List.length_take] at h2
  have e : barL.length = 3 := rfl
  rw [e] at h2
  have := h.1.1
  omega

def encS (l : List UInt8) : Value := .string (bs l)
def OwnS (w : World) (base : Nat) (v : Value) (L : List (List UInt8)) : Prop := w.ownsRow base 9 1 v L.length (L.map encS)
theorem info_str : (Tryd.prog.info? 9).map (fun i => (i.zero, i.size, i.bytes)) = some (some (.string ⟨#[]⟩), 1, 16) := by kernel_rfl
theorem OwnS.keep {w w' : World} {base : Nat} {v : Value} {L : List (List UInt8)} (h : OwnS w base v L) (hb : Below w.heap.size w w') : OwnS w' base v L := owns_keep h hb
theorem OwnS.snoc {w : World} {base : Nat} {v : Value} {L : List (List UInt8)} {x : List UInt8} (h : w.ownsRow base 9 1 v (L.length + 1) (L.map encS ++ [encS x])) : OwnS w base v (L ++ [x]) := by
  unfold OwnS
  rw [List.length_append, List.map_append]
  exact h
theorem OwnS.empty (w : World) (base : Nat) (hb : base ≤ w.heap.size) : OwnS (w.alloc (.cells #[] 9)) base (.slice (some ⟨w.heap.size, 0, none⟩) 0 0) [] :=
  World.ownsRow_lit w #[] 0 hb (Nat.zero_le _) rfl
theorem OwnS.past {w w' : World} {base : Nat} {M v v' : Value} {L : List (List UInt8)} {o : Obj} (h : OwnS w base M L) (hg : (w.alloc o).grownBy w' v.ownBlock) (ha : Apart M v) (hf : Fresh (w.alloc o) v v') : OwnS w' base M L ∧ Apart M v' :=
  ⟨World.ownsRow.kept (World.ownsRow.alloc h o) hg ha, Apart.next (World.ownsRow.alloc h o) ha hf⟩
theorem bs_data (l : List UInt8) : (bs l).data.toList = l := by simp [bs]
theorem c_Join (v : Value) (base : Nat) (L : List (List UInt8)) (sep : List UInt8) (w : World) (h : OwnS w base v L) (hL : L.length ≤ 1000) (hlen : (jn sep L).length ≤ 1000000) :
    Calls Tryd.prog 37 #[v, .string (bs sep)] w fun e w' => e = .returned (.string (bs (jn sep L))) ∧ Below w.heap.size w w' := by
  obtain ⟨oa, cap, rfl, hc⟩ := owns_cells h
  by_cases h0 : 0 < L.length
  · obtain ⟨g, rfl, _, hlt, hcap, hcell, _⟩ := hc h0
    have e : (L.map bs).length = L.length := List.length_map _
    have em : (L.map bs).map (fun x => x.data.toList) = L := by
      rw [List.map_map]
      conv => rhs; rw [← List.map_id L]
      exact List.map_congr_left fun x _ => bs_data x
    have H := Tryd.strings_Join g 0 cap (L.map bs) (bs sep) w (fun j x hx => by
      have hj : j < L.length := by rw [← e]; exact (List.getElem?_eq_some_iff.1 hx).1
      rw [Nat.zero_add, hcell j (by omega), List.getElem?_map, List.getElem?_eq_getElem hj]
      rw [List.getElem?_map, List.getElem?_eq_getElem hj] at hx
      have := Option.some.inj hx
      subst this; rfl) hlt (by rw [e]; omega) (by rw [e]; exact hcap) (by rw [em, bs_data]; unfold jn at hlen; omega)
    rw [e, em, bs_data] at H
    exact H
  · have : L = [] := List.length_eq_zero_iff.1 (by omega)
    subst this
    exact (Tryd.strings_Join_none oa cap (bs sep) w).mono fun e w' ⟨h1, h2⟩ => ⟨h1, h2 ▸ Below.refl _ _⟩
theorem map_take {α : Type} (f : List Int → α) {R : List (List Int)} {k : Nat} (hk : k < R.length) : (R.take (k + 1)).map f = (R.take k).map f ++ [f (row R k)] := by rw [List.take_add_one, row_eq hk]; simp
theorem map_takeI {α : Type} (f : Int → α) {L : List Int} {k : Nat} (hk : k < L.length) : (L.take (k + 1)).map f = (L.take k).map f ++ [f (nth L k)] := by rw [List.take_add_one, nth_eq hk]; simp
set_option maxHeartbeats 6400000 in
theorem c_FormatPartition (oa) (ca : Nat) (P : List (List Int)) (w : World) (hP : RowsAt w oa P) (hf : FineP P) :
    Ans Tryd.prog 9 #[.slice oa P.length ca] w (.string (bs (fmtP P))) := by
  unfold Ans
  obtain ⟨s0, hs, hz0, hz1, hz2⟩ := info_parts info_str
  have HF : Hid (FineP P) := hf
  have hn : P.length ≤ 100 := hf.1.1
  clear hf
  have hb := (Below.refl w.heap.size w).alloc (Nat.le_refl _) (.cells #[] 9)
  have hV := OwnS.empty w w.heap.size (Nat.le_refl _)
  go_enter Tryd.func9, Tryd.ntmps9
  go_wp2
  go_loopw [3, 13] (fun vp i wr => ∃ k : Nat, i = .int .i64 k ∧ k ≤ P.length ∧ OwnS wr w.heap.size vp ((P.take k).map lineF) ∧ Below w.heap.size w wr) (fun _ i _ => P.length - (intOf i).toNat)
  case atStart => exact ⟨0, rfl, Nat.zero_le _, hV, hb⟩
  case round =>
    clear hV hb
    obtain ⟨k, rfl, hk, hV, hb⟩ := hrel
    by_cases hlt : k < P.length
    · obtain ⟨b, off, rfl, hbs, hc⟩ := hP.at_ (by omega)
      obtain ⟨o1, c1, h1w, r1w⟩ := hc k hlt
      have HTk : Hid ((P.take (k + 1)).map lineF = (P.take k).map lineF ++ [lineF (row P k)]) := map_take lineF hlt
      have hvl : ((P.take k).map lineF).length ≤ 100 := by rw [List.length_map, List.length_take]; omega
      have HFL : Hid (∀ x ∈ row P k, 0 ≤ x ∧ x < 100) := HF.out.2 k hlt
      have hln : (row P k).length ≤ 100 := HF.out.1.2 k hlt
      have h1 := cell_keep h1w hb
      clear hc
      generalize row P k = L at *
      generalize (P.take k).map lineF = V at *
      have HLF : Hid (lineF L = jn spL (L.map num)) := rfl
      have HJL : Hid ((jn spL (L.map num)).length ≤ 1000000) := Nat.le_trans (line_len hln HFL.out) (by omega)
      have hW0 := OwnS.empty wr wr.heap.size (Nat.le_refl _)
      have ap_VW := apart_old hV hW0
      have hW := (show OwnS _ w.heap.size _ [] from owns_base hW0 hb.size)
      replace hV := hV.keep ((Below.refl wr.heap.size wr).alloc (Nat.le_refl _) (.cells #[] 9))
      replace hb := hb.alloc hb.size (.cells #[] 9)
      clear hW0
      go_wp2
      go_loopw [6, 20] (fun vw j wr => ∃ t : Nat, j = .int .i64 t ∧ t ≤ L.length ∧ OwnS wr w.heap.size vw ((L.take t).map num) ∧ OwnS wr w.heap.size u3 V ∧ Apart u3 vw ∧ Below w.heap.size w wr) (fun _ j _ => L.length - (intOf j).toNat)
      case atStart => exact ⟨0, rfl, Nat.zero_le _, hW, hV, ap_VW, hb⟩
      case round =>
        clear hW hV ap_VW hb h1
        obtain ⟨t, rfl, ht, hW, hV, ap_VW, hb⟩ := hrel
        by_cases htl : t < L.length
        · obtain ⟨b', off', ho, hbs', hc'⟩ := r1w.at_ (by omega)
          cases ho
          have q1 := cell_keep (hc' t htl) hb
          have hx := HFL.out (nth L t) (List.mem_iff_getElem?.2 ⟨t, nth_eq htl⟩)
          have HTt : Hid ((L.take (t + 1)).map num = (L.take t).map num ++ [num (nth L t)]) := map_takeI num htl
          have hwl : ((L.take t).map num).length ≤ 100 := by rw [List.length_map, List.length_take]; omega
          obtain ⟨x, hx2⟩ : ∃ x : Nat, nth L t = x := ⟨(nth L t).toNat, by omega⟩
          have hx100 : x < 100 := by omega
          rw [hx2] at q1 HTt
          generalize (L.take t).map num = W at *
          clear hc' hx hx2
          go_wp2_with (first | (go_at_call 36; refine Calls.mono (c_FormatInt x hx100 _) ?_; rintro e w1 ⟨rfl, hbn⟩; replace q1 := cell_keep q1 hbn; replace hW := hW.keep hbn; replace hV := hV.keep hbn; replace hb := bel_to (w := w) (by first | exact hb | exact hb.alloc hb.size _ | exact (hb.alloc hb.size _).alloc (Nat.le_trans hb.size (by simp)) _ | exact hb.setCell (by simp [hb.size]) _) hbn; clear hbn) | (at_builtin; refine wpList_append_fresh rfl _ _ 53 rfl w.heap.size 9 s0 (.string ⟨#[]⟩) 1 16 Tryd.underlying53 hs hz0 hz1 hz2 rfl (by decide) _ _ _ rfl (World.ownsRow.alloc hW _) _ 1 1 [.string (bs (num x))] rfl rfl (by intro j u hj; match j, hj with | 0, hj => simp at hj; subst hj; simp [Addr.add]) (by intro u hu; simp at hu; subst hu; rfl) (by unfold maxLen; omega) (by omega) (by have := hb.size; simp; omega) ?_; intro v' w1 hown hgrow hfr; replace hb := (hb.alloc hb.size _).grown hgrow (by have := hb.size; simp; omega) (fun g hg => (World.ownsRow.lt hW g hg).1); obtain ⟨hV, ap_VW⟩ := OwnS.past hV hgrow ap_VW hfr; replace hW := OwnS.snoc hown; clear hown hgrow hfr) | fail)
          go_roundw
          case rel => exact ⟨t + 1, by go_num, by omega, by rw [HTt.out]; exact hW, hV, ap_VW, hb⟩
          case measure => simp [intOf]; omega
        · have htt : t = L.length := by omega
          have HTT : Hid ((L.take t).map num = L.map num) := by show (L.take t).map num = L.map num; rw [htt, List.take_length]
          clear htt
          rw [HTT.out] at hW
          have hwl : (L.map num).length ≤ 1000 := by rw [List.length_map]; omega
          go_wp2_with (first | (go_at_call 37; refine (c_Join _ _ (L.map num) spL _ hW hwl HJL.out).mono ?_; rintro e w1 ⟨rfl, hbn⟩; replace hV := hV.keep hbn; replace hb := bel_to hb hbn; clear hbn) | (at_builtin; refine wpList_append_fresh rfl _ _ 53 rfl w.heap.size 9 s0 (.string ⟨#[]⟩) 1 16 Tryd.underlying53 hs hz0 hz1 hz2 rfl (by decide) _ _ _ rfl (World.ownsRow.alloc hV _) _ 1 1 [.string (bs (jn spL (L.map num)))] rfl rfl (by intro j u hj; match j, hj with | 0, hj => simp at hj; subst hj; simp [Addr.add]) (by intro u hu; simp at hu; subst hu; rfl) (by unfold maxLen; omega) (by omega) (by have := hb.size; simp; omega) ?_; intro v' w1 hown hgrow hfr; replace hb := (hb.alloc hb.size _).grown hgrow (by have := hb.size; simp; omega) (fun g hg => (World.ownsRow.lt hV g hg).1); replace hV := OwnS.snoc hown; clear hown hgrow hfr) | fail)
          go_roundw
          case rel => exact ⟨k + 1, by go_num, by omega, by rw [HTk.out, HLF.out]; exact hV, hb⟩
          case measure => simp [intOf]; omega
    · have hkk : k = P.length := by omega
      have HTT : Hid ((P.take k).map lineF = P.map lineF) := by show (P.take k).map lineF = P.map lineF; rw [hkk, List.take_length]
      have HLL : Hid ((jn barL (P.map lineF)).length ≤ 1000000) := by
        have := lines_len HF.out (Nat.le_refl P.length)
        unfold linesF at this
        rw [List.take_length] at this
        show (jn barL (P.map lineF)).length ≤ 1000000
        omega
      clear hkk
      rw [HTT.out] at hV
      have hvl : (P.map lineF).length ≤ 1000 := by rw [List.length_map]; omega
      have HFM : Hid (fmtP P = if jn barL (P.map lineF) = [] then noneL else jn barL (P.map lineF)) := rfl
      obtain ⟨S, hSe⟩ : ∃ S, jn barL (P.map lineF) = S := ⟨_, rfl⟩
      have HSE : Hid (jn barL (P.map lineF) = S) := hSe
      rw [hSe] at HFM HLL
      clear hSe
      by_cases hS : S = []
      · have HS : Hid (S = []) := hS
        have hn2 : (bs S).toList.isEmpty = true := by rw [bs_list, emp_eq, hS]; rfl
        clear hS
        go_wp2_with (go_at_call 37; have HJ := c_Join _ _ (P.map lineF) barL _ hV hvl (by rw [HSE.out]; exact HLL.out); rw [HSE.out] at HJ; refine HJ.mono ?_; clear HJ; rintro e w1 ⟨rfl, hbn⟩; replace hb := bel_to hb hbn; clear hbn)
        go_ret
        exact ⟨by rw [HFM.out, if_pos HS.out]; rfl, hb⟩
      · have HS : Hid (S ≠ []) := hS
        have hn2 : (bs S).toList.isEmpty = false := by rw [bs_list, emp_eq]; simpa using hS
        clear hS
        go_wp2_with (go_at_call 37; have HJ := c_Join _ _ (P.map lineF) barL _ hV hvl (by rw [HSE.out]; exact HLL.out); rw [HSE.out] at HJ; refine HJ.mono ?_; clear HJ; rintro e w1 ⟨rfl, hbn⟩; replace hb := bel_to hb hbn; clear hbn)
        go_ret
        exact ⟨by rw [HFM.out, if_neg HS.out]; rfl, hb⟩
end Go.Proofs.YtcenndlbhgfdfaaDoor
namespace Go.Proofs.YtcenndlbhgfdfaaDoor
open Go.RowKit
set_option linter.unusedVariables false
set_option maxRecDepth 100000

set_option maxHeartbeats 800000 in
theorem c_l1New (oa) (n cap : Nat) (hn : n ≤ 1048576) (w : World) (hB : BytesAt w oa n) :
    Calls Tryd.prog 46 #[.slice oa n cap] w fun e w' => e = .returned (.pointer (some ⟨w.heap.size, 0, none⟩)) ∧ Cur w' w.heap.size ∧ Below w.heap.size w w' := by
  go_enter Tryd.func46, Tryd.ntmps46
  go_wp2
  go_loop [3, 4] (fun h i => ∃ (x : Int) (k : Nat), h = .int .i64 x ∧ i = .int .i64 k ∧ k ≤ n) (fun _ i => n - (intOf i).toNat)
  case atStart => exact ⟨_, 0, rfl, rfl, Nat.zero_le _⟩
  case round =>
    obtain ⟨x, k, rfl, rfl, hk⟩ := hrel
    by_cases hlt : k < n
    · by_cases h4 : (k : Int) < 4000
      · obtain ⟨b, off, rfl, hbs, hc⟩ := hB.at_ (by omega)
        obtain ⟨y, hy, hy0, hy1⟩ := hc k hlt
        clear hc hB
        go_wp2
        go_round
        case rel => exact ⟨_, k + 1, rfl, by go_num, by omega⟩
        case measure => simp [intOf]; omega
      · go_wp2
        go_ret
        exact ⟨rfl, ⟨oa, n, cap, 0, x, Blk.new w _ _, Nat.zero_le _, hn, hB.keep ((Below.refl _ _).alloc (Nat.le_refl _) _), fun h0 a e => by obtain ⟨b, off, e', hlt, _⟩ := hB.at_ h0; rw [e] at e'; injection e' with e'; rw [e']; exact hlt⟩, (Below.refl _ _).alloc (Nat.le_refl _) _⟩
    · have hkk : k = n := by omega
      have HK : Hid (k = n) := hkk
      clear hkk
      go_wp2
      go_ret
      exact ⟨rfl, ⟨oa, n, cap, 0, x, Blk.new w _ _, Nat.zero_le _, hn, hB.keep ((Below.refl _ _).alloc (Nat.le_refl _) _), fun h0 a e => by obtain ⟨b, off, e', hlt, _⟩ := hB.at_ h0; rw [e] at e'; injection e' with e'; rw [e']; exact hlt⟩, (Below.refl _ _).alloc (Nat.le_refl _) _⟩
/-- Whatever was made before the cursor's own turns lies as it lay. -/
theorem Blk.cur {w w' : World} {k g : Nat} {c : Array Value} {T : TypeId} (h : Blk w k c T) (hg : w.grownBy w' (some g)) (hne : k ≠ g) : Blk w' k c T := h.gr hg (fun e => hne (by injection e))
theorem grown_new {w w2 : World} {g k j : Nat} {v : Value} (hG : w.grownBy w2 (some g)) (hk : w.heap.size ≤ k) : w.grownBy (w2.setCell ⟨k, j, none⟩ v) (some g) :=
  ⟨hG.os, hG.tape, hG.output, by have := hG.size; simpa using this, fun i hi hne => (Below.heap_setCell w2 ⟨k, j, none⟩ v i (by show i ≠ k; omega)).trans (hG.block i hi hne)⟩
theorem Cur.set {w : World} {g k j : Nat} {v : Value} (h : Cur w g) (hk : g < k) : Cur (w.setCell ⟨k, j, none⟩ v) g := h.grown (grown_set w k j v) (fun i e => by injection e with e; omega)
set_option maxHeartbeats 800000 in
theorem c_l6Dep (g : Nat) (N : Nat) (h5 : N ≤ 5) (w : World) (hc : Cur w g) :
    Calls Tryd.prog 69 #[.pointer (some ⟨g, 0, none⟩), .int .i64 N] w fun e w' => ∃ l r : Int, e = .returned (.agg #[.int .i64 l, .int .i64 r]) ∧ Cur w' g ∧ w.grownBy w' (some g) := by
  have hp := pow_wrap (n := (N : Int)) (by omega) (by omega)
  simp only [Int.toNat_natCast] at hp
  have hp1 := hp.1
  have hp2 := hp.2.1
  clear hp
  have hlt := hc.lt
  have kZ := Blk.new w #[.int .i64 0, .int .i64 0] 28
  have hG := grown_of_below ((Below.refl w.heap.size w).alloc (Nat.le_refl _) (.cells #[.int .i64 0, .int .i64 0] 28)) (some g)
  replace hc := cur_alloc hc (.cells #[.int .i64 0, .int .i64 0] 28)
  go_enter Tryd.func69, Tryd.ntmps69
  go_wp2_with fail
  refine (c_l1Below g (2 ^ N) (by omega) _ hc).mono ?_
  rintro e w1 ⟨x, rfl, _, _, _, hc1, hg⟩
  replace kZ := kZ.cur hg (by omega)
  replace hG := grown_trans hG hg
  clear hc hg
  go_wp2_with fail
  refine (c_l1Below g N (by omega) _ hc1).mono ?_
  rintro e w2 ⟨y, rfl, _, _, _, hc2, hg⟩
  replace kZ := kZ.cur hg (by omega)
  replace hG := grown_trans hG hg
  clear hc1 hg
  have z0 := kZ.cell 0 (.int .i64 0) rfl
  have z1 := kZ.cell 1 (.int .i64 0) rfl
  have f0 := kZ.free 0
  have f1 := kZ.free 1
  go_wp2
  exact bodyPost_ret (v := .agg #[.int .i64 x, .int .i64 y]) (by simp [results, Tryd.results69, go_sem, z0, z1]) rfl ⟨x, y, rfl, (hc2.set hlt).set hlt, grown_new (grown_new hG (Nat.le_refl _)) (Nat.le_refl _)⟩
set_option maxHeartbeats 1600000 in
theorem c_l6Any (g : Nat) (n : Int) (w : World) (hc : Cur w g) :
    Calls Tryd.prog 50 #[.pointer (some ⟨g, 0, none⟩), .int .i64 n] w fun e w' => ∃ l r : Int, e = .returned (.agg #[.int .i64 l, .int .i64 r]) ∧ Cur w' g ∧ w.grownBy w' (some g) := by
  have hlt := hc.lt
  have kZ := Blk.new w #[.int .i64 0, .int .i64 0] 28
  have hG := grown_of_below ((Below.refl w.heap.size w).alloc (Nat.le_refl _) (.cells #[.int .i64 0, .int .i64 0] 28)) (some g)
  replace hc := cur_alloc hc (.cells #[.int .i64 0, .int .i64 0] 28)
  cases hin : inB n 1 5
  · go_enter Tryd.func50, Tryd.ntmps50
    go_wp2_with fail
    refine Calls.mono (Ans.eqb (c_l1In _ _ _ _) hin) ?_
    rintro e w1 ⟨rfl, hbn⟩
    replace kZ := kZ.keep hbn
    replace hc := hc.keep hbn
    replace hG := grown_trans hG (grown_of_below hbn _)
    clear hbn
    go_wp2_with fail
    refine (c_l6Dep g 3 (by omega) _ hc).mono ?_
    rintro e w2 ⟨l, r, rfl, hc2, hg⟩
    replace kZ := kZ.cur hg (by omega)
    replace hG := grown_trans hG hg
    clear hc hg
    have kD := Blk.new w2 #[.int .i64 l, .int .i64 r] 28
    have hl2 := kZ.lt
    replace kZ := kZ.alloc (.cells #[.int .i64 l, .int .i64 r] 28)
    replace hc2 := cur_alloc hc2 (.cells #[.int .i64 l, .int .i64 r] 28)
    replace hG := grown_trans hG (grown_of_below ((Below.refl w2.heap.size w2).alloc (Nat.le_refl _) (.cells #[.int .i64 l, .int .i64 r] 28)) (some g))
    go_wp2_with fail
    refine (c_l1Below g 14 (by omega) _ hc2).mono ?_
    rintro e w3 ⟨q, rfl, _, _, _, hc3, hg⟩
    replace kZ := kZ.cur hg (by omega)
    replace kD := kD.cur hg (by omega)
    replace hG := grown_trans hG hg
    clear hc2 hg
    by_cases e0 : q = 0
    · go_wp2_with fail
      refine (c_l2Any g _ hc3).mono ?_
      rintro e w4 ⟨x, rfl, _, _, hc4, hg⟩
      replace kZ := kZ.cur hg (by omega)
      replace kD := kD.cur hg (by omega)
      replace hG := grown_trans hG hg
      clear hc3 hg
      have d0 := kD.cell 0 (.int .i64 l) rfl
      have d1 := kD.cell 1 (.int .i64 r) rfl
      have e0' := kD.free 0
      have z0 := kZ.cell 0 (.int .i64 0) rfl
      have z1 := kZ.cell 1 (.int .i64 0) rfl
      have f0 := kZ.free 0
      have f1 := kZ.free 1
      have kD2 : Blk _ w2.heap.size #[.int .i64 x, .int .i64 r] 28 := kD.set 0 (.int .i64 x)
      have kZ2 := kZ.far ⟨w2.heap.size, 0, none⟩ (.int .i64 x) (by simp; omega)
      have y0 := kD2.cell 0 (.int .i64 x) rfl
      have y1 := kD2.cell 1 (.int .i64 r) rfl
      have v0 := kZ2.cell 0 (.int .i64 0) rfl
      have v1 := kZ2.cell 1 (.int .i64 0) rfl
      have g0 := kZ2.free 0
      have g1 := kZ2.free 1
      have hc5 := Cur.set (j := 0) (v := .int .i64 x) hc4 (show g < w2.heap.size by omega)
      have hG5 := grown_new (j := 0) (v := .int .i64 x) hG (show w.heap.size ≤ w2.heap.size by omega)
      go_wp2
      exact bodyPost_ret (v := .agg #[.int .i64 x, .int .i64 r]) (by simp [results, Tryd.results50, go_sem, v0, v1]) rfl ⟨x, r, rfl, (hc5.set hlt).set hlt, grown_new (grown_new hG5 (Nat.le_refl _)) (Nat.le_refl _)⟩
    · by_cases e1 : q = 1
      · have hL := fun T => lit_ints w3 #[.int .i64 (-1), .int .i64 4, .int .i64 5] [-1, 4, 5] (by simp) (fun k hk => by match k, hk with | 0, _ => rfl | 1, _ => rfl | 2, _ => rfl) T
        have hlt3 := hc3.lt
        go_wp2_with fail
        refine (c_l1PickInt g _ 3 [-1, 4, 5] (by simp) (by simp) _ (cur_alloc hc3 _) (hL _) (fun a e => by injection e with e; subst e; simp; omega)).mono ?_
        rintro e w4 ⟨x, rfl, _, hc4, hg⟩
        replace hg := grown_alloc hg
        replace kZ := kZ.cur hg (by omega)
        replace kD := kD.cur hg (by omega)
        replace hG := grown_trans hG hg
        clear hc3 hg hL
        have d0 := kD.cell 0 (.int .i64 l) rfl
        have d1 := kD.cell 1 (.int .i64 r) rfl
        have e0' := kD.free 1
        have kD2 : Blk _ w2.heap.size #[.int .i64 l, .int .i64 x] 28 := kD.set 1 (.int .i64 x)
        have kZ2 := kZ.far ⟨w2.heap.size, 1, none⟩ (.int .i64 x) (by simp; omega)
        have y0 := kD2.cell 0 (.int .i64 l) rfl
        have y1 := kD2.cell 1 (.int .i64 x) rfl
        have v0 := kZ2.cell 0 (.int .i64 0) rfl
        have v1 := kZ2.cell 1 (.int .i64 0) rfl
        have g0 := kZ2.free 0
        have g1 := kZ2.free 1
        have hc5 := Cur.set (j := 1) (v := .int .i64 x) hc4 (show g < w2.heap.size by omega)
        have hG5 := grown_new (j := 1) (v := .int .i64 x) hG (show w.heap.size ≤ w2.heap.size by omega)
        go_wp2
        exact bodyPost_ret (v := .agg #[.int .i64 l, .int .i64 x]) (by simp [results, Tryd.results50, go_sem, v0, v1]) rfl ⟨l, x, rfl, (hc5.set hlt).set hlt, grown_new (grown_new hG5 (Nat.le_refl _)) (Nat.le_refl _)⟩
      · have d0 := kD.cell 0 (.int .i64 l) rfl
        have d1 := kD.cell 1 (.int .i64 r) rfl
        have z0 := kZ.cell 0 (.int .i64 0) rfl
        have z1 := kZ.cell 1 (.int .i64 0) rfl
        have f0 := kZ.free 0
        have f1 := kZ.free 1
        go_wp2
        exact bodyPost_ret (v := .agg #[.int .i64 l, .int .i64 r]) (by simp [results, Tryd.results50, go_sem, z0, z1]) rfl ⟨l, r, rfl, (hc3.set hlt).set hlt, grown_new (grown_new hG (Nat.le_refl _)) (Nat.le_refl _)⟩
  · obtain ⟨N, rfl⟩ := Int.eq_ofNat_of_zero_le (show 0 ≤ n by unfold inB at hin; simp at hin; omega)
    have hN : N ≤ 5 := by unfold inB at hin; simp at hin; omega
    go_enter Tryd.func50, Tryd.ntmps50
    go_wp2_with fail
    refine Calls.mono (Ans.eqb (c_l1In _ _ _ _) hin) ?_
    rintro e w1 ⟨rfl, hbn⟩
    replace kZ := kZ.keep hbn
    replace hc := hc.keep hbn
    replace hG := grown_trans hG (grown_of_below hbn _)
    clear hbn
    go_wp2_with fail
    refine (c_l6Dep g N (by omega) _ hc).mono ?_
    rintro e w2 ⟨l, r, rfl, hc2, hg⟩
    replace kZ := kZ.cur hg (by omega)
    replace hG := grown_trans hG hg
    clear hc hg
    have kD := Blk.new w2 #[.int .i64 l, .int .i64 r] 28
    have hl2 := kZ.lt
    replace kZ := kZ.alloc (.cells #[.int .i64 l, .int .i64 r] 28)
    replace hc2 := cur_alloc hc2 (.cells #[.int .i64 l, .int .i64 r] 28)
    replace hG := grown_trans hG (grown_of_below ((Below.refl w2.heap.size w2).alloc (Nat.le_refl _) (.cells #[.int .i64 l, .int .i64 r] 28)) (some g))
    go_wp2_with fail
    refine (c_l1Below g 14 (by omega) _ hc2).mono ?_
    rintro e w3 ⟨q, rfl, _, _, _, hc3, hg⟩
    replace kZ := kZ.cur hg (by omega)
    replace kD := kD.cur hg (by omega)
    replace hG := grown_trans hG hg
    clear hc2 hg
    by_cases e0 : q = 0
    · go_wp2_with fail
      refine (c_l2Any g _ hc3).mono ?_
      rintro e w4 ⟨x, rfl, _, _, hc4, hg⟩
      replace kZ := kZ.cur hg (by omega)
      replace kD := kD.cur hg (by omega)
      replace hG := grown_trans hG hg
      clear hc3 hg
      have d0 := kD.cell 0 (.int .i64 l) rfl
      have d1 := kD.cell 1 (.int .i64 r) rfl
      have e0' := kD.free 0
      have z0 := kZ.cell 0 (.int .i64 0) rfl
      have z1 := kZ.cell 1 (.int .i64 0) rfl
      have f0 := kZ.free 0
      have f1 := kZ.free 1
      have kD2 : Blk _ w2.heap.size #[.int .i64 x, .int .i64 r] 28 := kD.set 0 (.int .i64 x)
      have kZ2 := kZ.far ⟨w2.heap.size, 0, none⟩ (.int .i64 x) (by simp; omega)
      have y0 := kD2.cell 0 (.int .i64 x) rfl
      have y1 := kD2.cell 1 (.int .i64 r) rfl
      have v0 := kZ2.cell 0 (.int .i64 0) rfl
      have v1 := kZ2.cell 1 (.int .i64 0) rfl
      have g0 := kZ2.free 0
      have g1 := kZ2.free 1
      have hc5 := Cur.set (j := 0) (v := .int .i64 x) hc4 (show g < w2.heap.size by omega)
      have hG5 := grown_new (j := 0) (v := .int .i64 x) hG (show w.heap.size ≤ w2.heap.size by omega)
      go_wp2
      exact bodyPost_ret (v := .agg #[.int .i64 x, .int .i64 r]) (by simp [results, Tryd.results50, go_sem, v0, v1]) rfl ⟨x, r, rfl, (hc5.set hlt).set hlt, grown_new (grown_new hG5 (Nat.le_refl _)) (Nat.le_refl _)⟩
    · by_cases e1 : q = 1
      · have hL := fun T => lit_ints w3 #[.int .i64 (-1), .int .i64 4, .int .i64 5] [-1, 4, 5] (by simp) (fun k hk => by match k, hk with | 0, _ => rfl | 1, _ => rfl | 2, _ => rfl) T
        have hlt3 := hc3.lt
        go_wp2_with fail
        refine (c_l1PickInt g _ 3 [-1, 4, 5] (by simp) (by simp) _ (cur_alloc hc3 _) (hL _) (fun a e => by injection e with e; subst e; simp; omega)).mono ?_
        rintro e w4 ⟨x, rfl, _, hc4, hg⟩
        replace hg := grown_alloc hg
        replace kZ := kZ.cur hg (by omega)
        replace kD := kD.cur hg (by omega)
        replace hG := grown_trans hG hg
        clear hc3 hg hL
        have d0 := kD.cell 0 (.int .i64 l) rfl
        have d1 := kD.cell 1 (.int .i64 r) rfl
        have e0' := kD.free 1
        have kD2 : Blk _ w2.heap.size #[.int .i64 l, .int .i64 x] 28 := kD.set 1 (.int .i64 x)
        have kZ2 := kZ.far ⟨w2.heap.size, 1, none⟩ (.int .i64 x) (by simp; omega)
        have y0 := kD2.cell 0 (.int .i64 l) rfl
        have y1 := kD2.cell 1 (.int .i64 x) rfl
        have v0 := kZ2.cell 0 (.int .i64 0) rfl
        have v1 := kZ2.cell 1 (.int .i64 0) rfl
        have g0 := kZ2.free 0
        have g1 := kZ2.free 1
        have hc5 := Cur.set (j := 1) (v := .int .i64 x) hc4 (show g < w2.heap.size by omega)
        have hG5 := grown_new (j := 1) (v := .int .i64 x) hG (show w.heap.size ≤ w2.heap.size by omega)
        go_wp2
        exact bodyPost_ret (v := .agg #[.int .i64 l, .int .i64 x]) (by simp [results, Tryd.results50, go_sem, v0, v1]) rfl ⟨l, x, rfl, (hc5.set hlt).set hlt, grown_new (grown_new hG5 (Nat.le_refl _)) (Nat.le_refl _)⟩
      · have d0 := kD.cell 0 (.int .i64 l) rfl
        have d1 := kD.cell 1 (.int .i64 r) rfl
        have z0 := kZ.cell 0 (.int .i64 0) rfl
        have z1 := kZ.cell 1 (.int .i64 0) rfl
        have f0 := kZ.free 0
        have f1 := kZ.free 1
        go_wp2
        exact bodyPost_ret (v := .agg #[.int .i64 l, .int .i64 r]) (by simp [results, Tryd.results50, go_sem, z0, z1]) rfl ⟨l, r, rfl, (hc3.set hlt).set hlt, grown_new (grown_new hG (Nat.le_refl _)) (Nat.le_refl _)⟩
end Go.Proofs.YtcenndlbhgfdfaaDoor
namespace Go.Proofs.YtcenndlbhgfdfaaDoor
open Go.RowKit
theorem heap_two (w : World) (o1 o2 : Obj) : ((w.alloc o1).alloc o2).heap[w.heap.size + 1]? = some o2 := by
  have := heap_alloc_new (w.alloc o1) o2
  rwa [World.size_alloc] at this
end Go.Proofs.YtcenndlbhgfdfaaDoor
namespace Go.Proofs.YtcenndlbhgfdfaaDoor
open Go.RowKit
set_option linter.unusedVariables false
set_option maxRecDepth 100000

theorem OwnD.empty (w : World) (base : Nat) (hb : base ≤ w.heap.size) : OwnD (w.alloc (.cells #[] 28)) base (.slice (some ⟨w.heap.size, 0, none⟩) 0 0) [] :=
  World.ownsRow_lit w #[] 0 hb (Nat.zero_le _) rfl
/-- The cells of a list of dependencies, as append asks for them. -/
theorem DepsAt.cells {w : World} {b off : Nat} {D : List (Int × Int)} (h : DepsAt w (some ⟨b, off, none⟩) D) (j : Nat) (u : Value) (hu : (dcells D)[j]? = some u) : w.cell? ((⟨b, off, none⟩ : Addr).add j) = some u := by
  have hj : j < D.length * 2 := by
    rw [← dcells_length]
    rcases Nat.lt_or_ge j (dcells D).length with h | h
    · exact h
    · rw [List.getElem?_eq_none h] at hu; cases hu
  obtain ⟨b', off', e, _, hc⟩ := h.at_ (by omega)
  simp only [Option.some.injEq, Addr.mk.injEq, and_true] at e
  obtain ⟨rfl, rfl⟩ := e
  have e : (⟨b, off, none⟩ : Addr).add j = ⟨b, off + j, none⟩ := by unfold Addr.add; split <;> simp_all
  rw [e]
  have hk := hc (j / 2) (by omega)
  have hd := dcells_at D (j / 2) (by omega)
  rcases Nat.mod_two_eq_zero_or_one j with hm | hm
  · have ej : j / 2 * 2 = j := by omega
    rw [ej] at hk hd
    rw [hk.1, ← hd.1]; exact hu
  · have ej : j / 2 * 2 + 1 = j := by omega
    have e2 : off + j / 2 * 2 + 1 = off + j := by omega
    rw [ej] at hd
    rw [e2] at hk
    rw [hk.2, ← hd.2]; exact hu
theorem DepsAt.cellsAny {w : World} {a : Addr} {D : List (Int × Int)} (h : DepsAt w (some a) D) (j : Nat) (u : Value) (hu : (dcells D)[j]? = some u) : w.cell? (a.add j) = some u := by
  have h0 : 0 < D.length := by
    rcases Nat.eq_zero_or_pos D.length with h0 | h0
    · have e : D = [] := List.eq_nil_of_length_eq_zero h0
      subst e; cases hu
    · exact h0
  obtain ⟨b', off', e, _, hc⟩ := h.at_ h0
  simp only [Option.some.injEq] at e
  subst e
  exact h.cells j u hu
theorem dcells_one (D : List (Int × Int)) : ∀ u ∈ dcells D, u.oneCell' = true := by
  intro u hu
  simp only [dcells, List.mem_flatMap, encD] at hu
  obtain ⟨d, _, hd⟩ := hu
  simp at hd
  rcases hd with rfl | rfl <;> rfl
theorem OwnD.joined {w : World} {base : Nat} {v : Value} {A B : List (Int × Int)} (h : w.ownsRow base 28 2 v (A.length + B.length) (dcells A ++ dcells B)) : OwnD w base v (A ++ B) := by
  unfold OwnD
  rw [List.length_append, dcells_append]
  exact h

theorem dcells_take : ∀ (D : List (Int × Int)) (i : Nat), dcells (D.take i) = (dcells D).take (i * 2)
  | [], i => by simp [dcells]
  | d :: D, 0 => by simp [dcells]
  | d :: D, i + 1 => by
    have e : (i + 1) * 2 = i * 2 + 1 + 1 := by omega
    rw [List.take_succ_cons, dcells_cons, dcells_cons, e, List.take_succ_cons, List.take_succ_cons, dcells_take D i]
theorem dcells_drop : ∀ (D : List (Int × Int)) (i : Nat), dcells (D.drop i) = (dcells D).drop (i * 2)
  | [], i => by simp [dcells]
  | d :: D, 0 => by simp [dcells]
  | d :: D, i + 1 => by
    have e : (i + 1) * 2 = i * 2 + 1 + 1 := by omega
    rw [List.drop_succ_cons, dcells_cons, e, List.drop_succ_cons, List.drop_succ_cons, dcells_drop D i]
def eraD (D : List (Int × Int)) (i : Nat) : List (Int × Int) := D.take i ++ D.drop (i + 1)
theorem ownsTake {w : World} {base : Nat} {v : Value} {i : Nat} {D : List (Int × Int)} (h : w.ownsRow base 28 2 v (0 + i) (dcells [] ++ dcells (D.take i))) : w.ownsRow base 28 2 v i (dcells (D.take i)) := by
  have e : dcells [] ++ dcells (D.take i) = dcells (D.take i) := rfl
  rw [e, Nat.zero_add] at h; exact h
theorem ownsErase {w : World} {base : Nat} {v : Value} {i : Nat} {D : List (Int × Int)} (hil : i < D.length) (h : w.ownsRow base 28 2 v (i + (D.length - (i + 1))) (dcells (D.take i) ++ dcells (D.drop (i + 1)))) : OwnD w base v (eraD D i) := by
  unfold OwnD eraD
  have e : (D.take i ++ D.drop (i + 1)).length = i + (D.length - (i + 1)) := by rw [List.length_append, List.length_take, List.length_drop]; omega
  rw [e, dcells_append]; exact h
theorem ownsLast {w : World} {base : Nat} {v : Value} {i : Nat} {D : List (Int × Int)} (hil : D.length = i + 1) (h : w.ownsRow base 28 2 v (i + 0) (dcells (D.take i) ++ [])) : OwnD w base v (eraD D i) := by
  refine ownsErase (by omega) ?_
  rw [List.drop_of_length_le (by omega), hil, Nat.sub_self]; exact h
end Go.Proofs.YtcenndlbhgfdfaaDoor
namespace Go.Proofs.YtcenndlbhgfdfaaDoor
open Go.RowKit
set_option linter.unusedVariables false
set_option maxRecDepth 100000
set_option maxHeartbeats 1600000

theorem step_append_own {P : Program} (w : World) {ops : Array Oper} {o : Oper} {a : Act} {K : Act → World → Prop} {Q : Exit → Act → World → Prop} {E : Prop} (hgd : o.guard = none) (s x : Operand) (t : TypeId)
    (ho : o.op = .call { callee := .builtin .append, args := #[s, x], argTypes := #[t, t] })
    (base : Nat) (e : TypeId) (i : TypeInfo) (z : Value) (size bytes : Nat) (ht : P.underlying t = some (.slice e)) (hi : P.info? e = some i) (hz : i.zero = some z)
    (hsize : i.size = size) (hby : i.bytes = bytes) (hzs : z.cells.size = size) (hsz : 0 < size)
    (v : Value) (n : Nat) (xs : List Value) (hs : a.eval s = v) (hown : w.ownsRow base e size v n xs)
    (ad : Addr) (m c : Nat) (news : List Value) (hx : a.eval x = .slice (some ad) m c) (hl : news.length = m * size) (hnews : ∀ j u, news[j]? = some u → w.cell? (ad.add j) = some u) (h1 : ∀ u ∈ news, u.oneCell' = true)
    (h63 : n + m ≤ maxLen) (hbytes : (n + m) * bytes ≤ 140737488355328) (hbase : base ≤ w.heap.size)
    (h : ∀ v' w', w'.ownsRow base e size v' (n + m) (xs ++ news) → w.grownBy w' v.ownBlock → K (a.put o.dst v') w') :
    if Region.wanted o (yielded ops a.tmps) = true then Oper.wp P o a w K Q else E := by
  have hw : Region.wanted o (yielded ops a.tmps) = true := by simp [Region.wanted, hgd]
  rw [if_pos hw]
  exact wp_append_own w s x t ho base e i z size bytes ht hi hz hsize hby hzs hsz v n xs hs hown ad m c news hx hl hnews h1 h63 hbytes hbase fun v' w' h2 h3 _ => h v' w' h2 h3

/-- An operation whose guard is shut, taken first. -/
theorem wpAnyH_skip {P : Program} {ops : Array Oper} {Q : Exit → Act → World → Prop} {md : Region.Mode} {S : World → Prop} {i : Nat} {oi : Oper} (d : Option Nat) {fuel : Nat} {listed : Array Bool} {a : Act} {w : World} (hi : ops[i]? = some oi) (hd : oi.dst = d)
    (hs : Region.noSelect ops = true) (hf : Region.free md ops listed i = true) (hr : (Region.ready md ops listed).contains i = true)
    (hQ : ∀ c a w, Q (.panic c) (a.put d undef) w → Q (.panic c) a w) (hy : Region.wanted oi (yielded ops a.tmps) = false) (hS : S w)
    (h : wpAnyH P md ops Q S fuel (listed.setIfInBounds i true) (a.put d undef) w) : wpAnyH P md ops Q S (fuel + 1) listed a w := by
  subst hd
  exact wpAnyH_take hi hs hf hr hQ (Or.inr ⟨hy, rfl⟩) hS h
/-- An operation that yields a value whatever the world, taken first. -/
theorem wpAnyH_val {P : Program} {ops : Array Oper} {Q : Exit → Act → World → Prop} {md : Region.Mode} {S : World → Prop} {i : Nat} {oi : Oper} (d : Option Nat) (v : Value) {fuel : Nat} {listed : Array Bool} {a : Act} {w : World} (hi : ops[i]? = some oi) (hd : oi.dst = d)
    (hs : Region.noSelect ops = true) (hf : Region.free md ops listed i = true) (hr : (Region.ready md ops listed).contains i = true)
    (hQ : ∀ c a w, Q (.panic c) (a.put d v) w → Q (.panic c) a w) (hw : Region.wanted oi (yielded ops a.tmps) = true) (hS : S w) (hy : ∀ w, S w → (execOp a.eval oi).run P w = .ok (.value v) w)
    (h : wpAnyH P md ops Q S fuel (listed.setIfInBounds i true) (a.put d v) w) : wpAnyH P md ops Q S (fuel + 1) listed a w := by
  subst hd
  exact wpAnyH_take hi hs hf hr hQ (Or.inl ⟨hw, hy⟩) hS h
theorem nl_take {D : List (Int × Int)} {i k : Nat} (h : k < i) : nl (D.take i) k = nl D k := by unfold nl; simp [List.getD, h]
theorem nr_take {D : List (Int × Int)} {i k : Nat} (h : k < i) : nr (D.take i) k = nr D k := by unfold nr; simp [List.getD, h]
theorem DepsAt.take {w : World} {oa : Option Addr} {D : List (Int × Int)} (h : DepsAt w oa D) (i : Nat) : DepsAt w oa (D.take i) := by
  refine ⟨by have := h.len; rw [List.length_take]; omega, fun h0 => ?_⟩
  rw [List.length_take] at h0
  obtain ⟨b, off, e, hlt, hc⟩ := h.at_ (by omega)
  refine ⟨b, off, e, hlt, fun k hk => ?_⟩
  rw [List.length_take] at hk
  rw [nl_take (by omega), nr_take (by omega)]
  exact hc k (by omega)
theorem OwnD.row {w : World} {base : Nat} {v : Value} {i : Nat} {D : List (Int × Int)} (hi : i ≤ D.length) (h : OwnD w base v (D.take i)) : w.ownsRow base 28 2 v i (dcells (D.take i)) := by
  unfold OwnD at h; rwa [List.length_take, Nat.min_eq_left hi] at h

theorem no_news {w : World} {ad : Addr} : ∀ (j : Nat) (u : Value), ([] : List Value)[j]? = some u → w.cell? (ad.add j) = some u := by intro j u hj; cases hj
theorem no_one : ∀ u ∈ ([] : List Value), u.oneCell' = true := by intro u hu; cases hu
end Go.Proofs.YtcenndlbhgfdfaaDoor
namespace Go.Proofs.YtcenndlbhgfdfaaDoor
open Go.RowKit
set_option linter.unusedVariables false
set_option maxRecDepth 100000

def redStep (D : List (Int × Int)) (r x c : Int) : Int := if dif x (one c) != x && hasc (cloF D (dif x (one c))) r then dif x (one c) else x
def fiveI : List Int := [0, 1, 2, 3, 4]
def redF (D : List (Int × Int)) (l r : Int) : Int := fiveI.foldl (redStep D r) l
def reduceF (n : Int) (D : List (Int × Int)) (l r : Int) : Int := if impliesDepF n D l r then redF D l r else l

theorem redStep_st {D : List (Int × Int)} {r x c : Int} (hx : St x) (hc : Co c) : St (redStep D r x c) := by
  unfold redStep; split
  · exact dif_st hx (one_st hc)
  · exact hx
theorem dif_one_same {x c : Int} (hx : St x) (hc : Co c) : (dif x (one c) != x) = hasc x c := by
  obtain ⟨n, hn, rfl⟩ := st_nat hx; obtain ⟨k, hk, rfl⟩ := co_nat hc
  have h : ∀ n < 32, ∀ k < 5, (dif (n : Nat) (one (k : Nat)) != (n : Nat)) = hasc (n : Nat) (k : Nat) := by decide +kernel
  exact h n hn k hk
theorem redStep_no {D : List (Int × Int)} {r x c : Int} (hx : St x) (hc : Co c) (h : hasc x c = false) : redStep D r x c = x := by
  unfold redStep; rw [dif_one_same hx hc, h]; simp
theorem redStep_other {D : List (Int × Int)} {r x c e : Int} (hx : St x) (hc : Co c) (he : Co e) (hne : c ≠ e) : hasc (redStep D r x c) e = hasc x e := by
  unfold redStep; split
  · rw [hasc_dif hx (one_st hc) he, hasc_one hc he]
    simp [hne]
  · rfl
theorem impliesDepF_val {n : Int} {D : List (Int × Int)} {l r : Int} (h : impliesDepF n D l r = true) : Val D ∧ St l ∧ Co r := by
  simp only [impliesDepF, Bool.and_eq_true] at h
  have := (isDepF_val h.2.1).1
  exact ⟨(areDepsF_val h.1).1, this.1, this.2⟩

theorem five_drop (k : Nat) (hk : k < 5) (f : Int → Int → Int) (x : Int) : (fiveI.drop k).foldl f x = (fiveI.drop (k + 1)).foldl f (f x k) := by
  match k, hk with
  | 0, _ => rfl
  | 1, _ => rfl
  | 2, _ => rfl
  | 3, _ => rfl
  | 4, _ => rfl

end Go.Proofs.YtcenndlbhgfdfaaDoor
namespace Go.Proofs.YtcenndlbhgfdfaaDoor
open Go.RowKit
set_option linter.unusedVariables false
set_option maxRecDepth 100000

theorem members_mem {x c : Int} (hx : St x) : c ∈ membersF x ↔ Co c ∧ hasc x c = true := by
  have e : stB x = true := by simpa [stB] using hx
  unfold membersF membersUpTo
  rw [e, if_pos rfl, List.mem_filter, List.mem_map]
  constructor
  · rintro ⟨⟨k, hk, rfl⟩, h⟩
    exact ⟨⟨by omega, by have := List.mem_range.1 hk; omega⟩, h⟩
  · rintro ⟨hc, h⟩
    obtain ⟨k, hk, rfl⟩ := co_nat hc
    exact ⟨⟨k, List.mem_range.2 hk, rfl⟩, h⟩
theorem members_nodup (x : Int) : (membersF x).Nodup := by
  unfold membersF membersUpTo
  split
  · apply List.Pairwise.filter
    rw [show ((List.range 5).map fun (c : Nat) => (c : Int)) = fiveI from rfl]
    decide
  · exact List.Pairwise.nil
theorem fold_filter {D : List (Int × Int)} {r l : Int} : ∀ (cs : List Int) (x : Int), St x → (∀ c ∈ cs, Co c) → cs.Nodup → (∀ c ∈ cs, hasc x c = hasc l c) →
    cs.foldl (redStep D r) x = (cs.filter (hasc l)).foldl (redStep D r) x
  | [], _, _, _, _, _ => rfl
  | c :: cs, x, hx, hco, hnd, h => by
    have hc := hco c (List.mem_cons_self ..)
    have hco' : ∀ d ∈ cs, Co d := fun d hd => hco d (List.mem_cons_of_mem _ hd)
    obtain ⟨hn1, hn2⟩ := List.nodup_cons.1 hnd
    have hst := redStep_st (D := D) (r := r) hx hc
    have hs : ∀ d ∈ cs, hasc (redStep D r x c) d = hasc l d := fun d hd => by
      rw [redStep_other hx hc (hco' d hd) (fun e => hn1 (e ▸ hd))]
      exact h d (List.mem_cons_of_mem _ hd)
    have ih := fold_filter (D := D) (r := r) (l := l) cs _ hst hco' hn2 hs
    rw [List.foldl_cons, List.filter_cons]
    cases hl : hasc l c
    · have e : redStep D r x c = x := redStep_no hx hc (by rw [h c (List.mem_cons_self ..), hl])
      rw [e] at ih ⊢
      exact ih
    · simp only [if_true, List.foldl_cons]
      exact ih
theorem redF_members {D : List (Int × Int)} {l r : Int} (hl : St l) : redF D l r = (membersF l).foldl (redStep D r) l := by
  have e : stB l = true := by simpa [stB] using hl
  have hm : membersF l = fiveI.filter (hasc l) := by unfold membersF membersUpTo; rw [e, if_pos rfl]; rfl
  rw [hm]
  exact fold_filter fiveI l hl (by decide) (by decide) (fun _ _ => rfl)
theorem nth_drop {L : List Int} {k : Nat} (hk : k < L.length) : L.drop k = nth L k :: L.drop (k + 1) := by
  rw [List.drop_eq_getElem_cons hk]
  congr 1
  have := nth_eq hk
  rw [List.getElem?_eq_getElem hk] at this
  exact Option.some.inj this

end Go.Proofs.YtcenndlbhgfdfaaDoor
namespace Go.Proofs.YtcenndlbhgfdfaaDoor
open Go.RowKit
set_option linter.unusedVariables false
set_option maxRecDepth 100000

def coverBad (n : Int) (D : List (Int × Int)) (i : Nat) : Bool := impliesDepF n (eraD D i) (nl D i) (nr D i) || !(reduceF n D (nl D i) (nr D i) == nl D i)
def isCoverF (n : Int) (D : List (Int × Int)) : Bool := areDepsF n D && (List.range D.length).all fun i => !coverBad n D i
theorem OwnD.cap {w : World} {base : Nat} {v : Value} {L : List (Int × Int)} (h : OwnD w base v L) : ∃ oa cap, v = .slice oa L.length cap ∧ L.length ≤ cap ∧ (oa = none → cap = 0) := by
  rcases h.2 with ⟨hv, h0⟩ | ⟨g, cap, cur, hv, hb, hg, hl, _⟩
  · exact ⟨none, 0, by rw [hv, h0], by omega, fun _ => rfl⟩
  · exact ⟨_, cap, hv, hl, fun h => by cases h⟩
theorem range_all_succ (p : Nat → Bool) (k : Nat) : (List.range (k + 1)).all p = ((List.range k).all p && p k) := by
  rw [List.range_succ, List.all_append]; simp
theorem range_all_false (p : Nat → Bool) (k n : Nat) (hk : k < n) (h : p k = false) : (List.range n).all p = false := by
  rw [List.all_eq_false]; exact ⟨k, List.mem_range.2 hk, by simp [h]⟩
theorem eraD_len {D : List (Int × Int)} {i : Nat} (h : i < D.length) : (eraD D i).length = D.length - 1 := by
  unfold eraD; rw [List.length_append, List.length_take, List.length_drop]; omega

theorem mem_eraD {D : List (Int × Int)} {i : Nat} {d : Int × Int} (h : d ∈ eraD D i) : d ∈ D := by
  unfold eraD at h
  rcases List.mem_append.1 h with h | h
  · exact List.mem_of_mem_take h
  · exact List.mem_of_mem_drop h
theorem nth_mem {D : List (Int × Int)} {k : Nat} (h : k < D.length) : (nl D k, nr D k) ∈ D := List.mem_iff_getElem?.2 ⟨k, dnth_eq h⟩
theorem areDepsF_mem {n : Int} {D : List (Int × Int)} (h : areDepsF n D = true) {d : Int × Int} (hd : d ∈ D) : isDepF n d.1 d.2 = true := by
  simp only [areDepsF, Bool.and_eq_true, decide_eq_true_eq, List.all_eq_true] at h
  exact h.1 d hd
theorem areDepsF_sub {n : Int} {D E : List (Int × Int)} (h : areDepsF n D = true) (hs : ∀ d ∈ E, d ∈ D) (hl : E.length ≤ D.length) : areDepsF n E = true := by
  simp only [areDepsF, Bool.and_eq_true, decide_eq_true_eq, List.all_eq_true] at h ⊢
  exact ⟨fun d hd => h.1 d (hs d hd), h.2.1, by omega⟩
theorem areDepsF_era {n : Int} {D : List (Int × Int)} (h : areDepsF n D = true) {i : Nat} (hi : i < D.length) : areDepsF n (eraD D i) = true :=
  areDepsF_sub h (fun _ hd => mem_eraD hd) (by rw [eraD_len hi]; omega)

end Go.Proofs.YtcenndlbhgfdfaaDoor
namespace Go.Proofs.YtcenndlbhgfdfaaDoor
open Go.RowKit
set_option linter.unusedVariables false
set_option maxRecDepth 100000

def addF (n : Int) (D A : List (Int × Int)) (d : Int × Int) : List (Int × Int) := if A.contains (reduceF n D d.1 d.2, d.2) then A else A ++ [(reduceF n D d.1 d.2, d.2)]
def dstF (n : Int) (D : List (Int × Int)) (k : Nat) : List (Int × Int) := (D.take k).foldl (addF n D) []
def pruneF (n : Int) : Nat → List (Int × Int) → Nat → List (Int × Int)
  | 0, A, _ => A
  | f + 1, A, i => if i < A.length then (if impliesDepF n (eraD A i) (nl A i) (nr A i) then pruneF n f (eraD A i) i else pruneF n f A (i + 1)) else A
def coverOfF (n : Int) (D : List (Int × Int)) : List (Int × Int) := if areDepsF n D then pruneF n (dstF n D D.length).length (dstF n D D.length) 0 else []
theorem dstF_succ {n : Int} {D : List (Int × Int)} {k : Nat} (hk : k < D.length) : dstF n D (k + 1) = addF n D (dstF n D k) (nl D k, nr D k) := by
  unfold dstF; rw [List.take_add_one, dnth_eq hk, List.foldl_append]; rfl
theorem dstF_len (n : Int) (D : List (Int × Int)) : ∀ k, k ≤ D.length → (dstF n D k).length ≤ k
  | 0, _ => by simp [dstF]
  | k + 1, hk => by
    rw [dstF_succ (by omega)]
    have := dstF_len n D k (by omega)
    unfold addF; split
    · omega
    · simp; omega
theorem dif_leC {x c : Int} (hx : St x) (hc : Co c) : dif x (one c) ≤ x := by
  obtain ⟨n, hn, rfl⟩ := st_nat hx; obtain ⟨k, hk, rfl⟩ := co_nat hc
  have h : ∀ n < 32, ∀ k < 5, dif (n : Nat) (one (k : Nat)) ≤ (n : Nat) := by decide +kernel
  exact h n hn k hk
theorem foldl_le {D : List (Int × Int)} {r : Int} : ∀ (C : List Int) (x : Int), (∀ c ∈ C, Co c) → St x → C.foldl (redStep D r) x ≤ x ∧ St (C.foldl (redStep D r) x)
  | [], x, _, hx => ⟨Int.le_refl x, hx⟩
  | c :: C, x, hC, hx => by
    have hc := hC c (List.mem_cons_self ..)
    have h1 : redStep D r x c ≤ x := by
      unfold redStep; split
      · exact dif_leC hx hc
      · exact Int.le_refl x
    have h2 := foldl_le (D := D) (r := r) C (redStep D r x c) (fun d hd => hC d (List.mem_cons_of_mem _ hd)) (redStep_st hx hc)
    exact ⟨Int.le_trans h2.1 h1, h2.2⟩
theorem five_co : ∀ c ∈ fiveI, Co c := by decide
theorem reduceF_dep {n l r : Int} {D : List (Int × Int)} (h : isDepF n l r = true) : isDepF n (reduceF n D l r) r = true := by
  unfold reduceF
  split
  · have hst := (isDepF_val h).1.1
    have := foldl_le (D := D) (r := r) fiveI l five_co hst
    simp only [isDepF, isAttr, Bool.and_eq_true, decide_eq_true_eq] at h ⊢
    unfold redF
    exact ⟨⟨⟨h.1.1.1, ⟨h.1.1.2.1.1, this.2.1⟩, Int.lt_of_le_of_lt this.1 h.1.1.2.2⟩, h.1.2⟩, h.2⟩
  · exact h
theorem dstF_dep {n : Int} {D : List (Int × Int)} (ha : areDepsF n D = true) : ∀ k, k ≤ D.length → ∀ d ∈ dstF n D k, isDepF n d.1 d.2 = true
  | 0, _, d, hd => by simp [dstF] at hd
  | k + 1, hk, d, hd => by
    rw [dstF_succ (by omega)] at hd
    unfold addF at hd
    split at hd
    · exact dstF_dep ha k (by omega) d hd
    · rcases List.mem_append.1 hd with hd | hd
      · exact dstF_dep ha k (by omega) d hd
      · simp at hd; subst hd
        exact reduceF_dep (areDepsF_mem ha (nth_mem (k := k) (by omega)))
theorem pruneF_end {n : Int} {A : List (Int × Int)} {i : Nat} (h : A.length ≤ i) (f : Nat) : pruneF n f A i = A := by
  cases f with
  | zero => rfl
  | succ f => unfold pruneF; rw [if_neg (by omega)]
theorem pruneF_del {n : Int} {A : List (Int × Int)} {i : Nat} (h : i < A.length) (hi : impliesDepF n (eraD A i) (nl A i) (nr A i) = true) : pruneF n (A.length - i) A i = pruneF n ((eraD A i).length - i) (eraD A i) i := by
  have e : A.length - i = ((eraD A i).length - i) + 1 := by rw [eraD_len h]; omega
  rw [e]; conv => lhs; unfold pruneF
  rw [if_pos h, hi]; rfl
theorem pruneF_keep {n : Int} {A : List (Int × Int)} {i : Nat} (h : i < A.length) (hi : impliesDepF n (eraD A i) (nl A i) (nr A i) = false) : pruneF n (A.length - i) A i = pruneF n (A.length - (i + 1)) A (i + 1) := by
  have e : A.length - i = (A.length - (i + 1)) + 1 := by omega
  rw [e]; conv => lhs; unfold pruneF
  rw [if_pos h, hi]; rfl
theorem contains_succ {A : List (Int × Int)} {k : Nat} (h : k < A.length) (d : Int × Int) : (A.take (k + 1)).contains d = ((A.take k).contains d || (nl A k == d.1 && nr A k == d.2)) := by
  rw [List.take_add_one, dnth_eq h, Bool.eq_iff_iff]
  simp only [Option.toList, List.contains_iff_mem, List.mem_append, List.mem_singleton, Bool.or_eq_true, Bool.and_eq_true, beq_iff_eq, Prod.ext_iff]
  constructor
  · rintro (h | ⟨h1, h2⟩)
    · exact .inl h
    · exact .inr ⟨h1.symm, h2.symm⟩
  · rintro (h | ⟨h1, h2⟩)
    · exact .inl h
    · exact .inr ⟨h1.symm, h2.symm⟩
theorem contains_at {A : List (Int × Int)} {k : Nat} (h : k < A.length) {l r : Int} (h1 : nl A k = l) (h2 : nr A k = r) : A.contains (l, r) = true := by
  subst h1; subst h2
  simp only [List.contains_iff_mem]; exact nth_mem h
def slen : Value → Nat
  | .slice _ n _ => n
  | _ => 0

end Go.Proofs.YtcenndlbhgfdfaaDoor
namespace Go.Proofs.YtcenndlbhgfdfaaDoor
open Go.RowKit
set_option linter.unusedVariables false
set_option maxRecDepth 100000

theorem OwnD.snoc {w : World} {base : Nat} {v : Value} {A : List (Int × Int)} {l r : Int} (h : w.ownsRow base 28 2 v (A.length + 1) (dcells A ++ [.int .i64 l, .int .i64 r])) : OwnD w base v (A ++ [(l, r)]) := OwnD.joined (B := [(l, r)]) h

end Go.Proofs.YtcenndlbhgfdfaaDoor
namespace Go.Proofs.YtcenndlbhgfdfaaDoor
open Go.RowKit
set_option linter.unusedVariables false
set_option maxRecDepth 100000

theorem grown_more {w a b : World} {g : Nat} {row : Option Nat} (hG : w.grownBy a (some g)) (hg : a.grownBy b row) (hr : ∀ k, row = some k → w.heap.size ≤ k) : w.grownBy b (some g) :=
  ⟨hg.os.trans hG.os, hg.tape.trans hG.tape, hg.output.trans hG.output, Nat.le_trans hG.size hg.size, fun i hi hne => (hg.block i (Nat.lt_of_lt_of_le hi hG.size) (fun e => by have := hr i e.symm; omega)).trans (hG.block i hi hne)⟩
theorem owns_cur {w w' : World} {B size n g : Nat} {e : TypeId} {v : Value} {xs : List Value} (h : w.ownsRow B e size v n xs) (hg : w.grownBy w' (some g)) (hB : g < B) : w'.ownsRow B e size v n xs :=
  World.ownsRow.kept h hg (.inr fun e => by have := (World.ownsRow.lt h g e).1; omega)
theorem OwnD.cur {w w' : World} {B g : Nat} {v : Value} {D : List (Int × Int)} (h : OwnD w B v D) (hg : w.grownBy w' (some g)) (hB : g < B) : OwnD w' B v D := owns_cur h hg hB
/-- What the cursor has turned lies behind the base. -/
theorem below_cur {w a b : World} {g : Nat} (hb : Below w.heap.size w a) (hg : a.grownBy b (some g)) (hB : w.heap.size ≤ g) : Below w.heap.size w b := hb.grown hg hb.size (fun k e => by injection e with e; omega)
end Go.Proofs.YtcenndlbhgfdfaaDoor
namespace Go.Proofs.YtcenndlbhgfdfaaDoor
open Go.RowKit
set_option linter.unusedVariables false
set_option maxRecDepth 100000

end Go.Proofs.YtcenndlbhgfdfaaDoor
namespace Go.Proofs.YtcenndlbhgfdfaaDoor
open Go.RowKit
set_option linter.unusedVariables false
set_option maxRecDepth 100000

theorem room_of {n : Nat} (h : (n : Int) ≤ 1048576) : n ≤ Room := by unfold Room; omega
def depEqB (a b c d : Int) : Bool := decide (a = c ∧ b = d)
theorem dlist_ext {L M : List (Int × Int)} (hl : L.length = M.length) (h : ∀ k, k < L.length → nl L k = nl M k ∧ nr L k = nr M k) : L = M := by
  apply List.ext_getElem?
  intro k
  by_cases hk : k < L.length
  · rw [dnth_eq hk, dnth_eq (by omega), (h k hk).1, (h k hk).2]
  · rw [List.getElem?_eq_none (by omega), List.getElem?_eq_none (by omega)]

/-- A slice of dependencies that came in. -/
def InDeps (w : World) (v : Value) : Prop := ∃ a len cap, v = .slice a len cap ∧ len ≤ maxLen ∧ (len ≤ Room → ∃ D : List (Int × Int), D.length = len ∧ DepsAt w a D)

end Go.Proofs.YtcenndlbhgfdfaaDoor
namespace Go.Proofs.YtcenndlbhgfdfaaDoor
open Go.RowKit
set_option linter.unusedVariables false
set_option maxRecDepth 100000

theorem rows_ext' {A B : List (List Int)} (hl : A.length = B.length) (h : ∀ k, k < A.length → row A k = row B k) : A = B := by
  apply List.ext_getElem hl
  intro j h1 h2
  have := h j h1
  simp [row, List.getD, h1, h2] at this
  exact this

def eqTabF (n k : Int) (A B : List (List Int)) : Bool := (n == k) && decide (A = B)
end Go.Proofs.YtcenndlbhgfdfaaDoor
