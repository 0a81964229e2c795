/- PartitionOf, of the program. -/
import Derived.Test.YtkanbnbofoabeaaPtn
import Derived.Test.YtkanbnbofoabeaaRowsA
import Derived.Deep.RegionHeld3
namespace Go.Proofs.Ytkanbnbofoabeaa
open Go.RowKit
set_option linter.unusedVariables false
set_option maxRecDepth 100000

theorem c_equalIn (m s : Int) (oa ob) (ca cb : Nat) (A B : List Int) (w : World) (hA : IntsAt w oa A) (hB : IntsAt w ob B) (hl : A.length ≤ 5) (hAB : B.length = A.length) :
    Ans Try.prog 127 #[.int .i64 m, .slice oa A.length ca, .slice ob B.length cb, .int .i64 s] w (.bool (ins s (agreeF m A B))) := by
  unfold Ans
  have hb := Below.refl w.heap.size w
  have HA : Hid (B.length = A.length) := hAB
  clear hAB
  go_enter Try.func127, Try.ntmps127
  go_wp2_with (first | (go_at_call 152; refine Calls.mono (c_agree m _ _ _ _ A B _ hA hB hl HA.out) ?_; rintro e w1 ⟨rfl, hbn⟩; replace hb := bel_to (w := w) (by first | exact hb | exact hb.alloc hb.size _ | exact (hb.alloc hb.size _).alloc (Nat.le_trans hb.size (by simp)) _ | exact hb.setCell (by simp [hb.size]) _) hbn; clear hbn) | (go_at_call 119; refine Calls.mono (c_inside _ _ _) ?_; rintro e w1 ⟨rfl, hbn⟩; replace hb := bel_to (w := w) (by first | exact hb | exact hb.alloc hb.size _ | exact (hb.alloc hb.size _).alloc (Nat.le_trans hb.size (by simp)) _ | exact hb.setCell (by simp [hb.size]) _) hbn; clear hbn))
  go_ret
  exact ⟨rfl, hb⟩
theorem c_clS (n : Int) (oa) (cap : Nat) (R : List (List Int)) (m s : Int) (i k : Nat) (X Y Z : Nat) (w : World) (hR : RowsAt w oa R) (ht : isTabF n R = true) (hi : i < R.length) (hk : k < R.length)
    (m0 : w.cell? ⟨X, 0, none⟩ = some (.int .i64 m)) (a1 : w.cell? ⟨Y, 1, none⟩ = some (.slice oa R.length cap)) (s0 : w.cell? ⟨Z, 0, none⟩ = some (.int .i64 s)) :
    Ans Try.prog 126 #[.int .i64 i, .int .i64 k, .pointer (some ⟨X, 0, none⟩), .pointer (some ⟨Y, 0, none⟩), .pointer (some ⟨Z, 0, none⟩)] w (.bool (sameB R m s i k)) := by
  unfold Ans
  obtain ⟨hn1, hn5, hr40, hlen⟩ := isTab_of ht
  have hb := Below.refl w.heap.size w
  obtain ⟨b, off, rfl, hbs, hc⟩ := hR.at_ (by omega)
  obtain ⟨o1, c1, h1, r1⟩ := hc i hi
  obtain ⟨o2, c2, h2, r2⟩ := hc k hk
  have l1 : (row R i).length ≤ 5 := by have := hlen i hi; omega
  have HL : Hid ((row R k).length = (row R i).length) := by have := hlen i hi; have := hlen k hk; show (row R k).length = (row R i).length; omega
  have hx1 := fun (x : After w) => r1.keep x.bel
  have hx2 := fun (x : After w) => r2.keep x.bel
  have HV : Hid (sameB R m s i k = ins s (agreeF m (row R i) (row R k))) := rfl
  clear hc hlen ht hR
  generalize row R i = A at *
  generalize row R k = B at *
  go_enter Try.func126, Try.ntmps126
  go_wp2_with fail
  (refine wp_region_after (by kernel_rfl) (by kernel_rfl) ?_; have q_m0 := fun (x : After _) => cell_keep m0 x.bel; have q_a1 := fun (x : After _) => cell_keep a1 x.bel; have q_s0 := fun (x : After _) => cell_keep s0 x.bel; have q_h1 := fun (x : After _) => cell_keep h1 x.bel; have q_h2 := fun (x : After _) => cell_keep h2 x.bel; (repeat (go_big_quiet_step ((first | (go_at_call 127; exact Ans.after (c_equalIn m s _ _ _ _ A B _ (hx1 _) (hx2 _) l1 HL.out)))))); clear q_m0; clear q_a1; clear q_s0; clear q_h1; clear q_h2; refine wpQuiet_nil ?_; rintro _ ⟨⟨w1, hbn⟩, rfl⟩; (try simp only [After.w]); replace m0 := cell_keep m0 hbn; replace a1 := cell_keep a1 hbn; replace s0 := cell_keep s0 hbn; replace h1 := cell_keep h1 hbn; replace h2 := cell_keep h2 hbn; replace hb := bel_to (w := w) (by first | exact hb | exact hb.alloc hb.size _ | exact (hb.alloc hb.size _).alloc (Nat.le_trans hb.size (by simp)) _ | exact hb.setCell (by simp [hb.size]) _) hbn; clear hbn)
  go_wp2
  go_ret
  exact ⟨ret_bool HV.out.symm, hb⟩

set_option maxHeartbeats 3200000 in
theorem c_classesOf_S (N : Nat) (hN : N ≤ 40) (e0 e1 e2 : Value) (q : Nat → Nat → Bool) (hp : Per q N) (w : World)
    (hcl : ∀ (W : World) (i k : Nat), i < k → k < N → Below w.heap.size w W → Ans Try.prog 126 #[.int .i64 i, .int .i64 k, e0, e1, e2] W (.bool (q i k))) :
    Calls Try.prog 125 #[.int .i64 N, .func (.func 126) #[] #[e0, e1, e2]] w fun e w' => ∃ v xs, e = .returned v ∧ OwnRows w' w.heap.size v xs (ptnQ q N N) ∧ Below w.heap.size w w' := by
  obtain ⟨i0, hi, hz0, hz1, hz2⟩ := info_parts info_int
  obtain ⟨j0, hj, hy0, hy1, hy2⟩ := info_parts info_ints
  obtain ⟨b0, hbo, hx0, hx1, hx2⟩ := info_parts info_bool
  have hb := (Below.refl w.heap.size w).alloc (Nat.le_refl _) (.cells #[] 69)
  have hC := OwnRows.empty w w.heap.size (Nat.le_refl _)
  have HQ : Hid (∀ (W : World) (i k : Nat), i < k → k < N → Below w.heap.size w W → Ans Try.prog 126 #[.int .i64 i, .int .i64 k, e0, e1, e2] W (.bool (q i k))) := hcl
  have HP : Hid (Per q N) := hp
  clear hcl hp
  go_enter Try.func125, Try.ntmps125
  have oldC := hC
  go_wp2_with (first | (at_make; refine wpList_make_full _ rfl _ _ 116 rfl (w.heap.size + 1) 4 b0 (.bool false) 1 Try.underlying116 hbo hx0 hx1 .i64 .i64 _ _ N rfl rfl rfl rfl (by rw [hx2]; omega) (by unfold maxLen; omega) (by simp) ?_; intro w1 hown hgrow))
  have hT := ownB_made hown
  have ap_CT : ApartR (.slice (some ⟨w.heap.size, 0, none⟩) 0 0) [] (.slice (some ⟨w.heap.size + 1, 0, none⟩) N N) := ⟨.inr (by simp [Value.ownBlock]), fun y hy => by cases hy⟩
  have hbg : Below (w.alloc (.cells #[] 69)).heap.size (w.alloc (.cells #[] 69)) w1 := below_grown hgrow (Nat.le_refl _) (by simp)
  replace hC := hC.keep hbg
  replace hb := bel_to hb hbg
  replace hT : OwnB w1 w.heap.size (.slice (some ⟨w.heap.size + 1, 0, none⟩) N N) (List.replicate N false) := OwnB.based (by simpa only [World.size_alloc] using hT) (Nat.le_succ w.heap.size)
  clear hown hgrow hbg hbo hx0 hx1 hx2 b0 oldC
  go_loopw [5, 7] (fun vC i wr => ∃ (i' : Nat) (xs : List Value) (T : List Bool), i = .int .i64 i' ∧ i' ≤ N ∧ OwnRows wr w.heap.size vC xs (ptnQ q N i') ∧ T.length = N ∧ (∀ k, i' ≤ k → k < N → bth T k = tkQ q i' k) ∧ OwnB wr w.heap.size (.slice (some ⟨w.heap.size + 1, 0, none⟩) N N) T ∧ ApartR vC xs (.slice (some ⟨w.heap.size + 1, 0, none⟩) N N) ∧ Below w.heap.size w wr) (fun _ i _ => N - (intOf i).toNat)
  case atStart => exact ⟨0, [], List.replicate N false, rfl, Nat.zero_le _, hC, by simp, fun k _ _ => by rw [bth_replicate]; simp [tkQ], hT, ap_CT, hb⟩
  case round =>
    clear hC hT ap_CT hb
    obtain ⟨i, xs, T, rfl, hi', hC, hTl, hTk, hT, ap_CT, hb⟩ := hrel
    have HTl : Hid (T.length = N) := hTl
    have HTk : Hid (∀ k, i ≤ k → k < N → bth T k = tkQ q i k) := hTk
    have hpl := ptn_len q N i
    have hxl := hC.len
    have hxs : xs.length ≤ 40 := by omega
    clear hTl hTk
    by_cases hlt : i < N
    · have hc1 := hT.cell HTl.out.symm i hlt
      have hc6 := hc1.1
      have hc7 := hc1.2
      have HTi : Hid (bth T i = tkQ q i i) := HTk.out i (Nat.le_refl _) hlt
      clear hc1 hxl
      cases hti : tkQ q i i
      · have HS : Hid (ptnQ q N (i + 1) = ptnQ q N i ++ (if decide (1 < (clsTo q i N).length) then [clsTo q i N] else [])) := by
          show ptnQ q N (i + 1) = _
          rw [ptn_succ]; unfold headQ; rw [hti]; rfl
        have HF : Hid (clsTo q i (i + 1) = [(i : Int)]) := cls_first q i
        generalize ptnQ q N i = P at *
        rw [HTi.out, hti] at hc6
        have hI := OwnI.single wr w.heap.size hb.size (i : Int)
        have hIf := OwnI.single wr wr.heap.size (Nat.le_refl _) (i : Int)
        have ap_CI := hC.fresh hIf
        have ap_TI := apart_old hT hIf
        replace hC := hC.keep ((Below.refl wr.heap.size wr).alloc (Nat.le_refl _) (.cells #[.int .i64 (i : Int)] 3))
        replace hT := hT.keep ((Below.refl wr.heap.size wr).alloc (Nat.le_refl _) (.cells #[.int .i64 (i : Int)] 3))
        replace hb := hb.alloc hb.size (.cells #[.int .i64 (i : Int)] 3)
        clear hIf
        go_wp2
        go_loopw [8, 9] (fun vI k' wr => ∃ (k : Nat) (T : List Bool), k' = .int .i64 k ∧ i < k ∧ k ≤ N ∧ OwnI wr w.heap.size vI (clsTo q i k) ∧ OwnRows wr w.heap.size u5 xs P ∧ T.length = N ∧ (∀ t, i < t → t < N → bth T t = if t < k then tkQ q (i + 1) t else tkQ q i t) ∧ OwnB wr w.heap.size (.slice (some ⟨w.heap.size + 1, 0, none⟩) N N) T ∧ ApartR u5 xs (.slice (some ⟨w.heap.size + 1, 0, none⟩) N N) ∧ ApartR u5 xs vI ∧ Apart (.slice (some ⟨w.heap.size + 1, 0, none⟩) N N) vI ∧ Below w.heap.size w wr) (fun _ k _ => N - (intOf k).toNat)
        case atStart => exact ⟨i + 1, T, by go_num, by omega, by omega, by rw [HF.out]; exact hI, hC, HTl.out, fun t h1 h2 => by rw [HTk.out t (by omega) h2, if_neg (by omega)], hT, ap_CT, ap_CI, ap_TI, hb⟩
        case round =>
          clear hC hT hI ap_CT ap_CI ap_TI hb hc6 hc7 HTl HTk HTi HF
          obtain ⟨k, T, rfl, hik, hk, hI, hC, hTl, hTk, hT, ap_CT, ap_CI, ap_TI, hb⟩ := hrel
          have HTl : Hid (T.length = N) := hTl
          have HTk : Hid (∀ t, i < t → t < N → bth T t = if t < k then tkQ q (i + 1) t else tkQ q i t) := hTk
          have hcl := cls_len q i k
          clear hTl hTk
          by_cases hlk : k < N
          · have HCS : Hid (clsTo q i (k + 1) = clsTo q i k ++ (if q i k then [(k : Int)] else [])) := by
              show clsTo q i (k + 1) = _
              rw [cls_succ, decide_eq_true hik]; rfl
            have hc1 := hT.cell HTl.out.symm k hlk
            have hc6 := hc1.1
            have hc7 := hc1.2
            have HTi : Hid (bth T k = tkQ q i k) := by show bth T k = _; rw [HTk.out k hik hlk, if_neg (by omega)]
            have HSk : Hid (tkQ q (i + 1) k = (tkQ q i k || q i k)) := by show tkQ q (i + 1) k = _; rw [tk_succ, decide_eq_true hik]; rfl
            clear hc1
            generalize clsTo q i k = L at *
            cases hqk : q i k
            · have HN : Hid (∀ t, i < t → t < N → bth T t = if t < k + 1 then tkQ q (i + 1) t else tkQ q i t) := fun t h1 h2 => by
                rw [HTk.out t h1 h2]
                by_cases e : t = k
                · subst e; rw [if_neg (by omega), if_pos (by omega), HSk.out, hqk, Bool.or_false]
                · by_cases h' : t < k
                  · rw [if_pos h', if_pos (by omega)]
                  · rw [if_neg h', if_neg (by omega)]
              cases htk : tkQ q i k
              · rw [HTi.out, htk] at hc6
                go_wp2_with (first | (go_at_call 126; refine Calls.mono (Ans.eqb (HQ.out _ i k hik hlk hb) hqk) ?_; rintro e w1 ⟨rfl, hbn⟩; replace hT := hT.keep hbn; replace hC := hC.keep hbn; replace hI := hI.keep hbn; replace hb := bel_to hb hbn; clear hbn) | fail)
                go_roundw
                case rel => exact ⟨k + 1, T, by go_num, by omega, by omega, by rw [HCS.out, hqk]; simpa using hI, hC, HTl.out, HN.out, hT, ap_CT, ap_CI, ap_TI, hb⟩
                case measure => simp [intOf]; omega
              · rw [HTi.out, htk] at hc6
                go_wp2_with (first | (go_at_call 126; refine Calls.mono (Ans.eqb (HQ.out _ i k hik hlk hb) hqk) ?_; rintro e w1 ⟨rfl, hbn⟩; replace hT := hT.keep hbn; replace hC := hC.keep hbn; replace hI := hI.keep hbn; replace hb := bel_to hb hbn; clear hbn) | fail)
                go_roundw
                case rel => exact ⟨k + 1, T, by go_num, by omega, by omega, by rw [HCS.out, hqk]; simpa using hI, hC, HTl.out, HN.out, hT, ap_CT, ap_CI, ap_TI, hb⟩
                case measure => simp [intOf]; omega
            · have htk : tkQ q i k = false := tk_free HP.out hlt hti hqk
              have HN : Hid (∀ t, i < t → t < N → bth (T.set k true) t = if t < k + 1 then tkQ q (i + 1) t else tkQ q i t) := fun t h1 h2 => by
                rw [bth_set (by have := HTl.out; omega)]
                by_cases e : t = k
                · subst e; rw [if_pos rfl, if_pos (by omega), HSk.out, hqk, Bool.or_true]
                · rw [if_neg e, HTk.out t h1 h2]
                  by_cases h' : t < k
                  · rw [if_pos h', if_pos (by omega)]
                  · rw [if_neg h', if_neg (by omega)]
              rw [HTi.out, htk] at hc6
              have HT2 : Hid ((T.set k true).length = N) := by show (T.set k true).length = N; rw [List.length_set]; exact HTl.out
              go_wp2_with (first | (go_at_call 126; refine Calls.mono (Ans.eqb (HQ.out _ i k hik hlk hb) hqk) ?_; rintro e w1 ⟨rfl, hbn⟩; replace hT := hT.keep hbn; replace hC := hC.keep hbn; replace hI := hI.keep hbn; replace hc6 := cell_keep hc6 hbn; replace hc7 := (hT.cell HTl.out.symm k hlk).2; replace hb := bel_to hb hbn; clear hbn) | (at_builtin; have hI' := OwnI.far (v' := .slice (some ⟨w.heap.size + 1, 0, none⟩) N N) hI (grown_set w1 (w.heap.size + 1) k (.bool true)) ap_TI.symm; have hC' := OwnRows.far (u := .slice (some ⟨w.heap.size + 1, 0, none⟩) N N) hC (grown_set w1 (w.heap.size + 1) k (.bool true)) ap_CT; have hT' := hT.store HTl.out.symm k true; have hb' := Below.setCell (p := (⟨w.heap.size + 1, k, none⟩ : Addr)) hb (Nat.le_succ _) (.bool true); refine wpList_append_fresh rfl _ _ 69 rfl w.heap.size 3 i0 (.int .i64 0) 1 8 Try.underlying69 hi hz0 hz1 hz2 rfl (by decide) _ _ _ rfl (World.ownsRow.alloc hI' _) _ 1 1 [.int .i64 (k : Int)] rfl rfl (World.news_of_block (cs := #[.int .i64 (k : Int)]) (t := 3) (fr := (0, 0)) (by have h9 := heap_alloc_new (w1.setCell ⟨w.heap.size + 1, k, none⟩ (.bool true)) (.cells #[.int .i64 (k : Int)] 3); simpa using h9)) (by intro u hu; simp at hu; subst hu; rfl) (by unfold maxLen; omega) (by omega) (by have := hb.size; simp; omega) ?_; intro v' w1 hown hgrow hfr; replace hb := (hb'.alloc (by have := hb.size; simp; omega) _).grown hgrow (by have := hb.size; simp; omega) (fun g hg => (World.ownsRow.lt hI' g hg).1); obtain ⟨hC, ap_CI⟩ := OwnRows.past hC' hgrow ap_CI hfr; obtain ⟨hT, ap_TI⟩ := OwnB.past hT' hgrow ap_TI hfr; replace hI := OwnI.snoc hown; clear hown hgrow hfr hI' hC' hT' hb') | fail)
              go_roundw
              case rel => exact ⟨k + 1, T.set k true, by go_num, by omega, by omega, by rw [HCS.out, hqk]; exact hI, hC, HT2.out, HN.out, hT, ap_CT, ap_CI, ap_TI, hb⟩
              case measure => simp [intOf]; omega
          · have hkk : k = N := by omega
            have HK : Hid (k = N) := hkk
            have HN : Hid (∀ t, i + 1 ≤ t → t < N → bth T t = tkQ q (i + 1) t) := fun t h1 h2 => by rw [HTk.out t (by omega) h2, if_pos (by omega)]
            have HCk : Hid (clsTo q i k = clsTo q i N) := by show clsTo q i k = clsTo q i N; rw [hkk]
            clear hkk
            rw [HCk.out] at hI
            have hcN := cls_len q i N
            generalize clsTo q i N = L at *
            obtain ⟨oL, cL, rfl⟩ := hI.shape
            by_cases h1 : 1 < L.length
            · have HSP : Hid (ptnQ q N (i + 1) = P ++ [L]) := by show ptnQ q N (i + 1) = _; rw [HS.out, decide_eq_true h1]; rfl
              have hxl2 := hC.len
              have hdec : decide ((1 : Int) < (L.length : Int)) = true := by simp; omega
              go_wp2_with (first | (at_builtin; refine wpList_append_fresh rfl _ _ 26 rfl w.heap.size 69 j0 (.slice none 0 0) 1 24 Try.underlying26 hj hy0 hy1 hy2 rfl (by decide) _ _ _ rfl (World.ownsRow.alloc hC.outer _) _ 1 1 [.slice oL L.length cL] rfl rfl (by intro j u hj; match j, hj with | 0, hj => simp at hj; subst hj; simp [Addr.add]) (by intro u hu; simp at hu; subst hu; rfl) (by unfold maxLen; omega) (by omega) (by have := hb.size; simp; omega) ?_; intro v' w1 hown hgrow hfr; replace hb := (hb.alloc hb.size _).grown hgrow (by have := hb.size; simp; omega) (fun g hg => (World.ownsRow.lt hC.outer g hg).1); have hC2 := OwnRows.snoc hC hI ap_CI hown hgrow hfr; have ap2 := (OwnB.past hT hgrow ap_CT.1.symm hfr); replace hT := ap2.1; have ap_CT2 := ap2.2.symm; clear ap2; replace hC := hC2; clear hC2 hown hgrow hfr) | fail)
              go_roundw
              case rel => exact ⟨i + 1, _, T, by go_num, by omega, by rw [HSP.out]; exact hC, HTl.out, HN.out, hT, ⟨ap_CT2, fun y hy => by rcases List.mem_append.1 hy with h' | h'; exact ap_CT.2 y h'; (rw [List.mem_singleton.1 h']; exact ap_TI.symm)⟩, hb⟩
              case measure => simp [intOf]; omega
            · have HSP : Hid (ptnQ q N (i + 1) = P) := by show ptnQ q N (i + 1) = _; rw [HS.out, decide_eq_false h1]; simp
              go_wp2
              go_roundw
              case rel => exact ⟨i + 1, xs, T, by go_num, by omega, by rw [HSP.out]; exact hC, HTl.out, HN.out, hT, ap_CT, hb⟩
              case measure => simp [intOf]; omega
      · have HS : Hid (ptnQ q N (i + 1) = ptnQ q N i) := by
          show ptnQ q N (i + 1) = _
          rw [ptn_succ]; unfold headQ; rw [hti]; simp
        have HN : Hid (∀ t, i + 1 ≤ t → t < N → bth T t = tkQ q (i + 1) t) := fun t h1 h2 => by rw [HTk.out t (by omega) h2, tk_taken HP.out hlt hti]
        rw [HTi.out, hti] at hc6
        go_wp2
        go_roundw
        case rel => exact ⟨i + 1, xs, T, by go_num, by omega, by rw [HS.out]; exact hC, HTl.out, HN.out, hT, ap_CT, hb⟩
        case measure => simp [intOf]; omega
    · have hkk : i = N := by omega
      have HK : Hid (i = N) := hkk
      clear hkk
      go_wp2
      go_ret
      exact ⟨_, _, rfl, by rw [← HK.out]; rw [HK.out] at hC ⊢; exact hC, hb⟩

theorem ownRows_nil (w : World) (base : Nat) : OwnRows w base (.slice none 0 0) [] [] := OwnRows.none w base
theorem c_PartitionOf (n : Int) (oa) (cap : Nat) (R : List (List Int)) (m s : Int) (w : World) (hR : RowsAt w oa R) :
    Calls Try.prog 82 #[.agg #[.int .i64 n, .slice oa R.length cap], .int .i64 m, .int .i64 s] w fun e w' => ∃ v xs, e = .returned v ∧ OwnRows w' w.heap.size v xs (ptnF n R m s) ∧ Below w.heap.size w w' := by
  have hb := (bel2 w (.cells #[.int .i64 n, .slice oa R.length cap] 28) (.cells #[.int .i64 m] 3)).alloc (by simp; omega) (.cells #[.int .i64 s] 3)
  have k1 := (Below.refl ((w.alloc (.cells #[.int .i64 n, .slice oa R.length cap] 28)).alloc (.cells #[.int .i64 m] 3)).heap.size _).alloc (Nat.le_refl _) (.cells #[.int .i64 s] 3)
  have a0 := cell_keep (two_a w #[.int .i64 n, .slice oa R.length cap] 28 #[.int .i64 m] 3 0 _ rfl) k1
  have a1 := cell_keep (two_a w #[.int .i64 n, .slice oa R.length cap] 28 #[.int .i64 m] 3 1 _ rfl) k1
  have m0 := cell_keep (two_b w #[.int .i64 n, .slice oa R.length cap] 28 #[.int .i64 m] 3 0 _ rfl) k1
  have s0 := box_at ((w.alloc (.cells #[.int .i64 n, .slice oa R.length cap] 28)).alloc (.cells #[.int .i64 m] 3)) #[.int .i64 s] 3 0 _ rfl
  simp only [World.size_alloc] at s0
  clear k1
  cases h1 : isTabF n R
  · have HM : Hid (ptnF n R m s = []) := by show ptnF n R m s = []; unfold ptnF ptnOk; rw [h1]; rfl
    go_enter Try.func82, Try.ntmps82
    go_wp2_with (first | (go_at_call 79; refine Calls.mono (Ans.eqb (c_IsTable _ _ _ _ _ (hR.keep hb)) h1) ?_; rintro e w1 ⟨rfl, hbn⟩; replace a0 := cell_keep a0 hbn; replace a1 := cell_keep a1 hbn; replace m0 := cell_keep m0 hbn; replace s0 := cell_keep s0 hbn; replace hb := bel_to (w := w) (by first | exact hb | exact hb.alloc hb.size _ | exact (hb.alloc hb.size _).alloc (Nat.le_trans hb.size (by simp)) _ | exact hb.setCell (by simp [hb.size]) _) hbn; clear hbn))
    go_ret
    exact ⟨_, _, rfl, by rw [HM.out]; exact OwnRows.none _ _, hb⟩
  cases h2 : modeF m
  · have HM : Hid (ptnF n R m s = []) := by show ptnF n R m s = []; unfold ptnF ptnOk; rw [h1, h2]; rfl
    go_enter Try.func82, Try.ntmps82
    go_wp2_with (first | (go_at_call 79; refine Calls.mono (Ans.eqb (c_IsTable _ _ _ _ _ (hR.keep hb)) h1) ?_; rintro e w1 ⟨rfl, hbn⟩; replace a0 := cell_keep a0 hbn; replace a1 := cell_keep a1 hbn; replace m0 := cell_keep m0 hbn; replace s0 := cell_keep s0 hbn; replace hb := bel_to (w := w) (by first | exact hb | exact hb.alloc hb.size _ | exact (hb.alloc hb.size _).alloc (Nat.le_trans hb.size (by simp)) _ | exact hb.setCell (by simp [hb.size]) _) hbn; clear hbn) | (go_at_call 80; refine Calls.mono (Ans.eqb (c_isMode _ _) h2) ?_; rintro e w1 ⟨rfl, hbn⟩; replace a0 := cell_keep a0 hbn; replace a1 := cell_keep a1 hbn; replace m0 := cell_keep m0 hbn; replace s0 := cell_keep s0 hbn; replace hb := bel_to (w := w) (by first | exact hb | exact hb.alloc hb.size _ | exact (hb.alloc hb.size _).alloc (Nat.le_trans hb.size (by simp)) _ | exact hb.setCell (by simp [hb.size]) _) hbn; clear hbn))
    go_ret
    exact ⟨_, _, rfl, by rw [HM.out]; exact OwnRows.none _ _, hb⟩
  cases h3 : isAttr n s
  · have HM : Hid (ptnF n R m s = []) := by show ptnF n R m s = []; unfold ptnF ptnOk; rw [h1, h2, h3]; rfl
    go_enter Try.func82, Try.ntmps82
    go_wp2_with (first | (go_at_call 79; refine Calls.mono (Ans.eqb (c_IsTable _ _ _ _ _ (hR.keep hb)) h1) ?_; rintro e w1 ⟨rfl, hbn⟩; replace a0 := cell_keep a0 hbn; replace a1 := cell_keep a1 hbn; replace m0 := cell_keep m0 hbn; replace s0 := cell_keep s0 hbn; replace hb := bel_to (w := w) (by first | exact hb | exact hb.alloc hb.size _ | exact (hb.alloc hb.size _).alloc (Nat.le_trans hb.size (by simp)) _ | exact hb.setCell (by simp [hb.size]) _) hbn; clear hbn) | (go_at_call 80; refine Calls.mono (Ans.eqb (c_isMode _ _) h2) ?_; rintro e w1 ⟨rfl, hbn⟩; replace a0 := cell_keep a0 hbn; replace a1 := cell_keep a1 hbn; replace m0 := cell_keep m0 hbn; replace s0 := cell_keep s0 hbn; replace hb := bel_to (w := w) (by first | exact hb | exact hb.alloc hb.size _ | exact (hb.alloc hb.size _).alloc (Nat.le_trans hb.size (by simp)) _ | exact hb.setCell (by simp [hb.size]) _) hbn; clear hbn) | (go_at_call 81; refine Calls.mono (Ans.eqb (c_isAttributes _ _ _) h3) ?_; rintro e w1 ⟨rfl, hbn⟩; replace a0 := cell_keep a0 hbn; replace a1 := cell_keep a1 hbn; replace m0 := cell_keep m0 hbn; replace s0 := cell_keep s0 hbn; replace hb := bel_to (w := w) (by first | exact hb | exact hb.alloc hb.size _ | exact (hb.alloc hb.size _).alloc (Nat.le_trans hb.size (by simp)) _ | exact hb.setCell (by simp [hb.size]) _) hbn; clear hbn))
    go_ret
    exact ⟨_, _, rfl, by rw [HM.out]; exact OwnRows.none _ _, hb⟩
  have HM : Hid (ptnF n R m s = ptnQ (sameB R m s) R.length R.length) := by show ptnF n R m s = _; unfold ptnF ptnOk; rw [h1, h2, h3]; rfl
  have ht := isTab_of h1
  have HT : Hid (isTabF n R = true) := h1
  have hr40 : R.length ≤ 40 := ht.2.2.1
  have hs : St s := by
    have h := h3
    unfold isAttr at h
    simp only [Bool.and_eq_true, decide_eq_true_eq] at h
    have hp := (pow_wrap (n := n) (by omega) ht.2.1).2.1
    exact ⟨h.1.2, by omega⟩
  have HP : Hid (Per (sameB R m s) R.length) := same_per h1 hs
  clear ht hs
  go_enter Try.func82, Try.ntmps82
  go_wp2_with (first | (go_at_call 79; refine Calls.mono (Ans.eqb (c_IsTable _ _ _ _ _ (hR.keep hb)) h1) ?_; rintro e w1 ⟨rfl, hbn⟩; replace a0 := cell_keep a0 hbn; replace a1 := cell_keep a1 hbn; replace m0 := cell_keep m0 hbn; replace s0 := cell_keep s0 hbn; replace hb := bel_to (w := w) (by first | exact hb | exact hb.alloc hb.size _ | exact (hb.alloc hb.size _).alloc (Nat.le_trans hb.size (by simp)) _ | exact hb.setCell (by simp [hb.size]) _) hbn; clear hbn) | (go_at_call 80; refine Calls.mono (Ans.eqb (c_isMode _ _) h2) ?_; rintro e w1 ⟨rfl, hbn⟩; replace a0 := cell_keep a0 hbn; replace a1 := cell_keep a1 hbn; replace m0 := cell_keep m0 hbn; replace s0 := cell_keep s0 hbn; replace hb := bel_to (w := w) (by first | exact hb | exact hb.alloc hb.size _ | exact (hb.alloc hb.size _).alloc (Nat.le_trans hb.size (by simp)) _ | exact hb.setCell (by simp [hb.size]) _) hbn; clear hbn) | (go_at_call 81; refine Calls.mono (Ans.eqb (c_isAttributes _ _ _) h3) ?_; rintro e w1 ⟨rfl, hbn⟩; replace a0 := cell_keep a0 hbn; replace a1 := cell_keep a1 hbn; replace m0 := cell_keep m0 hbn; replace s0 := cell_keep s0 hbn; replace hb := bel_to (w := w) (by first | exact hb | exact hb.alloc hb.size _ | exact (hb.alloc hb.size _).alloc (Nat.le_trans hb.size (by simp)) _ | exact hb.setCell (by simp [hb.size]) _) hbn; clear hbn))
  refine (c_classesOf_S R.length hr40 _ _ _ (sameB R m s) HP.out _ ?_).mono ?_
  · intro W i k hik hk hB
    exact c_clS n oa cap R m s i k _ _ _ W ((hR.keep hb).keep hB) HT.out (by omega) hk (cell_keep m0 hB) (cell_keep a1 hB) (cell_keep s0 hB)
  rintro e w2 ⟨v2, xs, rfl, hO, hbn⟩
  replace hO := hO.based hb.size
  replace hb := bel_to hb hbn
  clear hbn
  go_wp2
  go_ret
  exact ⟨_, _, rfl, by rw [HM.out]; exact hO, hb⟩
end Go.Proofs.Ytkanbnbofoabeaa
