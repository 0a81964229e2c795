/- Contracts and lemmas for FnCovers, part 5 of 6. -/
import Derived.Test.YtcenndlbhgfdfaaGreatQFnCovers1
import Derived.Test.YtcenndlbhgfdfaaGreatQFnCovers2
import Derived.Test.YtcenndlbhgfdfaaGreatQFnCovers3
import Derived.Test.YtcenndlbhgfdfaaGreatQFnCovers4
import Derived.Deep.RegionHeld3
import Derived.Deep.CutRange
import Derived.Deep.RegionLaw
namespace Go.Proofs.YtcenndlbhgfdfaaGreat
open Go.RowKit
set_option linter.unusedVariables false
set_option maxRecDepth 100000

theorem c_equalIn (m s : Int) (oa ob) (ca cb : Nat) (A B : List Int) (w : World) (hA : IntsAt w oa A) (hB : IntsAt w ob B) (hl : A.length ≤ 5) (hAB : B.length = A.length) :
    Ans Tryz.prog 126 #[.int .i64 m, .slice oa A.length ca, .slice ob B.length cb, .int .i64 s] w (.bool (ins s (agreeF m A B))) := by
  unfold Ans
  have hb := Below.refl w.heap.size w
  have HA : Hid (B.length = A.length) := hAB
  clear hAB
  go_enter Tryz.func126, Tryz.ntmps126
  go_wp2_with (first | (go_at_call 107; refine Calls.mono (c_agree m _ _ _ _ A B _ hA hB hl HA.out) ?_; rintro e w1 ⟨rfl, hbn⟩; replace hb := bel_to (w := w) (by first | exact hb | exact hb.alloc hb.size _ | exact (hb.alloc hb.size _).alloc (Nat.le_trans hb.size (by simp)) _ | exact hb.setCell (by simp [hb.size]) _) hbn; clear hbn) | (go_at_call 89; refine Calls.mono (c_inside _ _ _) ?_; rintro e w1 ⟨rfl, hbn⟩; replace hb := bel_to (w := w) (by first | exact hb | exact hb.alloc hb.size _ | exact (hb.alloc hb.size _).alloc (Nat.le_trans hb.size (by simp)) _ | exact hb.setCell (by simp [hb.size]) _) hbn; clear hbn))
  go_ret
  exact ⟨rfl, hb⟩
theorem c_clS (n : Int) (oa) (cap : Nat) (R : List (List Int)) (m s : Int) (i k : Nat) (X Y Z : Nat) (w : World) (hR : RowsAt w oa R) (ht : isTabF n R = true) (hi : i < R.length) (hk : k < R.length)
    (m0 : w.cell? ⟨X, 0, none⟩ = some (.int .i64 m)) (a1 : w.cell? ⟨Y, 1, none⟩ = some (.slice oa R.length cap)) (s0 : w.cell? ⟨Z, 0, none⟩ = some (.int .i64 s)) :
    Ans Tryz.prog 125 #[.int .i64 i, .int .i64 k, .pointer (some ⟨X, 0, none⟩), .pointer (some ⟨Y, 0, none⟩), .pointer (some ⟨Z, 0, none⟩)] w (.bool (sameB R m s i k)) := by
  unfold Ans
  obtain ⟨hn1, hn5, hr40, hlen⟩ := isTab_of ht
  have hb := Below.refl w.heap.size w
  obtain ⟨b, off, rfl, hbs, hc⟩ := hR.at_ (by omega)
  obtain ⟨o1, c1, h1, r1⟩ := hc i hi
  obtain ⟨o2, c2, h2, r2⟩ := hc k hk
  have l1 : (row R i).length ≤ 5 := by have := hlen i hi; omega
  have HL : Hid ((row R k).length = (row R i).length) := by have := hlen i hi; have := hlen k hk; show (row R k).length = (row R i).length; omega
  have hx1 := fun (x : After w) => r1.keep x.bel
  have hx2 := fun (x : After w) => r2.keep x.bel
  have HV : Hid (sameB R m s i k = ins s (agreeF m (row R i) (row R k))) := rfl
  clear hc hlen ht hR
  generalize row R i = A at *
  generalize row R k = B at *
  go_enter Tryz.func125, Tryz.ntmps125
  go_wp2_with fail
  (refine wp_region_after (by kernel_rfl) (by kernel_rfl) ?_; have q_m0 := fun (x : After _) => cell_keep m0 x.bel; have q_a1 := fun (x : After _) => cell_keep a1 x.bel; have q_s0 := fun (x : After _) => cell_keep s0 x.bel; have q_h1 := fun (x : After _) => cell_keep h1 x.bel; have q_h2 := fun (x : After _) => cell_keep h2 x.bel; (repeat (go_big_quiet_step ((first | (go_at_call 126; exact Ans.after (c_equalIn m s _ _ _ _ A B _ (hx1 _) (hx2 _) l1 HL.out)))))); clear q_m0; clear q_a1; clear q_s0; clear q_h1; clear q_h2; refine wpQuiet_nil ?_; rintro _ ⟨⟨w1, hbn⟩, rfl⟩; (try simp only [After.w]); replace m0 := cell_keep m0 hbn; replace a1 := cell_keep a1 hbn; replace s0 := cell_keep s0 hbn; replace h1 := cell_keep h1 hbn; replace h2 := cell_keep h2 hbn; replace hb := bel_to (w := w) (by first | exact hb | exact hb.alloc hb.size _ | exact (hb.alloc hb.size _).alloc (Nat.le_trans hb.size (by simp)) _ | exact hb.setCell (by simp [hb.size]) _) hbn; clear hbn)
  go_wp2
  go_ret
  exact ⟨ret_bool HV.out.symm, hb⟩

set_option maxHeartbeats 3200000 in
theorem c_classesOf_S (N : Nat) (hN : N ≤ 40) (e0 e1 e2 : Value) (q : Nat → Nat → Bool) (hp : Per q N) (w : World)
    (hcl : ∀ (W : World) (i k : Nat), i < k → k < N → Below w.heap.size w W → Ans Tryz.prog 125 #[.int .i64 i, .int .i64 k, e0, e1, e2] W (.bool (q i k))) :
    Calls Tryz.prog 124 #[.int .i64 N, .func (.func 125) #[] #[e0, e1, e2]] w fun e w' => ∃ v xs, e = .returned v ∧ OwnRows w' w.heap.size v xs (ptnQ q N N) ∧ Below w.heap.size w w' := by
  obtain ⟨i0, hi, hz0, hz1, hz2⟩ := info_parts info_int
  obtain ⟨j0, hj, hy0, hy1, hy2⟩ := info_parts info_ints
  obtain ⟨b0, hbo, hx0, hx1, hx2⟩ := info_parts info_bool
  have hb := (Below.refl w.heap.size w).alloc (Nat.le_refl _) (.cells #[] 50)
  have hC := OwnRows.empty w w.heap.size (Nat.le_refl _)
  have HQ : Hid (∀ (W : World) (i k : Nat), i < k → k < N → Below w.heap.size w W → Ans Tryz.prog 125 #[.int .i64 i, .int .i64 k, e0, e1, e2] W (.bool (q i k))) := hcl
  have HP : Hid (Per q N) := hp
  clear hcl hp
  go_enter Tryz.func124, Tryz.ntmps124
  have oldC := hC
  go_wp2_with (first | (at_make; refine wpList_make_full _ rfl _ _ 123 rfl (w.heap.size + 1) 4 b0 (.bool false) 1 Tryz.underlying123 hbo hx0 hx1 .i64 .i64 _ _ N rfl rfl rfl rfl (by rw [hx2]; omega) (by unfold maxLen; omega) (by simp) ?_; intro w1 hown hgrow))
  have hT := ownB_made hown
  have ap_CT : ApartR (.slice (some ⟨w.heap.size, 0, none⟩) 0 0) [] (.slice (some ⟨w.heap.size + 1, 0, none⟩) N N) := ⟨.inr (by simp [Value.ownBlock]), fun y hy => by cases hy⟩
  have hbg : Below (w.alloc (.cells #[] 50)).heap.size (w.alloc (.cells #[] 50)) w1 := below_grown hgrow (Nat.le_refl _) (by simp)
  replace hC := hC.keep hbg
  replace hb := bel_to hb hbg
  replace hT : OwnB w1 w.heap.size (.slice (some ⟨w.heap.size + 1, 0, none⟩) N N) (List.replicate N false) := OwnB.based (by simpa only [World.size_alloc] using hT) (Nat.le_succ w.heap.size)
  clear hown hgrow hbg hbo hx0 hx1 hx2 b0 oldC
  go_loopw [5, 7] (fun vC i wr => ∃ (i' : Nat) (xs : List Value) (T : List Bool), i = .int .i64 i' ∧ i' ≤ N ∧ OwnRows wr w.heap.size vC xs (ptnQ q N i') ∧ T.length = N ∧ (∀ k, i' ≤ k → k < N → bth T k = tkQ q i' k) ∧ OwnB wr w.heap.size (.slice (some ⟨w.heap.size + 1, 0, none⟩) N N) T ∧ ApartR vC xs (.slice (some ⟨w.heap.size + 1, 0, none⟩) N N) ∧ Below w.heap.size w wr) (fun _ i _ => N - (intOf i).toNat)
  case atStart => exact ⟨0, [], List.replicate N false, rfl, Nat.zero_le _, hC, by simp, fun k _ _ => by rw [bth_replicate]; simp [tkQ], hT, ap_CT, hb⟩
  case round =>
    clear hC hT ap_CT hb
    obtain ⟨i, xs, T, rfl, hi', hC, hTl, hTk, hT, ap_CT, hb⟩ := hrel
    have HTl : Hid (T.length = N) := hTl
    have HTk : Hid (∀ k, i ≤ k → k < N → bth T k = tkQ q i k) := hTk
    have hpl := ptn_len q N i
    have hxl := hC.len
    have hxs : xs.length ≤ 40 := by omega
    clear hTl hTk
    by_cases hlt : i < N
    · have hc1 := hT.cell HTl.out.symm i hlt
      have hc6 := hc1.1
      have hc7 := hc1.2
      have HTi : Hid (bth T i = tkQ q i i) := HTk.out i (Nat.le_refl _) hlt
      clear hc1 hxl
      cases hti : tkQ q i i
      · have HS : Hid (ptnQ q N (i + 1) = ptnQ q N i ++ (if decide (1 < (clsTo q i N).length) then [clsTo q i N] else [])) := by
          show ptnQ q N (i + 1) = _
          rw [ptn_succ]; unfold headQ; rw [hti]; rfl
        have HF : Hid (clsTo q i (i + 1) = [(i : Int)]) := cls_first q i
        generalize ptnQ q N i = P at *
        rw [HTi.out, hti] at hc6
        have hI := OwnI.single wr w.heap.size hb.size (i : Int)
        have hIf := OwnI.single wr wr.heap.size (Nat.le_refl _) (i : Int)
        have ap_CI := hC.fresh hIf
        have ap_TI := apart_old hT hIf
        replace hC := hC.keep ((Below.refl wr.heap.size wr).alloc (Nat.le_refl _) (.cells #[.int .i64 (i : Int)] 3))
        replace hT := hT.keep ((Below.refl wr.heap.size wr).alloc (Nat.le_refl _) (.cells #[.int .i64 (i : Int)] 3))
        replace hb := hb.alloc hb.size (.cells #[.int .i64 (i : Int)] 3)
        clear hIf
        go_wp2
        go_loopw [8, 9] (fun vI k' wr => ∃ (k : Nat) (T : List Bool), k' = .int .i64 k ∧ i < k ∧ k ≤ N ∧ OwnI wr w.heap.size vI (clsTo q i k) ∧ OwnRows wr w.heap.size u5 xs P ∧ T.length = N ∧ (∀ t, i < t → t < N → bth T t = if t < k then tkQ q (i + 1) t else tkQ q i t) ∧ OwnB wr w.heap.size (.slice (some ⟨w.heap.size + 1, 0, none⟩) N N) T ∧ ApartR u5 xs (.slice (some ⟨w.heap.size + 1, 0, none⟩) N N) ∧ ApartR u5 xs vI ∧ Apart (.slice (some ⟨w.heap.size + 1, 0, none⟩) N N) vI ∧ Below w.heap.size w wr) (fun _ k _ => N - (intOf k).toNat)
        case atStart => exact ⟨i + 1, T, by go_num, by omega, by omega, by rw [HF.out]; exact hI, hC, HTl.out, fun t h1 h2 => by rw [HTk.out t (by omega) h2, if_neg (by omega)], hT, ap_CT, ap_CI, ap_TI, hb⟩
        case round =>
          clear hC hT hI ap_CT ap_CI ap_TI hb hc6 hc7 HTl HTk HTi HF
          obtain ⟨k, T, rfl, hik, hk, hI, hC, hTl, hTk, hT, ap_CT, ap_CI, ap_TI, hb⟩ := hrel
          have HTl : Hid (T.length = N) := hTl
          have HTk : Hid (∀ t, i < t → t < N → bth T t = if t < k then tkQ q (i + 1) t else tkQ q i t) := hTk
          have hcl := cls_len q i k
          clear hTl hTk
          by_cases hlk : k < N
          · have HCS : Hid (clsTo q i (k + 1) = clsTo q i k ++ (if q i k then [(k : Int)] else [])) := by
              show clsTo q i (k + 1) = _
              rw [cls_succ, decide_eq_true hik]; rfl
            have hc1 := hT.cell HTl.out.symm k hlk
            have hc6 := hc1.1
            have hc7 := hc1.2
            have HTi : Hid (bth T k = tkQ q i k) := by show bth T k = _; rw [HTk.out k hik hlk, if_neg (by omega)]
            have HSk : Hid (tkQ q (i + 1) k = (tkQ q i k || q i k)) := by show tkQ q (i + 1) k = _; rw [tk_succ, decide_eq_true hik]; rfl
            clear hc1
            generalize clsTo q i k = L at *
            cases hqk : q i k
            · have HN : Hid (∀ t, i < t → t < N → bth T t = if t < k + 1 then tkQ q (i + 1) t else tkQ q i t) := fun t h1 h2 => by
                rw [HTk.out t h1 h2]
                by_cases e : t = k
                · subst e; rw [if_neg (by omega), if_pos (by omega), HSk.out, hqk, Bool.or_false]
                · by_cases h' : t < k
                  · rw [if_pos h', if_pos (by omega)]
                  · rw [if_neg h', if_neg (by omega)]
              cases htk : tkQ q i k
              · rw [HTi.out, htk] at hc6
                go_wp2_with (first | (go_at_call 125; refine Calls.mono (Ans.eqb (HQ.out _ i k hik hlk hb) hqk) ?_; rintro e w1 ⟨rfl, hbn⟩; replace hT := hT.keep hbn; replace hC := hC.keep hbn; replace hI := hI.keep hbn; replace hb := bel_to hb hbn; clear hbn) | fail)
                go_roundw
                case rel => exact ⟨k + 1, T, by go_num, by omega, by omega, by rw [HCS.out, hqk]; simpa using hI, hC, HTl.out, HN.out, hT, ap_CT, ap_CI, ap_TI, hb⟩
                case measure => simp [intOf]; omega
              · rw [HTi.out, htk] at hc6
                go_wp2_with (first | (go_at_call 125; refine Calls.mono (Ans.eqb (HQ.out _ i k hik hlk hb) hqk) ?_; rintro e w1 ⟨rfl, hbn⟩; replace hT := hT.keep hbn; replace hC := hC.keep hbn; replace hI := hI.keep hbn; replace hb := bel_to hb hbn; clear hbn) | fail)
                go_roundw
                case rel => exact ⟨k + 1, T, by go_num, by omega, by omega, by rw [HCS.out, hqk]; simpa using hI, hC, HTl.out, HN.out, hT, ap_CT, ap_CI, ap_TI, hb⟩
                case measure => simp [intOf]; omega
            · have htk : tkQ q i k = false := tk_free HP.out hlt hti hqk
              have HN : Hid (∀ t, i < t → t < N → bth (T.set k true) t = if t < k + 1 then tkQ q (i + 1) t else tkQ q i t) := fun t h1 h2 => by
                rw [bth_set (by have := HTl.out; omega)]
                by_cases e : t = k
                · subst e; rw [if_pos rfl, if_pos (by omega), HSk.out, hqk, Bool.or_true]
                · rw [if_neg e, HTk.out t h1 h2]
                  by_cases h' : t < k
                  · rw [if_pos h', if_pos (by omega)]
                  · rw [if_neg h', if_neg (by omega)]
              rw [HTi.out, htk] at hc6
              have HT2 : Hid ((T.set k true).length = N) := by show (T.set k true).length = N; rw [List.length_set]; exact HTl.out
              go_wp2_with (first | (go_at_call 125; refine Calls.mono (Ans.eqb (HQ.out _ i k hik hlk hb) hqk) ?_; rintro e w1 ⟨rfl, hbn⟩; replace hT := hT.keep hbn; replace hC := hC.keep hbn; replace hI := hI.keep hbn; replace hc6 := cell_keep hc6 hbn; replace hc7 := (hT.cell HTl.out.symm k hlk).2; replace hb := bel_to hb hbn; clear hbn) | (at_builtin; have hI' := OwnI.far (v' := .slice (some ⟨w.heap.size + 1, 0, none⟩) N N) hI (grown_set w1 (w.heap.size + 1) k (.bool true)) ap_TI.symm; have hC' := OwnRows.far (u := .slice (some ⟨w.heap.size + 1, 0, none⟩) N N) hC (grown_set w1 (w.heap.size + 1) k (.bool true)) ap_CT; have hT' := hT.store HTl.out.symm k true; have hb' := Below.setCell (p := (⟨w.heap.size + 1, k, none⟩ : Addr)) hb (Nat.le_succ _) (.bool true); refine wpList_append_fresh rfl _ _ 50 rfl w.heap.size 3 i0 (.int .i64 0) 1 8 Tryz.underlying50 hi hz0 hz1 hz2 rfl (by decide) _ _ _ rfl (World.ownsRow.alloc hI' _) _ 1 1 [.int .i64 (k : Int)] rfl rfl (World.news_of_block (cs := #[.int .i64 (k : Int)]) (t := 3) (fr := (0, 0)) (by have h9 := heap_alloc_new (w1.setCell ⟨w.heap.size + 1, k, none⟩ (.bool true)) (.cells #[.int .i64 (k : Int)] 3); simpa using h9)) (by intro u hu; simp at hu; subst hu; rfl) (by unfold maxLen; omega) (by omega) (by have := hb.size; simp; omega) ?_; intro v' w1 hown hgrow hfr; replace hb := (hb'.alloc (by have := hb.size; simp; omega) _).grown hgrow (by have := hb.size; simp; omega) (fun g hg => (World.ownsRow.lt hI' g hg).1); obtain ⟨hC, ap_CI⟩ := OwnRows.past hC' hgrow ap_CI hfr; obtain ⟨hT, ap_TI⟩ := OwnB.past hT' hgrow ap_TI hfr; replace hI := OwnI.snoc hown; clear hown hgrow hfr hI' hC' hT' hb') | fail)
              go_roundw
              case rel => exact ⟨k + 1, T.set k true, by go_num, by omega, by omega, by rw [HCS.out, hqk]; exact hI, hC, HT2.out, HN.out, hT, ap_CT, ap_CI, ap_TI, hb⟩
              case measure => simp [intOf]; omega
          · have hkk : k = N := by omega
            have HK : Hid (k = N) := hkk
            have HN : Hid (∀ t, i + 1 ≤ t → t < N → bth T t = tkQ q (i + 1) t) := fun t h1 h2 => by rw [HTk.out t (by omega) h2, if_pos (by omega)]
            have HCk : Hid (clsTo q i k = clsTo q i N) := by show clsTo q i k = clsTo q i N; rw [hkk]
            clear hkk
            rw [HCk.out] at hI
            have hcN := cls_len q i N
            generalize clsTo q i N = L at *
            obtain ⟨oL, cL, rfl⟩ := hI.shape
            by_cases h1 : 1 < L.length
            · have HSP : Hid (ptnQ q N (i + 1) = P ++ [L]) := by show ptnQ q N (i + 1) = _; rw [HS.out, decide_eq_true h1]; rfl
              have hxl2 := hC.len
              have hdec : decide ((1 : Int) < (L.length : Int)) = true := by simp; omega
              go_wp2_with (first | (at_builtin; refine wpList_append_fresh rfl _ _ 24 rfl w.heap.size 50 j0 (.slice none 0 0) 1 24 Tryz.underlying24 hj hy0 hy1 hy2 rfl (by decide) _ _ _ rfl (World.ownsRow.alloc hC.outer _) _ 1 1 [.slice oL L.length cL] rfl rfl (by intro j u hj; match j, hj with | 0, hj => simp at hj; subst hj; simp [Addr.add]) (by intro u hu; simp at hu; subst hu; rfl) (by unfold maxLen; omega) (by omega) (by have := hb.size; simp; omega) ?_; intro v' w1 hown hgrow hfr; replace hb := (hb.alloc hb.size _).grown hgrow (by have := hb.size; simp; omega) (fun g hg => (World.ownsRow.lt hC.outer g hg).1); have hC2 := OwnRows.snoc hC hI ap_CI hown hgrow hfr; have ap2 := (OwnB.past hT hgrow ap_CT.1.symm hfr); replace hT := ap2.1; have ap_CT2 := ap2.2.symm; clear ap2; replace hC := hC2; clear hC2 hown hgrow hfr) | fail)
              go_roundw
              case rel => exact ⟨i + 1, _, T, by go_num, by omega, by rw [HSP.out]; exact hC, HTl.out, HN.out, hT, ⟨ap_CT2, fun y hy => by rcases List.mem_append.1 hy with h' | h'; exact ap_CT.2 y h'; (rw [List.mem_singleton.1 h']; exact ap_TI.symm)⟩, hb⟩
              case measure => simp [intOf]; omega
            · have HSP : Hid (ptnQ q N (i + 1) = P) := by show ptnQ q N (i + 1) = _; rw [HS.out, decide_eq_false h1]; simp
              go_wp2
              go_roundw
              case rel => exact ⟨i + 1, xs, T, by go_num, by omega, by rw [HSP.out]; exact hC, HTl.out, HN.out, hT, ap_CT, hb⟩
              case measure => simp [intOf]; omega
      · have HS : Hid (ptnQ q N (i + 1) = ptnQ q N i) := by
          show ptnQ q N (i + 1) = _
          rw [ptn_succ]; unfold headQ; rw [hti]; simp
        have HN : Hid (∀ t, i + 1 ≤ t → t < N → bth T t = tkQ q (i + 1) t) := fun t h1 h2 => by rw [HTk.out t (by omega) h2, tk_taken HP.out hlt hti]
        rw [HTi.out, hti] at hc6
        go_wp2
        go_roundw
        case rel => exact ⟨i + 1, xs, T, by go_num, by omega, by rw [HS.out]; exact hC, HTl.out, HN.out, hT, ap_CT, hb⟩
        case measure => simp [intOf]; omega
    · have hkk : i = N := by omega
      have HK : Hid (i = N) := hkk
      clear hkk
      go_wp2
      go_ret
      exact ⟨_, _, rfl, by rw [← HK.out]; rw [HK.out] at hC ⊢; exact hC, hb⟩

theorem ownRows_nil (w : World) (base : Nat) : OwnRows w base (.slice none 0 0) [] [] := OwnRows.none w base
theorem c_PartitionOf (n : Int) (oa) (cap : Nat) (R : List (List Int)) (m s : Int) (w : World) (hR : RowsAt w oa R) :
    Calls Tryz.prog 110 #[.agg #[.int .i64 n, .slice oa R.length cap], .int .i64 m, .int .i64 s] w fun e w' => ∃ v xs, e = .returned v ∧ OwnRows w' w.heap.size v xs (ptnF n R m s) ∧ Below w.heap.size w w' := by
  have hb := (bel2 w (.cells #[.int .i64 n, .slice oa R.length cap] 26) (.cells #[.int .i64 m] 3)).alloc (by simp; omega) (.cells #[.int .i64 s] 3)
  have k1 := (Below.refl ((w.alloc (.cells #[.int .i64 n, .slice oa R.length cap] 26)).alloc (.cells #[.int .i64 m] 3)).heap.size _).alloc (Nat.le_refl _) (.cells #[.int .i64 s] 3)
  have a0 := cell_keep (two_a w #[.int .i64 n, .slice oa R.length cap] 26 #[.int .i64 m] 3 0 _ rfl) k1
  have a1 := cell_keep (two_a w #[.int .i64 n, .slice oa R.length cap] 26 #[.int .i64 m] 3 1 _ rfl) k1
  have m0 := cell_keep (two_b w #[.int .i64 n, .slice oa R.length cap] 26 #[.int .i64 m] 3 0 _ rfl) k1
  have s0 := box_at ((w.alloc (.cells #[.int .i64 n, .slice oa R.length cap] 26)).alloc (.cells #[.int .i64 m] 3)) #[.int .i64 s] 3 0 _ rfl
  simp only [World.size_alloc] at s0
  clear k1
  cases h1 : isTabF n R
  · have HM : Hid (ptnF n R m s = []) := by show ptnF n R m s = []; unfold ptnF ptnOk; rw [h1]; rfl
    go_enter Tryz.func110, Tryz.ntmps110
    go_wp2_with (first | (go_at_call 60; refine Calls.mono (Ans.eqb (c_IsTable _ _ _ _ _ (hR.keep hb)) h1) ?_; rintro e w1 ⟨rfl, hbn⟩; replace a0 := cell_keep a0 hbn; replace a1 := cell_keep a1 hbn; replace m0 := cell_keep m0 hbn; replace s0 := cell_keep s0 hbn; replace hb := bel_to (w := w) (by first | exact hb | exact hb.alloc hb.size _ | exact (hb.alloc hb.size _).alloc (Nat.le_trans hb.size (by simp)) _ | exact hb.setCell (by simp [hb.size]) _) hbn; clear hbn))
    go_ret
    exact ⟨_, _, rfl, by rw [HM.out]; exact OwnRows.none _ _, hb⟩
  cases h2 : modeF m
  · have HM : Hid (ptnF n R m s = []) := by show ptnF n R m s = []; unfold ptnF ptnOk; rw [h1, h2]; rfl
    go_enter Tryz.func110, Tryz.ntmps110
    go_wp2_with (first | (go_at_call 60; refine Calls.mono (Ans.eqb (c_IsTable _ _ _ _ _ (hR.keep hb)) h1) ?_; rintro e w1 ⟨rfl, hbn⟩; replace a0 := cell_keep a0 hbn; replace a1 := cell_keep a1 hbn; replace m0 := cell_keep m0 hbn; replace s0 := cell_keep s0 hbn; replace hb := bel_to (w := w) (by first | exact hb | exact hb.alloc hb.size _ | exact (hb.alloc hb.size _).alloc (Nat.le_trans hb.size (by simp)) _ | exact hb.setCell (by simp [hb.size]) _) hbn; clear hbn) | (go_at_call 61; refine Calls.mono (Ans.eqb (c_isMode _ _) h2) ?_; rintro e w1 ⟨rfl, hbn⟩; replace a0 := cell_keep a0 hbn; replace a1 := cell_keep a1 hbn; replace m0 := cell_keep m0 hbn; replace s0 := cell_keep s0 hbn; replace hb := bel_to (w := w) (by first | exact hb | exact hb.alloc hb.size _ | exact (hb.alloc hb.size _).alloc (Nat.le_trans hb.size (by simp)) _ | exact hb.setCell (by simp [hb.size]) _) hbn; clear hbn))
    go_ret
    exact ⟨_, _, rfl, by rw [HM.out]; exact OwnRows.none _ _, hb⟩
  cases h3 : isAttr n s
  · have HM : Hid (ptnF n R m s = []) := by show ptnF n R m s = []; unfold ptnF ptnOk; rw [h1, h2, h3]; rfl
    go_enter Tryz.func110, Tryz.ntmps110
    go_wp2_with (first | (go_at_call 60; refine Calls.mono (Ans.eqb (c_IsTable _ _ _ _ _ (hR.keep hb)) h1) ?_; rintro e w1 ⟨rfl, hbn⟩; replace a0 := cell_keep a0 hbn; replace a1 := cell_keep a1 hbn; replace m0 := cell_keep m0 hbn; replace s0 := cell_keep s0 hbn; replace hb := bel_to (w := w) (by first | exact hb | exact hb.alloc hb.size _ | exact (hb.alloc hb.size _).alloc (Nat.le_trans hb.size (by simp)) _ | exact hb.setCell (by simp [hb.size]) _) hbn; clear hbn) | (go_at_call 61; refine Calls.mono (Ans.eqb (c_isMode _ _) h2) ?_; rintro e w1 ⟨rfl, hbn⟩; replace a0 := cell_keep a0 hbn; replace a1 := cell_keep a1 hbn; replace m0 := cell_keep m0 hbn; replace s0 := cell_keep s0 hbn; replace hb := bel_to (w := w) (by first | exact hb | exact hb.alloc hb.size _ | exact (hb.alloc hb.size _).alloc (Nat.le_trans hb.size (by simp)) _ | exact hb.setCell (by simp [hb.size]) _) hbn; clear hbn) | (go_at_call 123; refine Calls.mono (Ans.eqb (c_isAttributes _ _ _) h3) ?_; rintro e w1 ⟨rfl, hbn⟩; replace a0 := cell_keep a0 hbn; replace a1 := cell_keep a1 hbn; replace m0 := cell_keep m0 hbn; replace s0 := cell_keep s0 hbn; replace hb := bel_to (w := w) (by first | exact hb | exact hb.alloc hb.size _ | exact (hb.alloc hb.size _).alloc (Nat.le_trans hb.size (by simp)) _ | exact hb.setCell (by simp [hb.size]) _) hbn; clear hbn))
    go_ret
    exact ⟨_, _, rfl, by rw [HM.out]; exact OwnRows.none _ _, hb⟩
  have HM : Hid (ptnF n R m s = ptnQ (sameB R m s) R.length R.length) := by show ptnF n R m s = _; unfold ptnF ptnOk; rw [h1, h2, h3]; rfl
  have ht := isTab_of h1
  have HT : Hid (isTabF n R = true) := h1
  have hr40 : R.length ≤ 40 := ht.2.2.1
  have hs : St s := by
    have h := h3
    unfold isAttr at h
    simp only [Bool.and_eq_true, decide_eq_true_eq] at h
    have hp := (pow_wrap (n := n) (by omega) ht.2.1).2.1
    exact ⟨h.1.2, by omega⟩
  have HP : Hid (Per (sameB R m s) R.length) := same_per h1 hs
  clear ht hs
  go_enter Tryz.func110, Tryz.ntmps110
  go_wp2_with (first | (go_at_call 60; refine Calls.mono (Ans.eqb (c_IsTable _ _ _ _ _ (hR.keep hb)) h1) ?_; rintro e w1 ⟨rfl, hbn⟩; replace a0 := cell_keep a0 hbn; replace a1 := cell_keep a1 hbn; replace m0 := cell_keep m0 hbn; replace s0 := cell_keep s0 hbn; replace hb := bel_to (w := w) (by first | exact hb | exact hb.alloc hb.size _ | exact (hb.alloc hb.size _).alloc (Nat.le_trans hb.size (by simp)) _ | exact hb.setCell (by simp [hb.size]) _) hbn; clear hbn) | (go_at_call 61; refine Calls.mono (Ans.eqb (c_isMode _ _) h2) ?_; rintro e w1 ⟨rfl, hbn⟩; replace a0 := cell_keep a0 hbn; replace a1 := cell_keep a1 hbn; replace m0 := cell_keep m0 hbn; replace s0 := cell_keep s0 hbn; replace hb := bel_to (w := w) (by first | exact hb | exact hb.alloc hb.size _ | exact (hb.alloc hb.size _).alloc (Nat.le_trans hb.size (by simp)) _ | exact hb.setCell (by simp [hb.size]) _) hbn; clear hbn) | (go_at_call 123; refine Calls.mono (Ans.eqb (c_isAttributes _ _ _) h3) ?_; rintro e w1 ⟨rfl, hbn⟩; replace a0 := cell_keep a0 hbn; replace a1 := cell_keep a1 hbn; replace m0 := cell_keep m0 hbn; replace s0 := cell_keep s0 hbn; replace hb := bel_to (w := w) (by first | exact hb | exact hb.alloc hb.size _ | exact (hb.alloc hb.size _).alloc (Nat.le_trans hb.size (by simp)) _ | exact hb.setCell (by simp [hb.size]) _) hbn; clear hbn))
  refine (c_classesOf_S R.length hr40 _ _ _ (sameB R m s) HP.out _ ?_).mono ?_
  · intro W i k hik hk hB
    exact c_clS n oa cap R m s i k _ _ _ W ((hR.keep hb).keep hB) HT.out (by omega) hk (cell_keep m0 hB) (cell_keep a1 hB) (cell_keep s0 hB)
  rintro e w2 ⟨v2, xs, rfl, hO, hbn⟩
  replace hO := hO.based hb.size
  replace hb := bel_to hb hbn
  clear hbn
  go_wp2
  go_ret
  exact ⟨_, _, rfl, by rw [HM.out]; exact hO, hb⟩
end Go.Proofs.YtcenndlbhgfdfaaGreat
namespace Go.Proofs.YtcenndlbhgfdfaaGreat
open Go.RowKit
set_option linter.unusedVariables false
set_option maxRecDepth 100000

theorem OwnRows.past0 {w w' : World} {B : Nat} {v u u' : Value} {xs : List Value} {R : List (List Int)} (h : OwnRows w B v xs R) (hg : w.grownBy w' u.ownBlock) (ha : ApartR v xs u) (hf : Fresh w u u') : OwnRows w' B v xs R ∧ ApartR v xs u' := by
  refine ⟨OwnRows.far h hg ha, Apart.next h.outer ha.1 hf, fun y hy => ?_⟩
  obtain ⟨j, _, o', c, e, h2, _⟩ := h.one hy
  exact Apart.next h2 (ha.2 y hy) hf
theorem OwnI.news {w : World} {base : Nat} {oa : Option Addr} {n c : Nat} {L : List Int} (h : OwnI w base (.slice oa n c) L) (h0 : 0 < L.length) : ∃ g, oa = some ⟨g, 0, none⟩ ∧ ∀ j u, (L.map encI)[j]? = some u → w.cell? ((⟨g, 0, none⟩ : Addr).add j) = some u := by
  obtain ⟨oa', c', e, hg⟩ := owns_cells h
  simp only [Value.slice.injEq] at e
  obtain ⟨rfl, _, rfl⟩ := e
  obtain ⟨g, h1, _, _, _, _, _⟩ := hg h0
  subst h1
  exact ⟨g, rfl, World.ownsRow.cells h rfl⟩
set_option maxHeartbeats 3200000 in
theorem c_l5Classes (n : Int) (oa) (cap : Nat) (R : List (List Int)) (m s : Int) (w : World) (hR : RowsAt w oa R) (ht : isTabF n R = true) (hs : St s) :
    Calls Tryz.prog 82 #[.agg #[.int .i64 n, .slice oa R.length cap], .int .i64 m, .int .i64 s] w fun e w' => ∃ v xs, e = .returned v ∧ OwnRows w' w.heap.size v xs (ptnQ (sameB R m s) R.length R.length) ∧ Below w.heap.size w w' := by
  obtain ⟨i0, hi, hz0, hz1, hz2⟩ := info_parts info_int
  obtain ⟨j0, hj, hy0, hy1, hy2⟩ := info_parts info_ints
  obtain ⟨hn1, hn5, hr40, hlen⟩ := isTab_of ht
  have HT : Hid (isTabF n R = true) := ht
  have HP : Hid (Per (sameB R m s) R.length) := same_per ht hs
  have HSS : Hid (St s ∧ ∀ k, k < R.length → (row R k).length ≤ 5) := ⟨hs, fun k hk => by have := hlen k hk; omega⟩
  have HQ : Hid (∀ i k, sameB R m s i k = ins s (agreeF m (row R i) (row R k))) := fun i k => rfl
  have hb := (bel2 w (.cells #[.int .i64 n, .slice oa R.length cap] 26) (.cells #[] 50)).alloc (by simp; omega) (.cells #[] 3)
  have k1 := (Below.refl ((w.alloc (.cells #[.int .i64 n, .slice oa R.length cap] 26)).alloc (.cells #[] 50)).heap.size _).alloc (Nat.le_refl _) (.cells #[] 3)
  have a0 := cell_keep (two_a w #[.int .i64 n, .slice oa R.length cap] 26 #[] 50 0 _ rfl) k1
  have a1 := cell_keep (two_a w #[.int .i64 n, .slice oa R.length cap] 26 #[] 50 1 _ rfl) k1
  have hC0 : OwnRows ((w.alloc (.cells #[.int .i64 n, .slice oa R.length cap] 26)).alloc (.cells #[] 50)) (w.heap.size + 1) (.slice (some ⟨w.heap.size + 1, 0, none⟩) 0 0) [] [] := by
    have h := OwnRows.empty (w.alloc (.cells #[.int .i64 n, .slice oa R.length cap] 26)) _ (Nat.le_refl _)
    simpa only [World.size_alloc] using h
  have hC := hC0.keep k1
  have hD0 := OwnI.empty ((w.alloc (.cells #[.int .i64 n, .slice oa R.length cap] 26)).alloc (.cells #[] 50)) _ (Nat.le_refl _)
  have ap_CD := hC0.fresh hD0
  have hD := hD0.based (show w.heap.size + 1 ≤ _ by simp)
  simp only [World.size_alloc] at hD ap_CD
  clear k1 hD0 hC0 ht hs hlen
  have hnl : 0 < R.length ∨ R.length = 0 := by omega
  generalize hq : sameB R m s = q at *
  go_enter Tryz.func82, Tryz.ntmps82
  go_wp2
  go_loopw [7, 8, 9] (fun vC vD i wr => ∃ (i' : Nat) (xs : List Value), i = .int .i64 i' ∧ i' ≤ R.length ∧ OwnRows wr (w.heap.size + 1) vC xs (ptnQ q R.length i') ∧ OwnI wr (w.heap.size + 1) vD (ptnQ q R.length i').flatten ∧ ApartR vC xs vD ∧ wr.cell? ⟨w.heap.size, 0, none⟩ = some (.int .i64 n) ∧ wr.cell? ⟨w.heap.size, 1, none⟩ = some (.slice oa R.length cap) ∧ Below w.heap.size w wr) (fun _ _ i _ => R.length - (intOf i).toNat)
  case atStart => exact ⟨0, [], rfl, Nat.zero_le _, hC, hD, ap_CD, a0, a1, hb⟩
  case round =>
    clear hC hD ap_CD a0 a1 hb
    obtain ⟨i, xs, rfl, hi', hC, hD, ap_CD, a0, a1, hb⟩ := hrel
    have hpl := ptn_len q R.length i
    have hxl := hC.len
    have hxs : xs.length ≤ 40 := by omega
    have hfl := flat_len (q := q) hr40 i
    have hflR : ((ptnQ q R.length i).flatten).length ≤ Room := by unfold Room; omega
    clear hxl
    by_cases hlt : i < R.length
    · have HF0 : Hid (inB' (ptnQ q R.length i).flatten (i : Int) = tkQ q i i) := by
        show inB' (ptnQ q R.length i).flatten (i : Int) = tkQ q i i
        rw [Bool.eq_iff_iff]
        have := ptn_flat HP.out (Nat.le_refl i) hlt
        simpa [inB'] using this
      cases hti : tkQ q i i
      · have hin : inB' (ptnQ q R.length i).flatten (i : Int) = false := HF0.out.trans hti
        have HS : Hid (ptnQ q R.length (i + 1) = ptnQ q R.length i ++ (if decide (1 < (clsTo q i R.length).length) then [clsTo q i R.length] else [])) := by
          show ptnQ q R.length (i + 1) = _
          rw [ptn_succ]; unfold headQ; rw [hti]; rfl
        have HF : Hid (clsTo q i (i + 1) = [(i : Int)]) := cls_first q i
        have HFX : Hid ((ptnQ q R.length (i + 1)).flatten = (ptnQ q R.length i).flatten ++ (if decide (1 < (clsTo q i R.length).length) then clsTo q i R.length else [])) := by
          show (ptnQ q R.length (i + 1)).flatten = _
          rw [HS.out, List.flatten_append]; split <;> simp
        clear HF0
        generalize (ptnQ q R.length i).flatten = F at *
        generalize ptnQ q R.length i = P at *
        obtain ⟨oD, cD, rfl⟩ := hD.shape
        go_wp2_with fail
        refine Calls.mono (Ans.eqb (c_l2Has _ _ _ _ _ (hD.ints rfl hflR)) hin) ?_
        rintro e w1 ⟨rfl, hbn⟩
        replace a0 := cell_keep a0 hbn
        replace a1 := cell_keep a1 hbn
        replace hC := hC.keep hbn
        replace hD := hD.keep hbn
        replace hb := bel_to hb hbn
        clear hbn hin
        have hbe := World.block_lt_of_cell? _ _ a1
        have hI := OwnI.single w1 (w.heap.size + 1) hbe (i : Int)
        have hIf := OwnI.single w1 w1.heap.size (Nat.le_refl _) (i : Int)
        have ap_CI := hC.fresh hIf
        have ap_DI := apart_old hD hIf
        have hba := (Below.refl w1.heap.size w1).alloc (Nat.le_refl _) (.cells #[.int .i64 (i : Int)] 3)
        replace hC := hC.keep hba
        replace hD := hD.keep hba
        replace a0 := cell_keep a0 hba
        replace a1 := cell_keep a1 hba
        replace hb := bel_to hb hba
        clear hIf hba hbe
        go_wp2
        go_loopw [10, 11] (fun vI k' wr => ∃ k : Nat, k' = .int .i64 k ∧ i < k ∧ k ≤ R.length ∧ OwnI wr (w.heap.size + 1) vI (clsTo q i k) ∧ OwnRows wr (w.heap.size + 1) u7 xs P ∧ OwnI wr (w.heap.size + 1) (.slice oD F.length cD) F ∧ ApartR u7 xs (.slice oD F.length cD) ∧ ApartR u7 xs vI ∧ Apart (.slice oD F.length cD) vI ∧ wr.cell? ⟨w.heap.size, 0, none⟩ = some (.int .i64 n) ∧ wr.cell? ⟨w.heap.size, 1, none⟩ = some (.slice oa R.length cap) ∧ Below w.heap.size w wr) (fun _ k _ => R.length - (intOf k).toNat)
        case atStart => exact ⟨i + 1, by go_num, by omega, by omega, by rw [HF.out]; exact hI, hC, hD, ap_CD, ap_CI, ap_DI, a0, a1, hb⟩
        case round =>
          clear hC hD hI ap_CD ap_CI ap_DI a0 a1 hb HF
          obtain ⟨k, rfl, hik, hk, hI, hC, hD, ap_CD, ap_CI, ap_DI, a0, a1, hb⟩ := hrel
          have hcl := cls_len q i k
          by_cases hlk : k < R.length
          · have HCS : Hid (clsTo q i (k + 1) = clsTo q i k ++ (if q i k then [(k : Int)] else [])) := by
              show clsTo q i (k + 1) = _
              rw [cls_succ, decide_eq_true hik]; rfl
            have HV : Hid (q i k = ins s (agreeF m (row R i) (row R k))) := HQ.out i k
            have HSX : Hid (St (agreeF m (row R i) (row R k))) := agreeF_st (HSS.out.2 i hlt)
            generalize clsTo q i k = L at *
            go_wp2_with fail
            refine Calls.mono (c_l4Agree n _ _ _ m i k _ (hR.keep hb) HT.out hlt hlk) ?_
            rintro e w2 ⟨rfl, hbn⟩
            replace a0 := cell_keep a0 hbn
            replace a1 := cell_keep a1 hbn
            replace hC := hC.keep hbn
            replace hD := hD.keep hbn
            replace hI := hI.keep hbn
            replace hb := bel_to hb hbn
            clear hbn
            generalize agreeF m (row R i) (row R k) = x at *
            cases hqk : q i k
            · have h1' : (bits BinOp.and .i64 x s == s) = false := (and_swap HSX.out HSS.out.1).trans (HV.out.symm.trans hqk)
              go_wp2
              go_roundw
              case rel => exact ⟨k + 1, by go_num, by omega, by omega, by rw [HCS.out, hqk]; simpa using hI, hC, hD, ap_CD, ap_CI, ap_DI, a0, a1, hb⟩
              case measure => simp [intOf]; omega
            · have h1' : (bits BinOp.and .i64 x s == s) = true := (and_swap HSX.out HSS.out.1).trans (HV.out.symm.trans hqk)
              go_wp2_with (first | (at_builtin; refine wpList_append_fresh rfl _ _ 50 rfl (w.heap.size + 1) 3 i0 (.int .i64 0) 1 8 Tryz.underlying50 hi hz0 hz1 hz2 rfl (by decide) _ _ _ rfl (World.ownsRow.alloc hI _) _ 1 1 [.int .i64 (k : Int)] rfl rfl (by intro j u hj; match j, hj with | 0, hj => simp at hj; subst hj; simp [Addr.add]) (by intro u hu; simp at hu; subst hu; rfl) (by unfold maxLen; omega) (by omega) (by have := World.block_lt_of_cell? _ _ a1; simp at this; simp; omega) ?_; intro v' w3 hown hgrow hfr; replace hb := (hb.alloc hb.size _).grown hgrow (by have := hb.size; simp; omega) (fun g hg => Nat.le_trans (Nat.le_succ _) (World.ownsRow.lt hI g hg).1); replace a0 := cell_gr (cell_al a0 _) (World.ownsRow.alloc hI _) (by omega) hgrow; replace a1 := cell_gr (cell_al a1 _) (World.ownsRow.alloc hI _) (by omega) hgrow; obtain ⟨hC, ap_CI⟩ := OwnRows.past hC hgrow ap_CI hfr; obtain ⟨hD, ap_DI⟩ := OwnI.past hD hgrow ap_DI hfr; replace hI := OwnI.snoc hown; clear hown hgrow hfr) | fail)
              go_roundw
              case rel => exact ⟨k + 1, by go_num, by omega, by omega, by rw [HCS.out, hqk]; exact hI, hC, hD, ap_CD, ap_CI, ap_DI, a0, a1, hb⟩
              case measure => simp [intOf]; omega
          · have hkk : k = R.length := by omega
            have HCk : Hid (clsTo q i k = clsTo q i R.length) := by show clsTo q i k = clsTo q i R.length; rw [hkk]
            clear hkk
            rw [HCk.out] at hI
            have hcN := cls_len q i R.length
            generalize clsTo q i R.length = L at *
            obtain ⟨oL, cL, rfl⟩ := hI.shape
            by_cases h1 : 1 < L.length
            · have HSP : Hid (ptnQ q R.length (i + 1) = P ++ [L]) := by show ptnQ q R.length (i + 1) = _; rw [HS.out, decide_eq_true h1]; rfl
              have HFL : Hid ((ptnQ q R.length (i + 1)).flatten = F ++ L) := by show (ptnQ q R.length (i + 1)).flatten = _; rw [HFX.out, decide_eq_true h1]; rfl
              have hxl2 := hC.len
              obtain ⟨gL, rfl, _⟩ := hI.news (by omega)
              have hq : True := trivial
              go_wp2_with (first | (clear hq; at_builtin; refine wpList_append_fresh rfl _ _ 24 rfl (w.heap.size + 1) 50 j0 (.slice none 0 0) 1 24 Tryz.underlying24 hj hy0 hy1 hy2 rfl (by decide) _ _ _ rfl (World.ownsRow.alloc hC.outer _) _ 1 1 [.slice (some ⟨gL, 0, none⟩) L.length cL] rfl rfl (by intro j u hj; match j, hj with | 0, hj => simp at hj; subst hj; simp [Addr.add]) (by intro u hu; simp at hu; subst hu; rfl) (by unfold maxLen; omega) (by omega) (by have := World.block_lt_of_cell? _ _ a1; simp at this; simp; omega) ?_; intro v' w1 hown hgrow hfr; replace hb := (hb.alloc hb.size _).grown hgrow (by have := hb.size; simp; omega) (fun g hg => Nat.le_trans (Nat.le_succ _) (World.ownsRow.lt hC.outer g hg).1); replace a0 := cell_gr (cell_al a0 _) (World.ownsRow.alloc hC.outer _) (by omega) hgrow; replace a1 := cell_gr (cell_al a1 _) (World.ownsRow.alloc hC.outer _) (by omega) hgrow; have hC2 := OwnRows.snoc hC hI ap_CI hown hgrow hfr; have apI := (OwnI.past hI hgrow ap_CI.1.symm hfr); have apD := (OwnI.past hD hgrow ap_CD.1.symm hfr); replace hI := apI.1; replace hD := apD.1; have ap_CD2 := (show ApartR v' (xs ++ [.slice (some ⟨gL, 0, none⟩) L.length cL]) (.slice oD F.length cD) from ⟨apD.2.symm, fun y hy => by rcases List.mem_append.1 hy with h' | h'; exact ap_CD.2 y h'; (rw [List.mem_singleton.1 h']; exact ap_DI.symm)⟩); clear apI apD; replace hC := hC2; clear hC2 hown hgrow hfr; obtain ⟨gL', eL, hnews⟩ := hI.news (by omega); obtain rfl : gL = gL' := by simpa using eL) | (at_builtin; refine wpList_append_fresh rfl _ _ 50 rfl (w.heap.size + 1) 3 i0 (.int .i64 0) 1 8 Tryz.underlying50 hi hz0 hz1 hz2 rfl (by decide) (.slice oD F.length cD) F.length (F.map encI) rfl (show _ from hD) _ L.length cL (L.map encI) rfl (by simp) hnews (ones' L) (by unfold maxLen; omega) (by omega) (World.block_lt_of_cell? _ _ a1) ?_; intro v'' w2 hown hgrow hfr; replace hb := hb.grown hgrow hb.size (fun g hg => Nat.le_trans (Nat.le_succ _) (World.ownsRow.lt hD g hg).1); replace a0 := cell_gr a0 hD (by omega) hgrow; replace a1 := cell_gr a1 hD (by omega) hgrow; obtain ⟨hC, ap_CD3⟩ := OwnRows.past0 hC hgrow ap_CD2 hfr; have hD2 := (show OwnI w2 (w.heap.size + 1) v'' (F ++ L) from by unfold OwnI; rw [List.length_append, List.map_append]; exact hown); clear hown hgrow hfr) | fail)
              go_roundw
              case rel => exact ⟨i + 1, _, by go_num, by omega, by rw [HSP.out]; exact hC, by rw [HFL.out]; exact hD2, ap_CD3, a0, a1, hb⟩
              case measure => simp [intOf]; omega
            · have HSP : Hid (ptnQ q R.length (i + 1) = P) := by show ptnQ q R.length (i + 1) = _; rw [HS.out, decide_eq_false h1]; simp
              go_wp2
              go_roundw
              case rel => exact ⟨i + 1, xs, by go_num, by omega, by rw [HSP.out]; exact hC, by rw [HFX.out, decide_eq_false h1]; simpa using hD, ap_CD, a0, a1, hb⟩
              case measure => simp [intOf]; omega
      · have hin : inB' (ptnQ q R.length i).flatten (i : Int) = true := HF0.out.trans hti
        have HS : Hid (ptnQ q R.length (i + 1) = ptnQ q R.length i) := by
          show ptnQ q R.length (i + 1) = _
          rw [ptn_succ]; unfold headQ; rw [hti]; simp
        have HFX : Hid ((ptnQ q R.length (i + 1)).flatten = (ptnQ q R.length i).flatten) := by show (ptnQ q R.length (i + 1)).flatten = _; rw [HS.out]
        clear HF0
        generalize (ptnQ q R.length i).flatten = F at *
        generalize ptnQ q R.length i = P at *
        obtain ⟨oD, cD, rfl⟩ := hD.shape
        go_wp2_with fail
        refine Calls.mono (Ans.eqb (c_l2Has _ _ _ _ _ (hD.ints rfl hflR)) hin) ?_
        rintro e w1 ⟨rfl, hbn⟩
        replace a0 := cell_keep a0 hbn
        replace a1 := cell_keep a1 hbn
        replace hC := hC.keep hbn
        replace hD := hD.keep hbn
        replace hb := bel_to hb hbn
        clear hbn hin
        go_wp2
        go_roundw
        case rel => exact ⟨i + 1, xs, by go_num, by omega, by rw [HS.out]; exact hC, by rw [HFX.out]; exact hD, ap_CD, a0, a1, hb⟩
        case measure => simp [intOf]; omega
    · have hkk : i = R.length := by omega
      have HK : Hid (i = R.length) := hkk
      clear hkk
      go_wp2
      go_ret
      exact ⟨_, _, rfl, by have h := hC.based (Nat.le_succ w.heap.size); rw [HK.out] at h; exact h, hb⟩
end Go.Proofs.YtcenndlbhgfdfaaGreat
namespace Go.Proofs.YtcenndlbhgfdfaaGreat
open Go.RowKit
set_option linter.unusedVariables false
set_option maxRecDepth 100000

theorem heap_new_at {w : World} {o : Obj} {k : Nat} (h : k = w.heap.size) : (w.alloc o).heap[k]? = some o := by subst h; exact heap_alloc_new _ _
/-- 't.Rows = append(t.Rows, r)', while a cursor is being read. -/
theorem tab_snocG {w w5 w7 : World} {B k6 c c5 nC g : Nat} {hd v' : Value} {T T2 : TypeId} {o o5 : Option Addr} {xs : List Value} {P : List (List Int)} {C : List Int} (hnC : C.length = nC)
    (hO : OwnRows w5 B (.slice o P.length c) xs P) (hC : OwnI w5 B (.slice o5 nC c5) C) (hap : ApartR (.slice o P.length c) xs (.slice o5 nC c5))
    (kb : Blk w5 k6 #[hd, .slice o P.length c] T) (av : Avoid k6 (.slice o P.length c) xs) (avC : (Value.slice o5 nC c5).ownBlock ≠ some k6) (hc : Cur w5 g) (hG : w.grownBy w5 (some g)) (hB : w.heap.size ≤ B) (hk6 : w.heap.size ≤ k6) (hgk : g < k6)
    (hown : w7.ownsRow B 50 1 v' (xs.length + 1) (xs ++ [.slice o5 nC c5])) (hgrow : (w5.alloc (.cells #[.slice o5 nC c5] T2)).grownBy w7 (Value.slice o P.length c).ownBlock) (hfr : Fresh (w5.alloc (.cells #[.slice o5 nC c5] T2)) (.slice o P.length c) v') (hgB : g < B := by omega) :
    (∃ o' c', v' = .slice o' (P.length + 1) c') ∧ w7.cell? ⟨k6, 1, none⟩ = some (.slice o P.length c) ∧ w7.frozen? ⟨k6, 1, none⟩ = false ∧ Blk (w7.setCell ⟨k6, 1, none⟩ v') k6 #[hd, v'] T ∧
    OwnRows (w7.setCell ⟨k6, 1, none⟩ v') B v' (xs ++ [.slice o5 nC c5]) (P ++ [C]) ∧ Avoid k6 v' (xs ++ [.slice o5 nC c5]) ∧ Cur (w7.setCell ⟨k6, 1, none⟩ v') g ∧ w.grownBy (w7.setCell ⟨k6, 1, none⟩ v') (some g) ∧
    (∀ (B' : Nat) (e : TypeId) (size : Nat) (u : Value) (n : Nat) (ys : List Value), w5.ownsRow B' e size u n ys → Apart u (.slice o P.length c) → u.ownBlock ≠ some k6 → (w7.setCell ⟨k6, 1, none⟩ v').ownsRow B' e size u n ys ∧ Apart u v') ∧
    (∀ (g' : Nat) (cs : Array Value) (T' : TypeId), Blk w5 g' cs T' → g' ≠ k6 → (Value.slice o P.length c).ownBlock ≠ some g' → Blk (w7.setCell ⟨k6, 1, none⟩ v') g' cs T') := by
  have hal : w5.heap.size ≤ (w5.alloc (.cells #[.slice o5 nC c5] T2)).heap.size := by simp
  obtain ⟨h1, h2, h3, h4, h5, h6, _, h8, h9⟩ := tab_snoc (w := { w5 with heap := #[] }) hnC hO hC hap kb av avC ⟨rfl, rfl, rfl, Nat.zero_le _, fun i hi => absurd hi (by simp)⟩ (Nat.zero_le _) (Nat.zero_le _) hown hgrow hfr
  refine ⟨h1, h2, h3, h4, h5, h6, (Cur.grown (cur_alloc hc _) hgrow (fun k e => by have := (World.ownsRow.lt hO.outer k e).1; omega)).set hgk, grown_new (grown_more (grown_trans hG (grown_of_below ((Below.refl _ _).alloc (Nat.le_refl _) _) _)) hgrow (fun k e => by have := (World.ownsRow.lt hO.outer k e).1; omega)) hk6, h8, h9⟩
set_option maxHeartbeats 3200000 in
theorem c_l3Table (g : Nat) (w : World) (hc : Cur w g) :
    Calls Tryz.prog 86 #[.pointer (some ⟨g, 0, none⟩)] w fun e w' => ∃ (N : Nat) (o : Option Addr) (c : Nat) (xs : List Value) (R : List (List Int)), e = .returned (.agg #[.int .i64 N, .slice o R.length c]) ∧ OwnRows w' w.heap.size (.slice o R.length c) xs R ∧ (2 ≤ N ∧ N ≤ 4 ∧ R.length ≤ 12 ∧ ∀ j, j < R.length → (row R j).length ≤ 5) ∧ Cur w' g ∧ w.grownBy w' (some g) := by
  obtain ⟨i0, hi, hz0, hz1, hz2⟩ := info_parts info_int
  obtain ⟨j0, hj, hy0, hy1, hy2⟩ := info_parts info_ints
  have hlt := hc.lt
  have kZ := Blk.new w #[.int .i64 0, .slice none 0 0] 26
  have hG := grown_of_below ((Below.refl w.heap.size w).alloc (Nat.le_refl _) (.cells #[.int .i64 0, .slice none 0 0] 26)) (some g)
  replace hc := cur_alloc hc (.cells #[.int .i64 0, .slice none 0 0] 26)
  go_enter Tryz.func86, Tryz.ntmps86
  go_wp2_with fail
  refine (c_l1Below g 3 (by omega) _ hc).mono ?_
  rintro e w1 ⟨q, rfl, hq0, hq1, _, hc1, hg⟩
  replace kZ := kZ.cur hg (show w.heap.size ≠ g by omega)
  replace hG := grown_trans hG hg
  have hq2 := hq1 (by omega)
  clear hc hg hq1
  have hz := kZ.lt
  have kT := Blk.new w1 #[.int .i64 ((2 : Int) + q), .slice none 0 0] 26
  have hba := (Below.refl w1.heap.size w1).alloc (Nat.le_refl _) (.cells #[.int .i64 ((2 : Int) + q), .slice none 0 0] 26)
  replace kZ := kZ.keep hba
  replace hc1 := hc1.keep hba
  replace hG := grown_trans hG (grown_of_below hba _)
  clear hba
  go_upto_region 2 with fail
  generalize w1.alloc (.cells #[.int .i64 ((2 : Int) + q), .slice none 0 0] 26) = w2 at *
  obtain ⟨k6, hk6⟩ : ∃ k, w1.heap.size = k := ⟨_, rfl⟩
  rw [hk6] at kT hz
  simp only [hk6]
  clear hk6
  obtain ⟨N, hN⟩ : ∃ N : Nat, (2 : Int) + q = N := ⟨(2 + q).toNat, by omega⟩
  have hN2 : 2 ≤ N ∧ N ≤ 4 := by omega
  simp only [hN] at kT ⊢
  clear hN hq0 hq2
  go_wp2_with fail
  refine (c_l1Below g 3 (by omega) _ hc1).mono ?_
  rintro e w3 ⟨q3, rfl, hq0, hq1, _, hc3, hg⟩
  replace kZ := kZ.cur hg (show w.heap.size ≠ g by omega)
  replace kT := kT.cur hg (show k6 ≠ g by omega)
  replace hG := grown_trans hG hg
  have hq2 := hq1 (by omega)
  clear hc1 hg hq1
  go_wp2_with fail
  obtain ⟨wd, hwd⟩ : ∃ z, (2 : Int) + q3 = z := ⟨_, rfl⟩
  have hw4 : wd ≤ 256 := by omega
  simp only [hwd]
  clear hwd hq0 hq2
  refine (c_l1Below g 7 (by omega) _ hc3).mono ?_
  rintro e w4 ⟨q4, rfl, hq0, hq1, _, hc4, hg⟩
  replace kZ := kZ.cur hg (show w.heap.size ≠ g by omega)
  replace kT := kT.cur hg (show k6 ≠ g by omega)
  replace hG := grown_trans hG hg
  obtain ⟨k0, rfl⟩ := Int.eq_ofNat_of_zero_le hq0
  have hk0 : k0 ≤ 6 := by have := hq1 (by omega); omega
  clear hc3 hg hq0 hq1
  have hO := OwnRows.none w4 (w.heap.size + 1)
  go_wp2_with fail
  go_loopw [5] (fun i wr => ∃ (k : Nat) (R : List (List Int)) (o : Option Addr) (c : Nat) (xs : List Value), i = .int .i64 k ∧ R.length + 2 * k ≤ 12 ∧ (∀ j, j < R.length → (row R j).length ≤ 5) ∧ Blk wr k6 #[.int .i64 N, .slice o R.length c] 26 ∧ OwnRows wr (w.heap.size + 1) (.slice o R.length c) xs R ∧ Avoid k6 (.slice o R.length c) xs ∧ Cur wr g ∧ w.grownBy wr (some g) ∧ Blk wr w.heap.size #[.int .i64 0, .slice none 0 0] 26) (fun i _ => (intOf i).toNat)
  case atStart => exact ⟨k0, [], none, 0, [], rfl, by simp; omega, fun j hj => absurd hj (by simp), kT, hO, (fun y hy e => by rcases hy with rfl | hy; (simp [Value.ownBlock] at e); cases hy), hc4, hG, kZ⟩
  case round =>
    clear kT hO hc4 hG kZ
    obtain ⟨k, R, o, c, xs, rfl, hk, hlen, kT, hO, av, hc, hG, kZ⟩ := hrel
    have HLn : Hid (∀ j, j < R.length → (row R j).length ≤ 5) := hlen
    clear hlen
    have hRl : R.length ≤ 12 := by omega
    have hxl := hO.len
    by_cases hlt0 : 0 < k
    · have n0 := kT.cell 0 (.int .i64 N) rfl
      have hkt := kT.lt
      go_wp2_with fail
      refine (c_l3RandomRow g N (by omega) wd hw4 _ hc).mono ?_
      rintro e w5 ⟨o5, c5, C, rfl, hI, hCN, hc5, hg⟩
      have apI := OwnRows.fresh hO hI
      have avI : (Value.slice o5 C.length c5).ownBlock ≠ some k6 := fun e9 => by have := (World.ownsRow.lt hI _ e9).1; omega
      have HCN : Hid (C.length = N) := hCN
      have hC5 : C.length ≤ 5 := by omega
      have hC0 : 0 < C.length := by omega
      clear hCN
      replace hI := hI.based (show w.heap.size + 1 ≤ _ by omega)
      replace kT := kT.cur hg (show k6 ≠ g by omega)
      replace kZ := kZ.cur hg (show w.heap.size ≠ g by omega)
      replace hO := hO.cur hg (show g < w.heap.size + 1 by omega)
      replace hG := grown_trans hG hg
      clear hc hg n0
      have n1 := kT.cell 1 (.slice o R.length c) rfl
      go_wp2_with (first | (at_builtin; refine wpList_append_fresh rfl _ _ 24 rfl (w.heap.size + 1) 50 j0 (.slice none 0 0) 1 24 Tryz.underlying24 hj hy0 hy1 hy2 rfl (by decide) _ _ _ rfl (World.ownsRow.alloc hO.outer _) _ 1 1 [.slice o5 C.length c5] rfl rfl (World.news_of_block (cs := #[.slice o5 C.length c5]) (t := 50) (fr := (0, 0)) (heap_new_at (by simp))) (by intro u hu; simp at hu; subst hu; rfl) (by unfold maxLen; omega) (by omega) (by have := kT.lt; simp at this ⊢; omega) ?_; intro v7 w7 hown hgrow hfr; obtain ⟨⟨o7, c7, rfl⟩, s7, t7, kT7, hO7, av7, hc7, hG7, hoth, hblk⟩ := tab_snocG rfl hO hI apI kT av avI hc5 hG (Nat.le_succ _) (show w.heap.size ≤ k6 by omega) (show g < k6 by omega) hown hgrow hfr; have kZ7 := hblk _ _ _ kZ (show w.heap.size ≠ k6 by omega) (fun e => by have := (World.ownsRow.lt hO.outer _ e).1; omega); have hI7 := (hoth _ _ _ _ _ _ hI apI.1.symm avI).1; clear hown hgrow hfr hblk hoth) | fail)
      have hl7 : R.length + 1 = (R ++ [C]).length := by simp
      have HL7 : Hid (∀ j, j < (R ++ [C]).length → (row (R ++ [C]) j).length ≤ 5) := fun j hj => by
        by_cases h : j < R.length
        · rw [row_append_lt h]; exact HLn.out j h
        · have : j = R.length := by simp at hj; omega
          rw [this, row_append_end]; exact hC5
      refine (c_l1Once g 3 (by omega) _ hc7).mono ?_
      rintro e w8 ⟨t, rfl, hc8, hg⟩
      replace kT7 := kT7.cur hg (show k6 ≠ g by omega)
      replace kZ7 := kZ7.cur hg (show w.heap.size ≠ g by omega)
      replace hO7 := hO7.cur hg (show g < w.heap.size + 1 by omega)
      replace hI7 := owns_cur hI7 hg (show g < w.heap.size + 1 by omega)
      replace hG7 := grown_trans hG7 hg
      clear hc7 hg n1 s7 t7 kT hO hI kZ hG hc5 av apI avI
      rw [hl7] at kT7 hO7 av7
      have hP : (R ++ [C]).length ≤ 13 := by simp; omega
      have hPk : (R ++ [C]).length + 2 * k ≤ 13 := by simp; omega
      clear hl7
      generalize R ++ [C] = P at *
      generalize xs ++ [Value.slice o5 C.length c5] = ys at *
      cases t
      · go_wp2_with fail
        go_roundw
        case rel => exact ⟨k - 1, P, o7, c7, ys, by go_num, by omega, HL7.out, kT7, hO7, av7, hc8, hG7, kZ7⟩
        case measure => simp [intOf]; omega
      · have hk8 := kT7.lt
        have hba := (Below.refl w8.heap.size w8).alloc (Nat.le_refl _) (.cells #[] 3)
        have hE := OwnI.empty w8 w8.heap.size (Nat.le_refl _)
        obtain ⟨gr, rfl, _⟩ := OwnI.news (show OwnI w8 (w.heap.size + 1) (.slice o5 C.length c5) C from hI7) hC0
        have HB : Hid (∀ j u, (C.map encI)[j]? = some u → (w8.alloc (.cells #[] 3)).cell? ((⟨gr, 0, none⟩ : Addr).add j) = some u) := by
          obtain ⟨gr', e', h'⟩ := OwnI.news (OwnI.keep (show OwnI w8 (w.heap.size + 1) (.slice (some ⟨gr, 0, none⟩) C.length c5) C from hI7) hba) hC0
          cases e'; exact h'
        have old7 := hO7.old (Nat.le_refl _)
        go_wp2_with (first | (at_builtin; refine wpList_append_own _ rfl _ _ 50 rfl w8.heap.size 3 i0 (.int .i64 0) 1 8 Tryz.underlying50 hi hz0 hz1 hz2 rfl (by decide) (.slice (some ⟨w8.heap.size, 0, none⟩) 0 0) 0 [] rfl hE ⟨gr, 0, none⟩ C.length _ (C.map encI) rfl (by simp) HB.out (ones C) (by unfold maxLen; simp; omega) (by simp; omega) (by simp) ?_; intro v9 w9 hown hgrow _; have hX : OwnI w9 w8.heap.size v9 C := (by unfold OwnI; simpa using hown); have hb9 := hba.grown hgrow (by simp) (fun g hg => (World.ownsRow.lt hE g hg).1); clear hown hgrow; obtain ⟨o9, c9, rfl⟩ := hX.shape; have apX := OwnRows.fresh hO7 hX; replace kT7 := kT7.keep hb9; replace kZ7 := kZ7.keep hb9; replace hO7 := hO7.keep hb9; replace hc8 := hc8.keep hb9; replace hG7 := grown_trans hG7 (grown_of_below hb9 _); have n0 := kT7.cell 0 (.int .i64 N) rfl; clear hb9 hba hE) | fail)
        refine (c_l1Below g N (by omega) _ hc8).mono ?_
        rintro e w10 ⟨qj, rfl, hj0, hj1, _, hc10, hg⟩
        obtain ⟨jn, rfl⟩ := Int.eq_ofNat_of_zero_le hj0
        have hjC : jn < C.length := by have := hj1 (by omega); have := HCN.out; omega
        replace kT7 := kT7.cur hg (show k6 ≠ g by omega)
        replace kZ7 := kZ7.cur hg (show w.heap.size ≠ g by omega)
        replace hO7 := hO7.cur hg (show g < w.heap.size + 1 by omega)
        replace hX := hX.cur hg (show g < w8.heap.size by omega)
        replace hG7 := grown_trans hG7 hg
        clear hc8 hg n0 hj0 hj1
        go_wp2_with fail
        refine (c_l1Below g wd hw4 _ hc10).mono ?_
        rintro e w11 ⟨xv, rfl, _, _, _, hc11, hg⟩
        replace kT7 := kT7.cur hg (show k6 ≠ g by omega)
        replace kZ7 := kZ7.cur hg (show w.heap.size ≠ g by omega)
        replace hO7 := hO7.cur hg (show g < w.heap.size + 1 by omega)
        replace hX := hX.cur hg (show g < w8.heap.size by omega)
        replace hG7 := grown_trans hG7 hg
        clear hc10 hg
        obtain ⟨gx, rfl, _⟩ := hX.news hC0
        have hgx := (World.ownsRow.lt hX gx rfl).1
        have avx : Avoid gx (.slice o7 P.length c7) ys := fun y hy e => by have := old7 y hy _ e; omega
        obtain ⟨x1, x2⟩ := hX.cell rfl jn hjC
        replace hX := hX.store rfl jn xv
        replace kT7 := kT7.far ⟨gx, jn, none⟩ (.int .i64 xv) (show k6 ≠ gx by omega)
        replace kZ7 := kZ7.far ⟨gx, jn, none⟩ (.int .i64 xv) (show w.heap.size ≠ gx by omega)
        replace hO7 := ownRows_setAvoid hO7 avx jn (.int .i64 xv)
        replace hc11 := hc11.set (j := jn) (v := .int .i64 xv) (show g < gx by omega)
        replace hG7 := grown_new (j := jn) (v := .int .i64 xv) hG7 (show w.heap.size ≤ gx by omega)
        have hjj : (0 : Int) ≤ jn ∧ (jn : Int) < C.length := by omega
        have n1 := kT7.cell 1 (.slice o7 P.length c7) rfl
        have hyl := hO7.len
        replace hX := hX.based (show w.heap.size + 1 ≤ w8.heap.size by omega)
        have avX : (Value.slice (some ⟨gx, 0, none⟩) C.length c9).ownBlock ≠ some k6 := fun e9 => by simp [Value.ownBlock] at e9; omega
        go_wp2_with (first | (at_builtin; refine wpList_append_fresh rfl _ _ 24 rfl (w.heap.size + 1) 50 j0 (.slice none 0 0) 1 24 Tryz.underlying24 hj hy0 hy1 hy2 rfl (by decide) _ _ _ rfl (World.ownsRow.alloc hO7.outer _) _ 1 1 [.slice (some ⟨gx, 0, none⟩) C.length c9] rfl rfl (World.news_of_block (cs := #[.slice (some ⟨gx, 0, none⟩) C.length c9]) (t := 50) (fr := (0, 0)) (heap_new_at (by simp))) (by intro u hu; simp at hu; subst hu; rfl) (by unfold maxLen; omega) (by omega) (by have := kT7.lt; simp at this ⊢; omega) ?_; intro v12 w12 hown hgrow hfr; obtain ⟨⟨o8, c8, rfl⟩, s8, t8, kT8, hO8, av8, hc9, hG8, hoth, hblk⟩ := tab_snocG (show (C.set jn xv).length = C.length by simp) hO7 hX apX kT7 av7 avX hc11 hG7 (Nat.le_succ _) (show w.heap.size ≤ k6 by omega) (show g < k6 by omega) hown hgrow hfr; have kZ8 := hblk _ _ _ kZ7 (show w.heap.size ≠ k6 by omega) (fun e => by have := (World.ownsRow.lt hO7.outer _ e).1; omega); clear hown hgrow hfr hblk hoth) | fail)
        have hl8 : P.length + 1 = (P ++ [C.set jn xv]).length := by simp
        have HL8 : Hid (∀ j, j < (P ++ [C.set jn xv]).length → (row (P ++ [C.set jn xv]) j).length ≤ 5) := fun j hj => by
          by_cases h : j < P.length
          · rw [row_append_lt h]; exact HL7.out j h
          · have : j = P.length := by simp at hj; omega
            rw [this, row_append_end]; simpa using hC5
        rw [hl8] at kT8 hO8 av8
        have hPk8 : (P ++ [C.set jn xv]).length + 2 * (k - 1) ≤ 12 := by simp; omega
        clear hl8
        go_roundw
        case rel => exact ⟨k - 1, P ++ [C.set jn xv], o8, c8, _, by go_num, hPk8, HL8.out, by rw [show (P ++ [C.set jn xv]).length = P.length + 1 by simp] at *; exact kT8, by rw [show (P ++ [C.set jn xv]).length = P.length + 1 by simp] at *; exact hO8, by rw [show (P ++ [C.set jn xv]).length = P.length + 1 by simp] at *; exact av8, hc9, hG8, kZ8⟩
        case measure => simp [intOf]; omega
    · have HK : Hid (k = 0) := by show k = 0; omega
      have r0 := kT.cell 0 (.int .i64 N) rfl
      have r1 := kT.cell 1 (.slice o R.length c) rfl
      have z0 := kZ.cell 0 (.int .i64 0) rfl
      have z1 := kZ.cell 1 (.slice none 0 0) rfl
      have f0 := kZ.free 0
      have f1 := kZ.free 1
      have k2 : Blk _ w.heap.size #[.int .i64 N, .slice o R.length c] 26 := (kZ.set 0 (.int .i64 N)).set 1 (.slice o R.length c)
      have q0 := k2.cell 0 (.int .i64 N) rfl
      have q1 := k2.cell 1 (.slice o R.length c) rfl
      go_wp2
      refine bodyPost_ret (v := .agg #[.int .i64 N, .slice o R.length c]) (by simp only [results, Tryz.results86]; simp [go_sem, q0, q1]) rfl ?_
      exact ⟨N, o, c, xs, R, rfl, ((hO.far_set 0 (.int .i64 N) (Nat.lt_succ_self _)).far_set 1 (.slice o R.length c) (Nat.lt_succ_self _)).based (Nat.le_succ _), ⟨hN2.1, hN2.2, hRl, HLn.out⟩, (hc.set (j := 0) (v := .int .i64 N) hlt).set (j := 1) (v := .slice o R.length c) hlt, grown_new (j := 1) (v := .slice o R.length c) (grown_new (j := 0) (v := .int .i64 N) hG (Nat.le_refl _)) (Nat.le_refl _)⟩
end Go.Proofs.YtcenndlbhgfdfaaGreat
namespace Go.Proofs.YtcenndlbhgfdfaaGreat
open Go.RowKit
set_option linter.unusedVariables false
set_option maxRecDepth 100000

set_option maxHeartbeats 3200000 in
theorem c_l3Any (g : Nat) (w : World) (hc : Cur w g) :
    Calls Tryz.prog 94 #[.pointer (some ⟨g, 0, none⟩)] w fun e w' => ∃ (n : Int) (o : Option Addr) (c : Nat) (xs : List Value) (R : List (List Int)), e = .returned (.agg #[.int .i64 n, .slice o R.length c]) ∧ OwnRows w' w.heap.size (.slice o R.length c) xs R ∧ (R.length ≤ 13 ∧ ∀ j, j < R.length → (row R j).length ≤ 5) ∧ Cur w' g ∧ w.grownBy w' (some g) := by
  obtain ⟨i0, hi, hz0, hz1, hz2⟩ := info_parts info_int
  obtain ⟨j0, hj, hy0, hy1, hy2⟩ := info_parts info_ints
  have hlt := hc.lt
  have kZ := Blk.new w #[.int .i64 0, .slice none 0 0] 26
  have hG := grown_of_below ((Below.refl w.heap.size w).alloc (Nat.le_refl _) (.cells #[.int .i64 0, .slice none 0 0] 26)) (some g)
  replace hc := cur_alloc hc (.cells #[.int .i64 0, .slice none 0 0] 26)
  go_enter Tryz.func94, Tryz.ntmps94
  go_wp2_with fail
  refine (c_l3Table g _ hc).mono ?_
  rintro e w1 ⟨N, o, c, xs, R, rfl, hO, ⟨_, _, hRl, hlen⟩, hc1, hg⟩
  have HLn : Hid (∀ j, j < R.length → (row R j).length ≤ 5) := hlen
  clear hlen
  simp only [World.size_alloc] at hO
  replace kZ := kZ.cur hg (show w.heap.size ≠ g by omega)
  replace hG := grown_trans hG hg
  clear hc hg
  have kT := Blk.new w1 #[.int .i64 N, .slice o R.length c] 26
  have hz := kZ.lt
  have av : Avoid w1.heap.size (.slice o R.length c) xs := fun y hy e => by
    have := hO.old (Nat.le_refl _) y hy _ e
    omega
  have hba := (Below.refl w1.heap.size w1).alloc (Nat.le_refl _) (.cells #[.int .i64 N, .slice o R.length c] 26)
  replace kZ := kZ.keep hba
  replace hO := hO.keep hba
  replace hc1 := hc1.keep hba
  replace hG := grown_trans hG (grown_of_below hba _)
  clear hba
  go_upto_region 2 with fail
  generalize w1.alloc (.cells #[.int .i64 N, .slice o R.length c] 26) = w2 at *
  obtain ⟨k6, hk6⟩ : ∃ k, w1.heap.size = k := ⟨_, rfl⟩
  rw [hk6] at kT hz av
  simp only [hk6]
  clear hk6
  go_wp2_with fail
  refine (c_l1Below g 12 (by omega) _ hc1).mono ?_
  rintro e w3 ⟨q, rfl, _, _, _, hc3, hg⟩
  replace kZ := kZ.cur hg (show w.heap.size ≠ g by omega)
  replace kT := kT.cur hg (show k6 ≠ g by omega)
  replace hO := hO.cur hg (show g < w.heap.size + 1 by omega)
  replace hG := grown_trans hG hg
  clear hc1 hg
  have hk6 := kT.lt
  have hlt3 := hc3.lt
  by_cases e0 : q = 0
  · have hL := fun T => lit_ints w3 #[.int .i64 0, .int .i64 1, .int .i64 5, .int .i64 6] [0, 1, 5, 6] (by simp) (fun k hk => by match k, hk with | 0, _ => rfl | 1, _ => rfl | 2, _ => rfl | 3, _ => rfl) T
    go_wp2_with fail
    refine (c_l1PickInt g _ 4 [0, 1, 5, 6] (by simp) (by simp) _ (cur_alloc hc3 _) (hL _) (fun a e => by injection e with e; subst e; simp; omega)).mono ?_
    rintro e w4 ⟨n, rfl, _, hc4, hg⟩
    replace hg := grown_alloc hg
    replace kZ := kZ.cur hg (show w.heap.size ≠ g by omega)
    replace kT := kT.cur hg (show k6 ≠ g by omega)
    replace hO := hO.cur hg (show g < w.heap.size + 1 by omega)
    replace hG := grown_trans hG hg
    clear hc3 hg hL
    have n0 := kT.cell 0 (.int .i64 N) rfl
    have g0 := kT.free 0
    have kT2 : Blk _ k6 #[.int .i64 n, .slice o R.length c] 26 := kT.set 0 (.int .i64 n)
    have kZ2 := kZ.far ⟨k6, 0, none⟩ (.int .i64 n) (show w.heap.size ≠ k6 by omega)
    have hO2 := ownRows_setAvoid hO av 0 (.int .i64 n)
    have hc5 := hc4.set (j := 0) (v := .int .i64 n) (show g < k6 by omega)
    have hG2 := grown_new (j := 0) (v := .int .i64 n) hG (show w.heap.size ≤ k6 by omega)
    clear kZ hO hc4 hG
    have r0 := kT2.cell 0 (.int .i64 n) rfl
    have r1 := kT2.cell 1 (.slice o R.length c) rfl
    have z0 := kZ2.cell 0 (.int .i64 0) rfl
    have z1 := kZ2.cell 1 (.slice none 0 0) rfl
    have f0 := kZ2.free 0
    have f1 := kZ2.free 1
    have k2 : Blk _ w.heap.size #[.int .i64 n, .slice o R.length c] 26 := (kZ2.set 0 (.int .i64 n)).set 1 (.slice o R.length c)
    have q0 := k2.cell 0 (.int .i64 n) rfl
    have q1 := k2.cell 1 (.slice o R.length c) rfl
    go_wp2
    refine bodyPost_ret (v := .agg #[.int .i64 n, .slice o R.length c]) (by simp only [results, Tryz.results94]; simp [go_sem, q0, q1]) rfl ?_
    exact ⟨n, o, c, xs, R, rfl, ((hO2.far_set 0 (.int .i64 n) (Nat.lt_succ_self _)).far_set 1 (.slice o R.length c) (Nat.lt_succ_self _)).based (Nat.le_succ _), ⟨by omega, HLn.out⟩, (hc5.set (j := 0) (v := .int .i64 n) hlt).set (j := 1) (v := .slice o R.length c) hlt, grown_new (j := 1) (v := .slice o R.length c) (grown_new (j := 0) (v := .int .i64 n) hG2 (Nat.le_refl _)) (Nat.le_refl _)⟩
  · by_cases e1 : q = 1
    · have hL := fun T => lit_ints w3 #[.int .i64 (-2), .int .i64 (-1), .int .i64 40, .int .i64 41] [-2, -1, 40, 41] (by simp) (fun k hk => by match k, hk with | 0, _ => rfl | 1, _ => rfl | 2, _ => rfl | 3, _ => rfl) T
      have hxl := hO.len
      have n1 := kT.cell 1 (.slice o R.length c) rfl
      have n1d := kT.drew.cell 1 (.slice o R.length c) rfl
      have n1a := fun cs T => (kT.alloc (.cells cs T)).cell 1 (.slice o R.length c) rfl
      have n1b := fun cs T => (kT.alloc (.cells cs T)).drew.cell 1 (.slice o R.length c) rfl
      go_wp2_with fail
      go_region_law (first
        | ((try go_simp); refine (c_l1PickInt g _ 4 [-2, -1, 40, 41] (by simp) (by simp) _ (by first | exact cur_alloc hc3 _ | exact (cur_alloc hc3 _).keep (Below.refl _ _).drew | exact cur_alloc (hc3.keep (Below.refl _ _).drew) _) (by first | exact hL _ | exact (hL _).keep (Below.refl _ _).drew) (fun a e => by injection e with e; subst e; simp; omega)).mono ?_; rintro e w5 ⟨x, rfl, _, hc5, hg⟩; have hg3 : w3.grownBy w5 (some g) := (by first | exact grown_alloc hg | exact grown_alloc (drew_grown hg) | exact drew_grown (grown_alloc hg)); have kT5 := kT.cur hg3 (show k6 ≠ g by omega); have kZ5 := kZ.cur hg3 (show w.heap.size ≠ g by omega); have hO5 := hO.cur hg3 (show g < w.heap.size + 1 by omega); have hG5 := grown_trans hG hg3; have q5 := kT5.cell 1 (.slice o R.length c) rfl; have q5a := fun cs T => (kT5.alloc (.cells cs T)).cell 1 (.slice o R.length c) rfl; have q5b := fun cs T cs' T' => ((kT5.alloc (.cells cs T)).alloc (.cells cs' T')).cell 1 (.slice o R.length c) rfl; clear hg hg3)
        | (have hba := (Below.refl w5.heap.size w5).alloc (Nat.le_refl _) (.cells #[.int .i64 1, .int .i64 x] 3); have hI6 : OwnI (w5.alloc (.cells #[.int .i64 1, .int .i64 x] 3)) w5.heap.size (.slice (some ⟨w5.heap.size, 0, none⟩) 2 2) [1, x] := World.ownsRow_lit w5 #[.int .i64 1, .int .i64 x] 2 (Nat.le_refl _) (by decide) rfl; have ap6 := OwnRows.fresh hO5 hI6; have kT6 := kT5.keep hba; have kZ6 := kZ5.keep hba; have hO6 := hO5.keep hba; have hc6 := hc5.keep hba; have hG6 := grown_trans hG5 (grown_of_below hba _); have hk5 := kT5.lt; refine step_append_held _ (by rfl) _ _ 24 (by rfl) (w.heap.size + 1) 50 j0 (.slice none 0 0) 1 24 Tryz.underlying24 hj hy0 hy1 hy2 rfl (by decide) (.slice o R.length c) _ _ (by rfl) (World.ownsRow.alloc hO6.outer _) _ 1 1 [.slice (some ⟨w5.heap.size, 0, none⟩) 2 2] (by rfl) rfl (World.news_of_block (cs := #[.slice (some ⟨w5.heap.size, 0, none⟩) 2 2]) (t := 50) (fr := (0, 0)) (heap_new_at (by simp))) (by intro u hu; simp at hu; subst hu; rfl) (by unfold maxLen; omega) (by omega) (by simp; omega) ?_; intro v7 w7 hown _ hgrow hfr; obtain ⟨⟨o7, c7, rfl⟩, s7, t7, kT7, hO7, av7, hc7, hG7, hoth, hblk⟩ := tab_snocG (nC := 2) (C := [1, x]) rfl hO6 (hI6.based (show w.heap.size + 1 ≤ w5.heap.size by omega)) ap6 kT6 av (fun e9 => by simp [Value.ownBlock] at e9; omega) hc6 hG6 (Nat.le_succ _) (show w.heap.size ≤ k6 by omega) (show g < k6 by omega) hown hgrow hfr; have kZ7 := hblk _ _ _ kZ6 (show w.heap.size ≠ k6 by omega) (fun e => by have := (World.ownsRow.lt hO6.outer _ e).1; omega); clear hown hgrow hfr hblk hoth)
        | fail)
      all_goals
        have HL7 : Hid (∀ j, j < (R ++ [[1, x]]).length → (row (R ++ [[1, x]]) j).length ≤ 5) := fun j hj => by
          by_cases h : j < R.length
          · rw [row_append_lt h]; exact HLn.out j h
          · have : j = R.length := by simp at hj; omega
            rw [this, row_append_end]; simp
        have hO8 := hO7
        clear hO7 s7 t7 q5 q5a q5b n1 n1d n1a n1b hL
        generalize w7.setCell ⟨k6, 1, none⟩ (.slice o7 (R.length + 1) c7) = w8 at *
        have r0 := kT7.cell 0 (.int .i64 N) rfl
        have r1 := kT7.cell 1 (.slice o7 (R.length + 1) c7) rfl
        have z0 := kZ7.cell 0 (.int .i64 0) rfl
        have z1 := kZ7.cell 1 (.slice none 0 0) rfl
        have f0 := kZ7.free 0
        have f1 := kZ7.free 1
        have k2 : Blk _ w.heap.size #[.int .i64 N, .slice o7 (R.length + 1) c7] 26 := (kZ7.set 0 (.int .i64 N)).set 1 (.slice o7 (R.length + 1) c7)
        have q0 := k2.cell 0 (.int .i64 N) rfl
        have q1 := k2.cell 1 (.slice o7 (R.length + 1) c7) rfl
        go_wp2
        refine bodyPost_ret (v := .agg #[.int .i64 N, .slice o7 (R.length + 1) c7]) (by simp only [results, Tryz.results94]; simp [go_sem, q0, q1]) rfl ?_
        have hl7 : R.length + 1 = (R ++ [[1, x]]).length := by simp
        refine ⟨N, o7, c7, xs ++ [.slice (some ⟨w5.heap.size, 0, none⟩) 2 2], R ++ [[1, x]], by rw [← hl7], ?_, ⟨by simp; omega, HL7.out⟩, (hc7.set (j := 0) (v := .int .i64 N) hlt).set (j := 1) (v := .slice o7 (R.length + 1) c7) hlt, grown_new (j := 1) (v := .slice o7 (R.length + 1) c7) (grown_new (j := 0) (v := .int .i64 N) hG7 (Nat.le_refl _)) (Nat.le_refl _)⟩
        rw [← hl7]
        exact ((hO8.far_set 0 (.int .i64 N) (Nat.lt_succ_self _)).far_set 1 (.slice o7 (R.length + 1) c7) (Nat.lt_succ_self _)).based (Nat.le_succ _)
    · skip
      have r0 := kT.cell 0 (.int .i64 N) rfl
      have r1 := kT.cell 1 (.slice o R.length c) rfl
      have z0 := kZ.cell 0 (.int .i64 0) rfl
      have z1 := kZ.cell 1 (.slice none 0 0) rfl
      have f0 := kZ.free 0
      have f1 := kZ.free 1
      have k2 : Blk _ w.heap.size #[.int .i64 N, .slice o R.length c] 26 := (kZ.set 0 (.int .i64 N)).set 1 (.slice o R.length c)
      have q0 := k2.cell 0 (.int .i64 N) rfl
      have q1 := k2.cell 1 (.slice o R.length c) rfl
      go_wp2
      refine bodyPost_ret (v := .agg #[.int .i64 N, .slice o R.length c]) (by simp only [results, Tryz.results94]; simp [go_sem, q0, q1]) rfl ?_
      exact ⟨N, o, c, xs, R, rfl, ((hO.far_set 0 (.int .i64 N) (Nat.lt_succ_self _)).far_set 1 (.slice o R.length c) (Nat.lt_succ_self _)).based (Nat.le_succ _), ⟨by omega, HLn.out⟩, (hc3.set (j := 0) (v := .int .i64 N) hlt).set (j := 1) (v := .slice o R.length c) hlt, grown_new (j := 1) (v := .slice o R.length c) (grown_new (j := 0) (v := .int .i64 N) hG (Nat.le_refl _)) (Nat.le_refl _)⟩
set_option maxHeartbeats 3200000 in
theorem c_l4Draw (g : Nat) (w : World) (hc : Cur w g) :
    Calls Tryz.prog 59 #[.pointer (some ⟨g, 0, none⟩)] w fun e w' => ∃ (n m : Int) (o : Option Addr) (c : Nat) (xs : List Value) (R : List (List Int)), e = .returned (.tuple #[.agg #[.int .i64 n, .slice o R.length c], .int .i64 m]) ∧ OwnRows w' w.heap.size (.slice o R.length c) xs R ∧ (R.length ≤ 13 ∧ ∀ j, j < R.length → (row R j).length ≤ 5) ∧ Cur w' g ∧ w.grownBy w' (some g) := by
  obtain ⟨i0, hi, hz0, hz1, hz2⟩ := info_parts info_int
  obtain ⟨j0, hj, hy0, hy1, hy2⟩ := info_parts info_ints
  have hlt := hc.lt
  have kZ := Blk.new w #[.int .i64 0, .slice none 0 0] 26
  have hG := grown_of_below ((Below.refl w.heap.size w).alloc (Nat.le_refl _) (.cells #[.int .i64 0, .slice none 0 0] 26)) (some g)
  replace hc := cur_alloc hc (.cells #[.int .i64 0, .slice none 0 0] 26)
  go_enter Tryz.func59, Tryz.ntmps59
  go_wp2_with fail
  refine (c_l3Table g _ hc).mono ?_
  rintro e w1 ⟨N, o, c, xs, R, rfl, hO, ⟨_, _, hRl, hlen⟩, hc1, hg⟩
  have HLn : Hid (∀ j, j < R.length → (row R j).length ≤ 5) := hlen
  clear hlen
  simp only [World.size_alloc] at hO
  replace kZ := kZ.cur hg (show w.heap.size ≠ g by omega)
  replace hG := grown_trans hG hg
  clear hc hg
  have kT := Blk.new w1 #[.int .i64 N, .slice o R.length c] 26
  have hz := kZ.lt
  have av : Avoid w1.heap.size (.slice o R.length c) xs := fun y hy e => by
    have := hO.old (Nat.le_refl _) y hy _ e
    omega
  have hba := (Below.refl w1.heap.size w1).alloc (Nat.le_refl _) (.cells #[.int .i64 N, .slice o R.length c] 26)
  replace kZ := kZ.keep hba
  replace hO := hO.keep hba
  replace hc1 := hc1.keep hba
  replace hG := grown_trans hG (grown_of_below hba _)
  clear hba
  go_upto_region 2 with fail
  generalize w1.alloc (.cells #[.int .i64 N, .slice o R.length c] 26) = w2 at *
  obtain ⟨k6, hk6⟩ : ∃ k, w1.heap.size = k := ⟨_, rfl⟩
  rw [hk6] at kT hz av
  simp only [hk6]
  clear hk6
  go_wp2_with fail
  refine (c_l1Once g 14 (by omega) _ hc1).mono ?_
  rintro e w3 ⟨t, rfl, hc3, hg⟩
  replace kZ := kZ.cur hg (show w.heap.size ≠ g by omega)
  replace kT := kT.cur hg (show k6 ≠ g by omega)
  replace hO := hO.cur hg (show g < w.heap.size + 1 by omega)
  replace hG := grown_trans hG hg
  clear hc1 hg
  have hk6 := kT.lt
  cases t
  · skip
    go_wp2_with fail
    refine (c_l1Below g 2 (by omega) _ hc3).mono ?_
    rintro e w5 ⟨m, rfl, _, _, _, hc5, hg⟩
    replace kZ := kZ.cur hg (show w.heap.size ≠ g by omega)
    replace kT := kT.cur hg (show k6 ≠ g by omega)
    replace hO := hO.cur hg (show g < w.heap.size + 1 by omega)
    replace hG := grown_trans hG hg
    clear hc3 hg
    go_wp2_with fail
    refine (c_l1Once g 20 (by omega) _ hc5).mono ?_
    rintro e w6 ⟨t, rfl, hc6, hg⟩
    replace kZ := kZ.cur hg (show w.heap.size ≠ g by omega)
    replace kT := kT.cur hg (show k6 ≠ g by omega)
    replace hO := hO.cur hg (show g < w.heap.size + 1 by omega)
    replace hG := grown_trans hG hg
    clear hc5 hg
    cases t
    · skip
      have r0 := kT.cell 0 (.int .i64 N) rfl
      have r1 := kT.cell 1 (.slice o R.length c) rfl
      have z0 := kZ.cell 0 (.int .i64 0) rfl
      have z1 := kZ.cell 1 (.slice none 0 0) rfl
      have f0 := kZ.free 0
      have f1 := kZ.free 1
      have k2 : Blk _ w.heap.size #[.int .i64 N, .slice o R.length c] 26 := (kZ.set 0 (.int .i64 N)).set 1 (.slice o R.length c)
      have q0 := k2.cell 0 (.int .i64 N) rfl
      have q1 := k2.cell 1 (.slice o R.length c) rfl
      go_wp2
      refine bodyPost_ret (v := .tuple #[.agg #[.int .i64 N, .slice o R.length c], .int .i64 m]) (by simp only [results, Tryz.results59]; simp [go_sem, q0, q1]) rfl ?_
      exact ⟨N, m, o, c, xs, R, rfl, ((hO.far_set 0 (.int .i64 N) (Nat.lt_succ_self _)).far_set 1 (.slice o R.length c) (Nat.lt_succ_self _)).based (Nat.le_succ _), ⟨by omega, HLn.out⟩, (hc6.set (j := 0) (v := .int .i64 N) hlt).set (j := 1) (v := .slice o R.length c) hlt, grown_new (j := 1) (v := .slice o R.length c) (grown_new (j := 0) (v := .int .i64 N) hG (Nat.le_refl _)) (Nat.le_refl _)⟩
    · have hL := fun T => lit_ints w6 #[.int .i64 (-1), .int .i64 2] [-1, 2] (by simp) (fun k hk => by match k, hk with | 0, _ => rfl | 1, _ => rfl) T
      have hlt6 := hc6.lt
      go_wp2_with fail
      refine (c_l1PickInt g _ 2 [-1, 2] (by simp) (by simp) _ (cur_alloc hc6 _) (hL _) (fun a e => by injection e with e; subst e; simp; omega)).mono ?_
      rintro e w7 ⟨m2, rfl, _, hc7, hg⟩
      replace hg := grown_alloc hg
      replace kZ := kZ.cur hg (show w.heap.size ≠ g by omega)
      replace kT := kT.cur hg (show k6 ≠ g by omega)
      replace hO := hO.cur hg (show g < w.heap.size + 1 by omega)
      replace hG := grown_trans hG hg
      clear hc6 hg hL
      have r0 := kT.cell 0 (.int .i64 N) rfl
      have r1 := kT.cell 1 (.slice o R.length c) rfl
      have z0 := kZ.cell 0 (.int .i64 0) rfl
      have z1 := kZ.cell 1 (.slice none 0 0) rfl
      have f0 := kZ.free 0
      have f1 := kZ.free 1
      have k2 : Blk _ w.heap.size #[.int .i64 N, .slice o R.length c] 26 := (kZ.set 0 (.int .i64 N)).set 1 (.slice o R.length c)
      have q0 := k2.cell 0 (.int .i64 N) rfl
      have q1 := k2.cell 1 (.slice o R.length c) rfl
      go_wp2
      refine bodyPost_ret (v := .tuple #[.agg #[.int .i64 N, .slice o R.length c], .int .i64 m2]) (by simp only [results, Tryz.results59]; simp [go_sem, q0, q1]) rfl ?_
      exact ⟨N, m2, o, c, xs, R, rfl, ((hO.far_set 0 (.int .i64 N) (Nat.lt_succ_self _)).far_set 1 (.slice o R.length c) (Nat.lt_succ_self _)).based (Nat.le_succ _), ⟨by omega, HLn.out⟩, (hc7.set (j := 0) (v := .int .i64 N) hlt).set (j := 1) (v := .slice o R.length c) hlt, grown_new (j := 1) (v := .slice o R.length c) (grown_new (j := 0) (v := .int .i64 N) hG (Nat.le_refl _)) (Nat.le_refl _)⟩
  · go_wp2_with fail
    refine (c_l3Any g _ hc3).mono ?_
    rintro e w4 ⟨n, o2, c2, xs2, R2, rfl, hO2, ⟨hRl2, hlen2⟩, hc4, hg⟩
    have HLn2 : Hid (∀ j, j < R2.length → (row R2 j).length ≤ 5) := hlen2
    clear hlen2
    replace kZ := kZ.cur hg (show w.heap.size ≠ g by omega)
    replace kT := kT.cur hg (show k6 ≠ g by omega)
    replace hG := grown_trans hG hg
    have av2 : Avoid k6 (.slice o2 R2.length c2) xs2 := fun y hy e => by
      rcases hy with rfl | hy
      · have := (World.ownsRow.lt hO2.outer _ e).1; omega
      · have := hO2.lowS (Nat.le_refl _) y hy _ e; omega
    replace hO2 := hO2.based (show w.heap.size + 1 ≤ w3.heap.size by omega)
    clear hc3 hg hO HLn hRl av
    have n0 := kT.cell 0 (.int .i64 N) rfl
    have n1 := kT.cell 1 (.slice o R.length c) rfl
    have g0 := kT.free 0
    have g1 := kT.free 1
    have kT2 : Blk _ k6 #[.int .i64 n, .slice o2 R2.length c2] 26 := (kT.set 0 (.int .i64 n)).set 1 (.slice o2 R2.length c2)
    have kZ2 := (kZ.far ⟨k6, 0, none⟩ (.int .i64 n) (show w.heap.size ≠ k6 by omega)).far ⟨k6, 1, none⟩ (.slice o2 R2.length c2) (show w.heap.size ≠ k6 by omega)
    have hO3 := ownRows_setAvoid (ownRows_setAvoid hO2 av2 0 (.int .i64 n)) av2 1 (.slice o2 R2.length c2)
    have hc5 := (hc4.set (j := 0) (v := .int .i64 n) (show g < k6 by omega)).set (j := 1) (v := .slice o2 R2.length c2) (show g < k6 by omega)
    have hG2 := grown_new (j := 1) (v := .slice o2 R2.length c2) (grown_new (j := 0) (v := .int .i64 n) hG (show w.heap.size ≤ k6 by omega)) (show w.heap.size ≤ k6 by omega)
    clear kZ hO2 hc4 hG
    have kT1 := kT
    clear kT
    have kT := kT2
    have kZ := kZ2
    have hO := hO3
    have hc3 := hc5
    have hG := hG2
    clear kT2 kZ2 hO3 hc5 hG2
    go_wp2_with fail
    skip
    refine (c_l1Below g 2 (by omega) _ hc3).mono ?_
    rintro e w5 ⟨m, rfl, _, _, _, hc5, hg⟩
    replace kZ := kZ.cur hg (show w.heap.size ≠ g by omega)
    replace kT := kT.cur hg (show k6 ≠ g by omega)
    replace hO := hO.cur hg (show g < w.heap.size + 1 by omega)
    replace hG := grown_trans hG hg
    clear hc3 hg
    go_wp2_with fail
    refine (c_l1Once g 20 (by omega) _ hc5).mono ?_
    rintro e w6 ⟨t, rfl, hc6, hg⟩
    replace kZ := kZ.cur hg (show w.heap.size ≠ g by omega)
    replace kT := kT.cur hg (show k6 ≠ g by omega)
    replace hO := hO.cur hg (show g < w.heap.size + 1 by omega)
    replace hG := grown_trans hG hg
    clear hc5 hg
    cases t
    · skip
      have r0 := kT.cell 0 (.int .i64 n) rfl
      have r1 := kT.cell 1 (.slice o2 R2.length c2) rfl
      have z0 := kZ.cell 0 (.int .i64 0) rfl
      have z1 := kZ.cell 1 (.slice none 0 0) rfl
      have f0 := kZ.free 0
      have f1 := kZ.free 1
      have k2 : Blk _ w.heap.size #[.int .i64 n, .slice o2 R2.length c2] 26 := (kZ.set 0 (.int .i64 n)).set 1 (.slice o2 R2.length c2)
      have q0 := k2.cell 0 (.int .i64 n) rfl
      have q1 := k2.cell 1 (.slice o2 R2.length c2) rfl
      go_wp2
      refine bodyPost_ret (v := .tuple #[.agg #[.int .i64 n, .slice o2 R2.length c2], .int .i64 m]) (by simp only [results, Tryz.results59]; simp [go_sem, q0, q1]) rfl ?_
      exact ⟨n, m, o2, c2, xs2, R2, rfl, ((hO.far_set 0 (.int .i64 n) (Nat.lt_succ_self _)).far_set 1 (.slice o2 R2.length c2) (Nat.lt_succ_self _)).based (Nat.le_succ _), ⟨by omega, HLn2.out⟩, (hc6.set (j := 0) (v := .int .i64 n) hlt).set (j := 1) (v := .slice o2 R2.length c2) hlt, grown_new (j := 1) (v := .slice o2 R2.length c2) (grown_new (j := 0) (v := .int .i64 n) hG (Nat.le_refl _)) (Nat.le_refl _)⟩
    · have hL := fun T => lit_ints w6 #[.int .i64 (-1), .int .i64 2] [-1, 2] (by simp) (fun k hk => by match k, hk with | 0, _ => rfl | 1, _ => rfl) T
      have hlt6 := hc6.lt
      go_wp2_with fail
      refine (c_l1PickInt g _ 2 [-1, 2] (by simp) (by simp) _ (cur_alloc hc6 _) (hL _) (fun a e => by injection e with e; subst e; simp; omega)).mono ?_
      rintro e w7 ⟨m2, rfl, _, hc7, hg⟩
      replace hg := grown_alloc hg
      replace kZ := kZ.cur hg (show w.heap.size ≠ g by omega)
      replace kT := kT.cur hg (show k6 ≠ g by omega)
      replace hO := hO.cur hg (show g < w.heap.size + 1 by omega)
      replace hG := grown_trans hG hg
      clear hc6 hg hL
      have r0 := kT.cell 0 (.int .i64 n) rfl
      have r1 := kT.cell 1 (.slice o2 R2.length c2) rfl
      have z0 := kZ.cell 0 (.int .i64 0) rfl
      have z1 := kZ.cell 1 (.slice none 0 0) rfl
      have f0 := kZ.free 0
      have f1 := kZ.free 1
      have k2 : Blk _ w.heap.size #[.int .i64 n, .slice o2 R2.length c2] 26 := (kZ.set 0 (.int .i64 n)).set 1 (.slice o2 R2.length c2)
      have q0 := k2.cell 0 (.int .i64 n) rfl
      have q1 := k2.cell 1 (.slice o2 R2.length c2) rfl
      go_wp2
      refine bodyPost_ret (v := .tuple #[.agg #[.int .i64 n, .slice o2 R2.length c2], .int .i64 m2]) (by simp only [results, Tryz.results59]; simp [go_sem, q0, q1]) rfl ?_
      exact ⟨n, m2, o2, c2, xs2, R2, rfl, ((hO.far_set 0 (.int .i64 n) (Nat.lt_succ_self _)).far_set 1 (.slice o2 R2.length c2) (Nat.lt_succ_self _)).based (Nat.le_succ _), ⟨by omega, HLn2.out⟩, (hc7.set (j := 0) (v := .int .i64 n) hlt).set (j := 1) (v := .slice o2 R2.length c2) hlt, grown_new (j := 1) (v := .slice o2 R2.length c2) (grown_new (j := 0) (v := .int .i64 n) hG (Nat.le_refl _)) (Nat.le_refl _)⟩
end Go.Proofs.YtcenndlbhgfdfaaGreat
namespace Go.Proofs.YtcenndlbhgfdfaaGreat
open Go.RowKit
set_option linter.unusedVariables false
set_option maxRecDepth 100000

def DrawsTab (f : FuncId) (oa : Option Addr) (mc cap : Nat) (w : World) : Prop :=
  Calls Tryz.prog f #[.slice oa mc cap] w fun e w' => ∃ (n m : Int) (o : Option Addr) (c : Nat) (xs : List Value) (R : List (List Int)), e = .returned (.tuple #[.agg #[.int .i64 n, .slice o R.length c], .int .i64 m]) ∧ OwnRows w' w.heap.size (.slice o R.length c) xs R ∧ (R.length ≤ 13 ∧ ∀ j, j < R.length → (row R j).length ≤ 5) ∧ Below w.heap.size w w'
def DrawsTabX (f : FuncId) (oa : Option Addr) (mc cap : Nat) (w : World) : Prop :=
  Calls Tryz.prog f #[.slice oa mc cap] w fun e w' => ∃ (n m : Int) (o : Option Addr) (c : Nat) (xs : List Value) (R : List (List Int)) (x : Int), e = .returned (.tuple #[.agg #[.int .i64 n, .slice o R.length c], .int .i64 m, .int .i64 x]) ∧ OwnRows w' w.heap.size (.slice o R.length c) xs R ∧ (R.length ≤ 13 ∧ ∀ j, j < R.length → (row R j).length ≤ 5) ∧ Below w.heap.size w w'
end Go.Proofs.YtcenndlbhgfdfaaGreat
namespace Go.Proofs.YtcenndlbhgfdfaaGreat
open Go.RowKit
set_option linter.unusedVariables false
set_option maxRecDepth 100000

set_option maxHeartbeats 25600000 in
theorem c_DrawViolatedBorder (oa) (mc cap : Nat) (hm : mc ≤ 1048576) (w : World) (hB : BytesAt w oa mc) : DrawsTabX 25 oa mc cap w := by
  unfold DrawsTabX
  have hb := (Below.refl w.heap.size w).alloc (Nat.le_refl _) (.cells #[.int .i64 0, .slice none 0 0] 26)
  have kZ := Blk.new w #[.int .i64 0, .slice none 0 0] 26
  go_enter Tryz.func25, Tryz.ntmps25
  go_wp2_with fail
  refine (c_l1New oa mc cap hm _ (hB.keep hb)).mono ?_
  rintro e w1 ⟨rfl, hc1, hbn⟩
  replace kZ := kZ.keep hbn
  replace hb := bel_to hb hbn
  simp only [World.size_alloc] at hc1 ⊢
  clear hbn
  have hz := kZ.lt
  go_wp2_with fail
  refine (c_l4Draw _ _ hc1).mono ?_
  rintro e w2 ⟨n, m, o, c, xs, R, rfl, hO, ⟨hRl, hlen⟩, hc2, hg⟩
  have HLn : Hid (∀ j, j < R.length → (row R j).length ≤ 5) := hlen
  clear hlen
  have hlt1 := hc1.lt
  have hsz := hg.size
  replace hb := below_cur hb hg (Nat.le_succ _)
  replace kZ := kZ.cur hg (show w.heap.size ≠ w.heap.size + 1 by omega)
  clear hc1 hg
  have kT := Blk.new w2 #[.int .i64 n, .slice o R.length c] 26
  have hba := (Below.refl w2.heap.size w2).alloc (Nat.le_refl _) (.cells #[.int .i64 n, .slice o R.length c] 26)
  replace kZ := kZ.keep hba
  replace hO := hO.keep hba
  replace hc2 := hc2.keep hba
  replace hb := bel_to hb hba
  clear hba
  go_upto_region 3 with fail
  generalize w2.alloc (.cells #[.int .i64 n, .slice o R.length c] 26) = w3 at *
  obtain ⟨k6, hk6⟩ : ∃ k, w2.heap.size = k := ⟨_, rfl⟩
  rw [hk6] at kT hsz
  simp only [hk6]
  clear hk6
  have n0 := kT.cell 0 (.int .i64 n) rfl
  have n1 := kT.cell 1 (.slice o R.length c) rfl
  have n0d := kT.drew.cell 0 (.int .i64 n) rfl
  have n1d := kT.drew.cell 1 (.slice o R.length c) rfl
  go_region_law (first
    | ((try go_simp); refine (c_l1Below _ 6 (by omega) _ (by first | exact hc2 | exact hc2.keep (Below.refl _ _).drew)).mono ?_; rintro e w5 ⟨x, rfl, hx0, hx1, _, hc5, hg⟩; have hx2 := hx1 (by omega); have hg3 : w3.grownBy w5 (some (w.heap.size + 1)) := (by first | exact hg | exact drew_grown hg); have kT5 := kT.cur hg3 (show k6 ≠ w.heap.size + 1 by omega); have kZ5 := kZ.cur hg3 (show w.heap.size ≠ w.heap.size + 1 by omega); have hO5 := hO.cur hg3 (show w.heap.size + 1 < w1.heap.size by omega); have hb5 := below_cur hb hg3 (Nat.le_succ _); have p50 := kT5.cell 0 (.int .i64 n) rfl; have p51 := kT5.cell 1 (.slice o R.length c) rfl; have z0 := kZ5.cell 0 (.int .i64 0) rfl; have z1 := kZ5.cell 1 (.slice none 0 0) rfl; have f0 := kZ5.free 0; have f1 := kZ5.free 1; have hwr : IntKind.i64.wrap (x - 1) = x - 1 := (by unfold IntKind.wrap; simp [IntKind.bits, IntKind.signed]; omega); clear hg hg3)
    | fail)
  all_goals
    have k2 : Blk _ w.heap.size #[.int .i64 n, .slice o R.length c] 26 := (kZ5.set 0 (.int .i64 n)).set 1 (.slice o R.length c)
    have q0 := k2.cell 0 (.int .i64 n) rfl
    have q1 := k2.cell 1 (.slice o R.length c) rfl
    go_wp2
    refine bodyPost_ret (v := .tuple #[.agg #[.int .i64 n, .slice o R.length c], .int .i64 m, .int .i64 (x - 1)]) (by simp only [results, Tryz.results25]; simp [go_sem, q0, q1]) rfl ?_
    exact ⟨n, m, o, c, xs, R, (x - 1), rfl, ((hO5.far_set 0 (.int .i64 n) (show w.heap.size < w1.heap.size by omega)).far_set 1 (.slice o R.length c) (show w.heap.size < w1.heap.size by omega)).based (by omega), ⟨hRl, HLn.out⟩, bel_set2 hb5 (Nat.le_refl _) _ _⟩
end Go.Proofs.YtcenndlbhgfdfaaGreat
namespace Go.Proofs.YtcenndlbhgfdfaaGreat
open Go.RowKit
set_option linter.unusedVariables false
set_option maxRecDepth 100000

theorem c_closM (n : Int) (oa) (cap : Nat) (R : List (List Int)) (m x r : Int) (B C : Nat) (w : World) (hR : RowsAt w oa R) (a0 : w.cell? ⟨B, 0, none⟩ = some (.int .i64 n)) (a1 : w.cell? ⟨B, 1, none⟩ = some (.slice oa R.length cap)) (m0 : w.cell? ⟨C, 0, none⟩ = some (.int .i64 m)) :
    Ans Tryz.prog 70 #[.agg #[.int .i64 x, .int .i64 r], .pointer (some ⟨B, 0, none⟩), .pointer (some ⟨C, 0, none⟩)] w (.bool (askF n R m x r && holdsF R m x r)) := by
  unfold Ans
  have hb := (Below.refl w.heap.size w).alloc (Nat.le_refl _) (.cells #[.int .i64 x, .int .i64 r] 38)
  have b0 := cell_al a0 (.cells #[.int .i64 x, .int .i64 r] 38)
  have b1 := cell_al a1 (.cells #[.int .i64 x, .int .i64 r] 38)
  have c0 := cell_al m0 (.cells #[.int .i64 x, .int .i64 r] 38)
  clear a0 a1 m0
  go_enter Tryz.func70, Tryz.ntmps70
  go_wp2_with (first | (go_at_call 33; refine Calls.mono (c_HoldsDep _ _ _ _ _ _ _ _ (hR.keep hb)) ?_; rintro e w1 ⟨rfl, hbn⟩; replace hb := bel_to (w := w) (by first | exact hb | exact hb.alloc hb.size _ | exact (hb.alloc hb.size _).alloc (Nat.le_trans hb.size (by simp)) _ | exact hb.setCell (by simp [hb.size]) _) hbn; clear hbn))
  go_ret
  exact ⟨rfl, hb⟩
theorem OwnD.nil (w : World) (base : Nat) : OwnD w base (.slice none 0 0) [] := ⟨rfl, Or.inl ⟨rfl, rfl⟩⟩
set_option maxHeartbeats 800000 in
theorem c_MinimalDeps (n : Int) (oa) (cap : Nat) (R : List (List Int)) (m : Int) (w : World) (hR : RowsAt w oa R) :
    Calls Tryz.prog 27 #[.agg #[.int .i64 n, .slice oa R.length cap], .int .i64 m] w fun e w' => ∃ v, e = .returned v ∧ OwnD w' w.heap.size v (minDepsF n R m) ∧ Below w.heap.size w w' := by
  have hb := bel2 w (.cells #[.int .i64 n, .slice oa R.length cap] 26) (.cells #[.int .i64 m] 3)
  have a0 := two_a w #[.int .i64 n, .slice oa R.length cap] 26 #[.int .i64 m] 3 0 _ rfl
  have a1 := two_a w #[.int .i64 n, .slice oa R.length cap] 26 #[.int .i64 m] 3 1 _ rfl
  have m0 := two_b w #[.int .i64 n, .slice oa R.length cap] 26 #[.int .i64 m] 3 0 _ rfl
  cases ht : isTabF n R
  · have HM : Hid (minDepsF n R m = []) := by show minDepsF n R m = []; unfold minDepsF; rw [ht]; rfl
    go_enter Tryz.func27, Tryz.ntmps27
    go_wp2_with (first | (go_at_call 60; refine Calls.mono (Ans.eqb (c_IsTable _ _ _ _ _ (hR.keep hb)) ht) ?_; rintro e w1 ⟨rfl, hbn⟩; replace a0 := cell_keep a0 hbn; replace a1 := cell_keep a1 hbn; replace m0 := cell_keep m0 hbn; replace hb := bel_to (w := w) (by first | exact hb | exact hb.alloc hb.size _ | exact (hb.alloc hb.size _).alloc (Nat.le_trans hb.size (by simp)) _ | exact hb.setCell (by simp [hb.size]) _) hbn; clear hbn))
    go_ret
    exact ⟨_, rfl, by rw [HM.out]; exact OwnD.nil _ _, hb⟩
  cases hm : modeF m
  · have HM : Hid (minDepsF n R m = []) := by show minDepsF n R m = []; unfold minDepsF; rw [ht, hm]; rfl
    go_enter Tryz.func27, Tryz.ntmps27
    go_wp2_with (first | (go_at_call 60; refine Calls.mono (Ans.eqb (c_IsTable _ _ _ _ _ (hR.keep hb)) ht) ?_; rintro e w1 ⟨rfl, hbn⟩; replace a0 := cell_keep a0 hbn; replace a1 := cell_keep a1 hbn; replace m0 := cell_keep m0 hbn; replace hb := bel_to (w := w) (by first | exact hb | exact hb.alloc hb.size _ | exact (hb.alloc hb.size _).alloc (Nat.le_trans hb.size (by simp)) _ | exact hb.setCell (by simp [hb.size]) _) hbn; clear hbn) | (go_at_call 61; refine Calls.mono (Ans.eqb (c_isMode _ _) hm) ?_; rintro e w1 ⟨rfl, hbn⟩; replace a0 := cell_keep a0 hbn; replace a1 := cell_keep a1 hbn; replace m0 := cell_keep m0 hbn; replace hb := bel_to (w := w) (by first | exact hb | exact hb.alloc hb.size _ | exact (hb.alloc hb.size _).alloc (Nat.le_trans hb.size (by simp)) _ | exact hb.setCell (by simp [hb.size]) _) hbn; clear hbn))
    go_ret
    exact ⟨_, rfl, by rw [HM.out]; exact OwnD.nil _ _, hb⟩
  obtain ⟨hn1, hn5, _, _⟩ := isTab_of ht
  obtain ⟨N, rfl⟩ := Int.eq_ofNat_of_zero_le (show 0 ≤ n by omega)
  have HM : Hid (minDepsF N R m = colsF (fun x r => holdsF R m x r) (partsF N) N) := by show minDepsF N R m = _; unfold minDepsF; rw [ht, hm, Int.toNat_natCast]; rfl
  have HA : Hid (∀ x r : Int, St x → (0 ≤ r ∧ r < N) → x < 2 ^ N → askF N R m x r = true) := fun x r hx hr h2 =>
    (bord_dep (n := (N : Int)) (r := r) (by unfold bordOk; rw [ht, hm, decide_eq_true hr.1, decide_eq_true hr.2]; rfl) hx.1 (by rw [Int.toNat_natCast]; exact h2)).1
  have hN5 : N ≤ 5 := by omega
  go_enter Tryz.func27, Tryz.ntmps27
  go_wp2_with (first | (go_at_call 60; refine Calls.mono (Ans.eqb (c_IsTable _ _ _ _ _ (hR.keep hb)) ht) ?_; rintro e w1 ⟨rfl, hbn⟩; replace a0 := cell_keep a0 hbn; replace a1 := cell_keep a1 hbn; replace m0 := cell_keep m0 hbn; replace hb := bel_to (w := w) (by first | exact hb | exact hb.alloc hb.size _ | exact (hb.alloc hb.size _).alloc (Nat.le_trans hb.size (by simp)) _ | exact hb.setCell (by simp [hb.size]) _) hbn; clear hbn) | (go_at_call 61; refine Calls.mono (Ans.eqb (c_isMode _ _) hm) ?_; rintro e w1 ⟨rfl, hbn⟩; replace a0 := cell_keep a0 hbn; replace a1 := cell_keep a1 hbn; replace m0 := cell_keep m0 hbn; replace hb := bel_to (w := w) (by first | exact hb | exact hb.alloc hb.size _ | exact (hb.alloc hb.size _).alloc (Nat.le_trans hb.size (by simp)) _ | exact hb.setCell (by simp [hb.size]) _) hbn; clear hbn))
  refine (c_minimalDeps_M N hN5 _ _ (fun x r => holdsF R m x r) _ ?_).mono ?_
  · intro W x r hst hr hx2 hB
    exact Ans.eqb (c_closM N oa cap R m x r _ _ W ((hR.keep hb).keep hB) (cell_keep a0 hB) (cell_keep a1 hB) (cell_keep m0 hB)) (by rw [HA.out x r hst hr hx2]; rfl)
  rintro e w2 ⟨v2, rfl, hO, hbn⟩
  replace hO := hO.based hb.size
  replace hb := bel_to hb hbn
  clear hbn
  go_wp2
  go_ret
  exact ⟨_, rfl, by rw [HM.out]; exact hO, hb⟩

theorem emptyD_behind {w' : World} {B j : Nat} {v : Value} (h : w'.cell? ⟨B, j, none⟩ = some v) : OwnD (w'.alloc (.cells #[] 38)) (B + 1) (.slice (some ⟨w'.heap.size, 0, none⟩) 0 0) [] := OwnD.empty _ _ (World.block_lt_of_cell? _ _ h)
theorem colG_len (n : Int) (R : List (List Int)) (m : Int) (L : List Int) (r : Int) : (colG n R m L r).length ≤ L.length := by
  unfold colG
  rw [List.length_map]
  exact List.length_filter_le _ _
theorem colsG_len (n : Int) (R : List (List Int)) (m : Int) : ∀ k, (colsG n R m k).length ≤ 32 * k
  | 0 => by simp [colsG]
  | k + 1 => by
    rw [colsG_succ, List.length_append]
    have h1 := colsG_len n R m k
    have h2 := colG_len n R m (partsF n) k
    have h3 := partsF_len n
    omega
set_option maxHeartbeats 1600000 in
theorem c_specMinimalDeps (n : Int) (oa) (cap : Nat) (R : List (List Int)) (m : Int) (w : World) (hR : RowsAt w oa R) :
    Calls Tryz.prog 16 #[.agg #[.int .i64 n, .slice oa R.length cap], .int .i64 m] w fun e w' => ∃ v, e = .returned v ∧ OwnD w' w.heap.size v (minDepsF n R m) ∧ Below w.heap.size w w' := by
  obtain ⟨j0, hj, hy0, hy1, hy2⟩ := info_parts info_dep
  have hb := bel2 w (.cells #[.int .i64 n, .slice oa R.length cap] 26) (.cells #[] 38)
  have a0 := two_a w #[.int .i64 n, .slice oa R.length cap] 26 #[] 38 0 _ rfl
  have a1 := two_a w #[.int .i64 n, .slice oa R.length cap] 26 #[] 38 1 _ rfl
  have hO : OwnD ((w.alloc (.cells #[.int .i64 n, .slice oa R.length cap] 26)).alloc (.cells #[] 38)) (w.heap.size + 1) (.slice (some ⟨w.heap.size + 1, 0, none⟩) 0 0) [] := by
    have h := (OwnD.empty (w.alloc (.cells #[.int .i64 n, .slice oa R.length cap] 26)) _ (Nat.le_refl _))
    simpa using h
  cases hf : (isTabF n R && modeF m)
  · have HM : Hid (minDepsF n R m = []) := by show minDepsF n R m = []; unfold minDepsF; rw [hf]; rfl
    go_enter Tryz.func16, Tryz.ntmps16
    go_wp2_with (first | (go_at_call 51; refine Calls.mono (Ans.eqb (c_l4Fine _ _ _ _ _ _ (hR.keep hb)) hf) ?_; rintro e w1 ⟨rfl, hbn⟩; replace a0 := cell_keep a0 hbn; replace a1 := cell_keep a1 hbn; replace hO := hO.keep hbn; replace hb := bel_to (w := w) (by first | exact hb | exact hb.alloc hb.size _ | exact (hb.alloc hb.size _).alloc (Nat.le_trans hb.size (by simp)) _ | exact hb.setCell (by simp [hb.size]) _) hbn; clear hbn))
    go_ret
    exact ⟨_, rfl, by rw [HM.out]; exact hO.based (Nat.le_succ _), hb⟩
  have ht : isTabF n R = true := by have := hf; simp only [Bool.and_eq_true] at this; exact this.1
  obtain ⟨hn1, hn5, _, hlen⟩ := isTab_of ht
  obtain ⟨N, rfl⟩ := Int.eq_ofNat_of_zero_le (show 0 ≤ n by omega)
  have hN5 : N ≤ 5 := by omega
  have HM : Hid (minDepsF N R m = colsG N R m N) := by
    show minDepsF N R m = _
    unfold minDepsF
    rw [if_pos hf, Int.toNat_natCast]
    exact cols_same hN5 (fun i hi => by have := hlen i hi; omega) N (Nat.le_refl _)
  have HH : Hid (∀ (w' : World) (x r : Int), St x → Co r → RowsAt w' oa R → Ans Tryz.prog 57 #[.agg #[.int .i64 N, .slice oa R.length cap], .int .i64 m, .agg #[.int .i64 x, .int .i64 r]] w' (.bool (l7F N R m x r))) := fun w' x r hx hr h => c_l7Minimal N oa cap R m x r w' h ht hx hr
  have hpl := partsF_len N
  have HPS : Hid (∀ x ∈ partsF N, St x) := fun x hx => by
    have h := (partsF_mem (n := N) (by omega) (by omega)).1 hx
    have h2 := (pow_wrap (n := (N : Int)) (by omega) (by omega)).2.1
    exact ⟨h.1, by omega⟩
  clear ht hlen
  go_enter Tryz.func16, Tryz.ntmps16
  go_wp2_with (first | (go_at_call 51; refine Calls.mono (Ans.eqb (c_l4Fine _ _ _ _ _ _ (hR.keep hb)) hf) ?_; rintro e w1 ⟨rfl, hbn⟩; replace a0 := cell_keep a0 hbn; replace a1 := cell_keep a1 hbn; replace hO := hO.keep hbn; replace hb := bel_to (w := w) (by first | exact hb | exact hb.alloc hb.size _ | exact (hb.alloc hb.size _).alloc (Nat.le_trans hb.size (by simp)) _ | exact hb.setCell (by simp [hb.size]) _) hbn; clear hbn))
  have old := hO
  refine (c_specPartsBySize (N : Int) _).mono ?_
  rintro e w2 ⟨v2, rfl, hP, hbn⟩
  have ap_PO := (apart_old old hP).symm
  replace hO := hO.keep hbn
  replace hP := hP.based (World.block_lt_of_cell? _ _ a1)
  replace a0 := cell_keep a0 hbn
  replace a1 := cell_keep a1 hbn
  replace hb := bel_to hb hbn
  clear old hbn
  have HGS : Hid (∀ k : Nat, colsG N R m (k + 1) = colsG N R m k ++ colG N R m (partsF N) k) := fun k => colsG_succ _ _ _ k
  generalize partsF N = P at *
  obtain ⟨o1, c1, rfl⟩ := hP.shape
  have hPr : P.length ≤ Room := by unfold Room; omega
  go_wp2
  go_loopw [5, 7] (fun v i wr => ∃ r : Nat, i = .int .i64 r ∧ r ≤ N ∧ OwnD wr (w.heap.size + 1) v (colsG N R m r) ∧ OwnI wr (w.heap.size + 1) (.slice o1 P.length c1) P ∧ Apart (.slice o1 P.length c1) v ∧ wr.cell? ⟨w.heap.size, 0, none⟩ = some (.int .i64 N) ∧ wr.cell? ⟨w.heap.size, 1, none⟩ = some (.slice oa R.length cap) ∧ Below w.heap.size w wr) (fun _ i _ => N - (intOf i).toNat)
  case atStart => exact ⟨0, rfl, Nat.zero_le _, by simpa [colsG] using hO, hP, ap_PO, a0, a1, hb⟩
  case round =>
    clear hO hP ap_PO a0 a1 hb
    obtain ⟨r, rfl, hr, hO, hP, ap_PO, a0, a1, hb⟩ := hrel
    have hcl := colsG_len N R m r
    by_cases hlt : r < N
    · have HC : Hid (colsG N R m (r + 1) = colsG N R m r ++ colG N R m P r) := HGS.out r
      have hco : Hid (Co (r : Int)) := ⟨by omega, by omega⟩
      generalize colsG N R m r = A at *
      go_wp2
      go_loopw [5, 8] (fun v i wr => ∃ k : Nat, i = .int .i64 k ∧ k ≤ P.length ∧ OwnD wr (w.heap.size + 1) v (A ++ colG N R m (P.take k) r) ∧ OwnI wr (w.heap.size + 1) (.slice o1 P.length c1) P ∧ Apart (.slice o1 P.length c1) v ∧ wr.cell? ⟨w.heap.size, 0, none⟩ = some (.int .i64 N) ∧ wr.cell? ⟨w.heap.size, 1, none⟩ = some (.slice oa R.length cap) ∧ Below w.heap.size w wr) (fun _ i _ => P.length - (intOf i).toNat)
      case atStart => exact ⟨0, rfl, Nat.zero_le _, by simpa [colG] using hO, hP, ap_PO, a0, a1, hb⟩
      case round =>
        clear hO hP ap_PO a0 a1 hb
        obtain ⟨k, rfl, hk, hO, hP, ap_PO, a0, a1, hb⟩ := hrel
        by_cases hlk : k < P.length
        · obtain ⟨b2, off2, rfl, hbs2, hca⟩ := (hP.ints rfl hPr).at_ (by omega)
          have hc2 := hca k hlk
          have hst : Hid (St (nth P k)) := HPS.out _ (List.mem_iff_getElem?.2 ⟨k, nth_eq hlk⟩)
          have hOl : (A ++ colG N R m (P.take k) r).length ≤ 300 := by
            have h := colG_len N R m (P.take k) r
            rw [List.length_take] at h
            rw [List.length_append]
            omega
          have HOs : Hid (A ++ colG N R m (P.take (k + 1)) r = (A ++ colG N R m (P.take k) r) ++ (if l7F N R m (nth P k) r then [(nth P k, (r : Int))] else [])) := by
            show A ++ colG N R m (P.take (k + 1)) r = (A ++ colG N R m (P.take k) r) ++ (if l7F N R m (nth P k) r then [(nth P k, (r : Int))] else [])
            unfold colG
            rw [filter_take_succ _ _ _ hlk, List.map_append, List.append_assoc]
            congr 2
            split <;> simp
          clear hca
          generalize nth P k = x at *
          generalize A ++ colG N R m (P.take k) r = C at *
          have e0 := box_at wr #[.int .i64 x, .int .i64 (r : Int)] 38 0 _ rfl
          have e1 := box_at wr #[.int .i64 x, .int .i64 (r : Int)] 38 1 _ rfl
          replace a0 := cell_al a0 (.cells #[.int .i64 x, .int .i64 (r : Int)] 38)
          replace a1 := cell_al a1 (.cells #[.int .i64 x, .int .i64 (r : Int)] 38)
          cases h1 : l7F N R m x (r : Int)
          · go_wp2_with fail
            refine Calls.mono (Ans.eqb (b' := false) (HH.out _ x (r : Int) hst.out hco.out (hR.keep (hb.alloc hb.size _))) h1) ?_
            rintro e w3 ⟨rfl, hbn⟩
            replace a0 := cell_keep a0 hbn
            replace a1 := cell_keep a1 hbn
            replace hO := OwnD.keep (World.ownsRow.alloc hO _) hbn
            replace hP := OwnI.keep (World.ownsRow.alloc hP _) hbn
            replace hb := bel_to (hb.alloc hb.size _) hbn
            clear hbn e0 e1
            go_wp2
            go_roundw
            case rel => exact ⟨k + 1, by go_num, by omega, by rw [HOs.out, h1]; simpa using hO, hP, ap_PO, a0, a1, hb⟩
            case measure => simp [intOf]; omega
          · go_wp2_with fail
            refine Calls.mono (Ans.eqb (b' := true) (HH.out _ x (r : Int) hst.out hco.out (hR.keep (hb.alloc hb.size _))) h1) ?_
            rintro e w3 ⟨rfl, hbn⟩
            replace a0 := cell_keep a0 hbn
            replace a1 := cell_keep a1 hbn
            replace e0 := cell_keep e0 hbn
            replace e1 := cell_keep e1 hbn
            replace hO := OwnD.keep (World.ownsRow.alloc hO _) hbn
            replace hP := OwnI.keep (World.ownsRow.alloc hP _) hbn
            replace hb := bel_to (hb.alloc hb.size _) hbn
            clear hbn hc2
            go_wp2_with (first | (at_builtin; refine wpList_append_fresh rfl _ _ 27 rfl (w.heap.size + 1) 38 j0 (.agg #[.int .i64 0, .int .i64 0]) 2 16 Tryz.underlying27 hj hy0 hy1 hy2 rfl (by decide) _ _ _ rfl (World.ownsRow.alloc hO _) _ 1 1 [.int .i64 x, .int .i64 (r : Int)] rfl rfl (World.news_of_block (cs := #[.int .i64 x, .int .i64 (r : Int)]) (t := 38) (fr := (0, 0)) (heap_alloc_new _ _)) (by intro u hu; simp at hu; rcases hu with rfl | rfl <;> rfl) (by unfold maxLen; omega) (by omega) (by have := World.block_lt_of_cell? _ _ a1; simp at this; simp; omega) ?_; intro v' w4 hown hgrow hfr; replace hb := (hb.alloc hb.size _).grown hgrow (by have := hb.size; simp; omega) (fun g hg => Nat.le_trans (Nat.le_succ _) (World.ownsRow.lt hO g hg).1); replace a0 := cell_gr (cell_al a0 _) (World.ownsRow.alloc hO _) (by omega) hgrow; replace a1 := cell_gr (cell_al a1 _) (World.ownsRow.alloc hO _) (by omega) hgrow; obtain ⟨hP, ap_PO⟩ := OwnI.past hP hgrow ap_PO hfr; replace hO := own_snocD hown; clear hown hgrow hfr) | fail)
            go_roundw
            case rel => exact ⟨k + 1, by go_num, by omega, by rw [HOs.out, h1]; exact hO, hP, ap_PO, a0, a1, hb⟩
            case measure => simp [intOf]; omega
        · have hkk : k = P.length := by omega
          have HE : Hid (colsG N R m (r + 1) = A ++ colG N R m (P.take k) r) := by
            show colsG N R m (r + 1) = A ++ colG N R m (P.take k) r
            rw [HC.out, hkk, List.take_length]
          clear hkk
          go_wp2
          go_roundw
          case rel => exact ⟨r + 1, by go_num, by omega, by rw [HE.out]; exact hO, hP, ap_PO, a0, a1, hb⟩
          case measure => simp [intOf]; omega
    · have hrr : r = N := by omega
      have HE : Hid (colsG N R m r = minDepsF N R m) := by show colsG N R m r = minDepsF N R m; rw [HM.out, hrr]
      clear hrr
      go_wp2
      go_ret
      exact ⟨_, rfl, by rw [← HE.out]; exact hO.based (Nat.le_succ _), hb⟩
end Go.Proofs.YtcenndlbhgfdfaaGreat
namespace Go.Proofs.YtcenndlbhgfdfaaGreat
open Go.RowKit
set_option linter.unusedVariables false
set_option maxRecDepth 100000

theorem minDeps_len3 (n : Int) (R : List (List Int)) (m : Int) : (minDepsF n R m).length ≤ 160 := by
  unfold minDepsF
  split
  · next h =>
    simp only [Bool.and_eq_true] at h
    obtain ⟨h1, h5, _⟩ := isTab_of h.1
    have a := colsF_len (fun x r => holdsF R m x r) (partsF n) n.toNat
    have b := partsF_len n
    have c : n.toNat ≤ 5 := by omega
    have : (partsF n).length * n.toNat ≤ 32 * 5 := Nat.mul_le_mul b c
    omega
  · simp
def DrawsTabP (f : FuncId) (oa : Option Addr) (mc cap : Nat) (w : World) : Prop :=
  Calls Tryz.prog f #[.slice oa mc cap] w fun e w' => ∃ (n m : Int) (o : Option Addr) (c : Nat) (xs : List Value) (R : List (List Int)) (l r : Int), e = .returned (.tuple #[.agg #[.int .i64 n, .slice o R.length c], .int .i64 m, .agg #[.int .i64 l, .int .i64 r]]) ∧ OwnRows w' w.heap.size (.slice o R.length c) xs R ∧ (R.length ≤ 13 ∧ ∀ j, j < R.length → (row R j).length ≤ 5) ∧ Below w.heap.size w w'
set_option maxHeartbeats 12800000 in
theorem c_DrawIsMinimalDep (oa) (mc cap : Nat) (hm : mc ≤ 1048576) (w : World) (hB : BytesAt w oa mc) : DrawsTabP 34 oa mc cap w := by
  unfold DrawsTabP
  have hb := bel2 w (.cells #[.int .i64 0, .slice none 0 0] 26) (.cells #[.int .i64 0, .int .i64 0] 38)
  have kZ := (Blk.new w #[.int .i64 0, .slice none 0 0] 26).alloc (.cells #[.int .i64 0, .int .i64 0] 38)
  have kD := Blk.new (w.alloc (.cells #[.int .i64 0, .slice none 0 0] 26)) #[.int .i64 0, .int .i64 0] 38
  simp only [World.size_alloc] at kD
  go_enter Tryz.func34, Tryz.ntmps34
  go_wp2_with fail
  refine (c_l1New oa mc cap hm _ (hB.keep hb)).mono ?_
  rintro e w1 ⟨rfl, hc1, hbn⟩
  replace kZ := kZ.keep hbn
  replace kD := kD.keep hbn
  replace hb := bel_to hb hbn
  simp only [World.size_alloc] at hc1 ⊢
  clear hbn
  have hz := kD.lt
  go_wp2_with fail
  refine (c_l4Draw _ _ hc1).mono ?_
  rintro e w2 ⟨n, m, o, c, xs, R, rfl, hO, ⟨hRl, hlen⟩, hc2, hg⟩
  have HLn : Hid (∀ j, j < R.length → (row R j).length ≤ 5) := hlen
  have HLR : Hid (∀ j, j < R.length → (row R j).length ≤ Room) := fun j hj => Nat.le_trans (hlen j hj) (by unfold Room; omega)
  have hRR : R.length ≤ Room := by unfold Room; omega
  clear hlen
  have hlt1 := hc1.lt
  have hsz := hg.size
  replace hb := below_cur hb hg (by omega)
  replace kZ := kZ.cur hg (show w.heap.size ≠ w.heap.size + 1 + 1 by omega)
  replace kD := kD.cur hg (show w.heap.size + 1 ≠ w.heap.size + 1 + 1 by omega)
  clear hc1 hg
  have kT := Blk.new w2 #[.int .i64 n, .slice o R.length c] 26
  have hba := (Below.refl w2.heap.size w2).alloc (Nat.le_refl _) (.cells #[.int .i64 n, .slice o R.length c] 26)
  replace kZ := kZ.keep hba
  replace kD := kD.keep hba
  replace hO := hO.keep hba
  replace hc2 := hc2.keep hba
  replace hb := bel_to hb hba
  clear hba
  go_upto_region 3 with fail
  generalize w2.alloc (.cells #[.int .i64 n, .slice o R.length c] 26) = w3 at *
  obtain ⟨k6, hk6⟩ : ∃ k, w2.heap.size = k := ⟨_, rfl⟩
  rw [hk6] at kT hsz
  simp only [hk6]
  clear hk6
  have n0 := kT.cell 0 (.int .i64 n) rfl
  have n1 := kT.cell 1 (.slice o R.length c) rfl
  go_wp2_with fail
  refine (c_specMinimalDeps n o c R m _ (hO.read hRR HLR.out)).mono ?_
  rintro e w4 ⟨v, rfl, hQ, hbn⟩
  have hlt3 := hc2.lt
  have hQl := minDeps_len3 n R m
  replace hQ := hQ.based (show w.heap.size + 1 + 1 + 1 ≤ w3.heap.size by omega)
  replace kZ := kZ.keep hbn
  replace kD := kD.keep hbn
  replace kT := kT.keep hbn
  replace hO := hO.keep hbn
  replace hc2 := hc2.keep hbn
  replace hb := bel_to hb hbn
  clear hbn n0 n1
  obtain ⟨od, cd, rfl⟩ := hQ.shape
  generalize minDepsF n R m = Q at *
  have hQR : Q.length ≤ Room := by unfold Room; omega
  by_cases hq0 : 0 < Q.length
  · obtain ⟨gq, offq, e', hbs, hcell⟩ := (hQ.deps rfl hQR).at_ hq0
    subst e'
    clear hbs hcell
    go_wp2_with fail
    refine (c_l1Once _ 2 (by omega) _ hc2).mono ?_
    rintro e w5 ⟨t, rfl, hc5, hg⟩
    replace kT := kT.cur hg (show k6 ≠ w.heap.size + 1 + 1 by omega)
    replace kZ := kZ.cur hg (show w.heap.size ≠ w.heap.size + 1 + 1 by omega)
    replace kD := kD.cur hg (show w.heap.size + 1 ≠ w.heap.size + 1 + 1 by omega)
    replace hO := hO.cur hg (show w.heap.size + 1 + 1 < w1.heap.size by omega)
    replace hb := below_cur hb hg (by omega)
    replace hQ := hQ.cur hg (show w.heap.size + 1 + 1 < w.heap.size + 1 + 1 + 1 by omega)
    clear hc2 hg
    cases t
    · skip
      have n0 := kT.cell 0 (.int .i64 n) rfl
      have n1 := kT.cell 1 (.slice o R.length c) rfl
      have n0d := kT.drew.cell 0 (.int .i64 n) rfl
      have n1d := kT.drew.cell 1 (.slice o R.length c) rfl
      go_wp2_with fail
      go_region_law (first
        | ((try go_simp); refine (c_l6Any _ n _ (by first | exact hc5 | exact hc5.keep (Below.refl _ _).drew)).mono ?_; rintro e w9 ⟨l, r, rfl, hc9, hg⟩; have hg3 : w5.grownBy w9 (some (w.heap.size + 1 + 1)) := (by first | exact hg | exact drew_grown hg); have kT9 := kT.cur hg3 (show k6 ≠ w.heap.size + 1 + 1 by omega); have kZ9 := kZ.cur hg3 (show w.heap.size ≠ w.heap.size + 1 + 1 by omega); have kD9 := kD.cur hg3 (show w.heap.size + 1 ≠ w.heap.size + 1 + 1 by omega); have hO9 := hO.cur hg3 (show w.heap.size + 1 + 1 < w1.heap.size by omega); have hb9 := below_cur hb hg3 (by omega); have p0 := kT9.cell 0 (.int .i64 n) rfl; have p1 := kT9.cell 1 (.slice o R.length c) rfl; have z0 := kZ9.cell 0 (.int .i64 0) rfl; have z1 := kZ9.cell 1 (.slice none 0 0) rfl; have f0 := kZ9.free 0; have f1 := kZ9.free 1; have kD8 := (kD9.far ⟨w.heap.size, 0, none⟩ (.int .i64 n) (by simp)).far ⟨w.heap.size, 1, none⟩ (.slice o R.length c) (by simp); have y0 := kD8.cell 0 (.int .i64 0) rfl; have y1 := kD8.cell 1 (.int .i64 0) rfl; have g0 := kD8.free 0; have g1 := kD8.free 1; clear hg hg3)
        | fail)
      all_goals
        have k2 : Blk _ w.heap.size #[.int .i64 n, .slice o R.length c] 26 := (((kZ9.set 0 (.int .i64 n)).set 1 (.slice o R.length c)).far ⟨w.heap.size + 1, 0, none⟩ (.int .i64 l) (by simp)).far ⟨w.heap.size + 1, 1, none⟩ (.int .i64 r) (by simp)
        have k3 : Blk _ (w.heap.size + 1) #[.int .i64 l, .int .i64 r] 38 := (((kD9.far ⟨w.heap.size, 0, none⟩ (.int .i64 n) (by simp)).far ⟨w.heap.size, 1, none⟩ (.slice o R.length c) (by simp)).set 0 (.int .i64 l)).set 1 (.int .i64 r)
        have q0 := k2.cell 0 (.int .i64 n) rfl
        have q1 := k2.cell 1 (.slice o R.length c) rfl
        have q2 := k3.cell 0 (.int .i64 l) rfl
        have q3 := k3.cell 1 (.int .i64 r) rfl
        go_wp2
        refine bodyPost_ret (v := .tuple #[.agg #[.int .i64 n, .slice o R.length c], .int .i64 m, .agg #[.int .i64 l, .int .i64 r]]) (by simp only [results, Tryz.results34]; simp [go_sem, q0, q1, q2, q3]) rfl ?_
        exact ⟨n, m, o, c, xs, R, l, r, rfl, ((((hO9.far_set 0 (.int .i64 n) (show w.heap.size < w1.heap.size by omega)).far_set 1 (.slice o R.length c) (show w.heap.size < w1.heap.size by omega)).far_set 0 (.int .i64 l) (show w.heap.size + 1 < w1.heap.size by omega)).far_set 1 (.int .i64 r) (show w.heap.size + 1 < w1.heap.size by omega)).based (by omega), ⟨hRl, HLn.out⟩, bel_set2 (bel_set2 hb9 (Nat.le_refl _) _ _) (Nat.le_succ _) _ _⟩
    · have n0 := kT.cell 0 (.int .i64 n) rfl
      have n1 := kT.cell 1 (.slice o R.length c) rfl
      have n0d := kT.drew.cell 0 (.int .i64 n) rfl
      have n1d := kT.drew.cell 1 (.slice o R.length c) rfl
      go_wp2_with fail
      go_region_law (first
        | ((try go_simp); refine (c_l1Below _ (Q.length : Int) (by omega) _ (by first | exact hc5 | exact hc5.keep (Below.refl _ _).drew)).mono ?_; rintro e w9 ⟨qx, rfl, hx0, hx1, _, hc9, hg⟩; obtain ⟨jn, rfl⟩ := Int.eq_ofNat_of_zero_le hx0; have hjn : jn < Q.length := (by have := hx1 (by omega); omega); have hjb : (0 : Int) ≤ (jn : Int) ∧ (jn : Int) < (Q.length : Int) := ⟨by omega, by omega⟩; clear hx0 hx1; have hg3 : w5.grownBy w9 (some (w.heap.size + 1 + 1)) := (by first | exact hg | exact drew_grown hg); have kT9 := kT.cur hg3 (show k6 ≠ w.heap.size + 1 + 1 by omega); have kZ9 := kZ.cur hg3 (show w.heap.size ≠ w.heap.size + 1 + 1 by omega); have kD9 := kD.cur hg3 (show w.heap.size + 1 ≠ w.heap.size + 1 + 1 by omega); have hO9 := hO.cur hg3 (show w.heap.size + 1 + 1 < w1.heap.size by omega); have hb9 := below_cur hb hg3 (by omega); have hQ9 := hQ.cur hg3 (show w.heap.size + 1 + 1 < w.heap.size + 1 + 1 + 1 by omega); have hgb : gq ≠ w.heap.size := (by have := (World.ownsRow.lt hQ9 gq rfl).1; omega); obtain ⟨gb, ob, e9, hbs, hcell⟩ := (hQ9.deps rfl hQR).at_ hq0; simp only [Option.some.injEq, Addr.mk.injEq, and_true] at e9; obtain ⟨rfl, rfl⟩ := e9; have d0 := (hcell jn hjn).1; have d1 := (hcell jn hjn).2; generalize nl Q jn = l at *; generalize nr Q jn = r at *; have d0f := cell_far (a' := ⟨w.heap.size, 1, none⟩) (u := .slice o R.length c) (cell_far (a' := ⟨w.heap.size, 0, none⟩) (u := .int .i64 n) d0 hgb) hgb; have d1f := cell_far (a' := ⟨w.heap.size, 1, none⟩) (u := .slice o R.length c) (cell_far (a' := ⟨w.heap.size, 0, none⟩) (u := .int .i64 n) d1 hgb) hgb; clear hcell hbs; have p0 := kT9.cell 0 (.int .i64 n) rfl; have p1 := kT9.cell 1 (.slice o R.length c) rfl; have z0 := kZ9.cell 0 (.int .i64 0) rfl; have z1 := kZ9.cell 1 (.slice none 0 0) rfl; have f0 := kZ9.free 0; have f1 := kZ9.free 1; have kD8 := (kD9.far ⟨w.heap.size, 0, none⟩ (.int .i64 n) (by simp)).far ⟨w.heap.size, 1, none⟩ (.slice o R.length c) (by simp); have y0 := kD8.cell 0 (.int .i64 0) rfl; have y1 := kD8.cell 1 (.int .i64 0) rfl; have g0 := kD8.free 0; have g1 := kD8.free 1; clear hg hg3)
        | fail)
      all_goals
        have k2 : Blk _ w.heap.size #[.int .i64 n, .slice o R.length c] 26 := (((kZ9.set 0 (.int .i64 n)).set 1 (.slice o R.length c)).far ⟨w.heap.size + 1, 0, none⟩ (.int .i64 l) (by simp)).far ⟨w.heap.size + 1, 1, none⟩ (.int .i64 r) (by simp)
        have k3 : Blk _ (w.heap.size + 1) #[.int .i64 l, .int .i64 r] 38 := (((kD9.far ⟨w.heap.size, 0, none⟩ (.int .i64 n) (by simp)).far ⟨w.heap.size, 1, none⟩ (.slice o R.length c) (by simp)).set 0 (.int .i64 l)).set 1 (.int .i64 r)
        have q0 := k2.cell 0 (.int .i64 n) rfl
        have q1 := k2.cell 1 (.slice o R.length c) rfl
        have q2 := k3.cell 0 (.int .i64 l) rfl
        have q3 := k3.cell 1 (.int .i64 r) rfl
        go_wp2
        refine bodyPost_ret (v := .tuple #[.agg #[.int .i64 n, .slice o R.length c], .int .i64 m, .agg #[.int .i64 l, .int .i64 r]]) (by simp only [results, Tryz.results34]; simp [go_sem, q0, q1, q2, q3]) rfl ?_
        exact ⟨n, m, o, c, xs, R, l, r, rfl, ((((hO9.far_set 0 (.int .i64 n) (show w.heap.size < w1.heap.size by omega)).far_set 1 (.slice o R.length c) (show w.heap.size < w1.heap.size by omega)).far_set 0 (.int .i64 l) (show w.heap.size + 1 < w1.heap.size by omega)).far_set 1 (.int .i64 r) (show w.heap.size + 1 < w1.heap.size by omega)).based (by omega), ⟨hRl, HLn.out⟩, bel_set2 (bel_set2 hb9 (Nat.le_refl _) _ _) (Nat.le_succ _) _ _⟩
  · have hq00 : decide ((0 : Int) < (Q.length : Int)) = false := decide_eq_false (by omega)
    have n0 := kT.cell 0 (.int .i64 n) rfl
    have n1 := kT.cell 1 (.slice o R.length c) rfl
    have n0d := kT.drew.cell 0 (.int .i64 n) rfl
    have n1d := kT.drew.cell 1 (.slice o R.length c) rfl
    go_wp2_with fail
    go_region_law (first
      | ((try go_simp); refine (c_l6Any _ n _ (by first | exact hc2 | exact hc2.keep (Below.refl _ _).drew)).mono ?_; rintro e w9 ⟨l, r, rfl, hc9, hg⟩; have hg3 : w4.grownBy w9 (some (w.heap.size + 1 + 1)) := (by first | exact hg | exact drew_grown hg); have kT9 := kT.cur hg3 (show k6 ≠ w.heap.size + 1 + 1 by omega); have kZ9 := kZ.cur hg3 (show w.heap.size ≠ w.heap.size + 1 + 1 by omega); have kD9 := kD.cur hg3 (show w.heap.size + 1 ≠ w.heap.size + 1 + 1 by omega); have hO9 := hO.cur hg3 (show w.heap.size + 1 + 1 < w1.heap.size by omega); have hb9 := below_cur hb hg3 (by omega); have p0 := kT9.cell 0 (.int .i64 n) rfl; have p1 := kT9.cell 1 (.slice o R.length c) rfl; have z0 := kZ9.cell 0 (.int .i64 0) rfl; have z1 := kZ9.cell 1 (.slice none 0 0) rfl; have f0 := kZ9.free 0; have f1 := kZ9.free 1; have kD8 := (kD9.far ⟨w.heap.size, 0, none⟩ (.int .i64 n) (by simp)).far ⟨w.heap.size, 1, none⟩ (.slice o R.length c) (by simp); have y0 := kD8.cell 0 (.int .i64 0) rfl; have y1 := kD8.cell 1 (.int .i64 0) rfl; have g0 := kD8.free 0; have g1 := kD8.free 1; clear hg hg3)
      | fail)
    all_goals
      have k2 : Blk _ w.heap.size #[.int .i64 n, .slice o R.length c] 26 := (((kZ9.set 0 (.int .i64 n)).set 1 (.slice o R.length c)).far ⟨w.heap.size + 1, 0, none⟩ (.int .i64 l) (by simp)).far ⟨w.heap.size + 1, 1, none⟩ (.int .i64 r) (by simp)
      have k3 : Blk _ (w.heap.size + 1) #[.int .i64 l, .int .i64 r] 38 := (((kD9.far ⟨w.heap.size, 0, none⟩ (.int .i64 n) (by simp)).far ⟨w.heap.size, 1, none⟩ (.slice o R.length c) (by simp)).set 0 (.int .i64 l)).set 1 (.int .i64 r)
      have q0 := k2.cell 0 (.int .i64 n) rfl
      have q1 := k2.cell 1 (.slice o R.length c) rfl
      have q2 := k3.cell 0 (.int .i64 l) rfl
      have q3 := k3.cell 1 (.int .i64 r) rfl
      go_wp2
      refine bodyPost_ret (v := .tuple #[.agg #[.int .i64 n, .slice o R.length c], .int .i64 m, .agg #[.int .i64 l, .int .i64 r]]) (by simp only [results, Tryz.results34]; simp [go_sem, q0, q1, q2, q3]) rfl ?_
      exact ⟨n, m, o, c, xs, R, l, r, rfl, ((((hO9.far_set 0 (.int .i64 n) (show w.heap.size < w1.heap.size by omega)).far_set 1 (.slice o R.length c) (show w.heap.size < w1.heap.size by omega)).far_set 0 (.int .i64 l) (show w.heap.size + 1 < w1.heap.size by omega)).far_set 1 (.int .i64 r) (show w.heap.size + 1 < w1.heap.size by omega)).based (by omega), ⟨hRl, HLn.out⟩, bel_set2 (bel_set2 hb9 (Nat.le_refl _) _ _) (Nat.le_succ _) _ _⟩
end Go.Proofs.YtcenndlbhgfdfaaGreat
namespace Go.Proofs.YtcenndlbhgfdfaaGreat
open Go.RowKit
set_option linter.unusedVariables false
set_option maxRecDepth 100000

set_option maxHeartbeats 25600000 in
theorem c_DrawApproximateDeps (oa) (mc cap : Nat) (hm : mc ≤ 1048576) (w : World) (hB : BytesAt w oa mc) : DrawsTabX 35 oa mc cap w := by
  unfold DrawsTabX
  have hb := (Below.refl w.heap.size w).alloc (Nat.le_refl _) (.cells #[.int .i64 0, .slice none 0 0] 26)
  have kZ := Blk.new w #[.int .i64 0, .slice none 0 0] 26
  go_enter Tryz.func35, Tryz.ntmps35
  go_wp2_with fail
  refine (c_l1New oa mc cap hm _ (hB.keep hb)).mono ?_
  rintro e w1 ⟨rfl, hc1, hbn⟩
  replace kZ := kZ.keep hbn
  replace hb := bel_to hb hbn
  simp only [World.size_alloc] at hc1 ⊢
  clear hbn
  have hz := kZ.lt
  go_wp2_with fail
  refine (c_l4Draw _ _ hc1).mono ?_
  rintro e w2 ⟨n, m, o, c, xs, R, rfl, hO, ⟨hRl, hlen⟩, hc2, hg⟩
  have HLn : Hid (∀ j, j < R.length → (row R j).length ≤ 5) := hlen
  clear hlen
  have hlt1 := hc1.lt
  have hsz := hg.size
  replace hb := below_cur hb hg (Nat.le_succ _)
  replace kZ := kZ.cur hg (show w.heap.size ≠ w.heap.size + 1 by omega)
  clear hc1 hg
  have kT := Blk.new w2 #[.int .i64 n, .slice o R.length c] 26
  have hba := (Below.refl w2.heap.size w2).alloc (Nat.le_refl _) (.cells #[.int .i64 n, .slice o R.length c] 26)
  replace kZ := kZ.keep hba
  replace hO := hO.keep hba
  replace hc2 := hc2.keep hba
  replace hb := bel_to hb hba
  clear hba
  go_upto_region 3 with fail
  generalize w2.alloc (.cells #[.int .i64 n, .slice o R.length c] 26) = w3 at *
  obtain ⟨k6, hk6⟩ : ∃ k, w2.heap.size = k := ⟨_, rfl⟩
  rw [hk6] at kT hsz
  simp only [hk6]
  clear hk6
  have n0 := kT.cell 0 (.int .i64 n) rfl
  have n1 := kT.cell 1 (.slice o R.length c) rfl
  have n0d := kT.drew.cell 0 (.int .i64 n) rfl
  have n1d := kT.drew.cell 1 (.slice o R.length c) rfl
  have tok0 : Hid True := trivial
  go_region_law (first
    | (clear tok0; (try go_simp); refine (c_l1Below _ 4 (by omega) _ (by first | exact hc2 | exact hc2.keep (Below.refl _ _).drew)).mono ?_; rintro e w5 ⟨x, rfl, hx0, hx1, _, hc5, hg⟩; have hx2 := hx1 (by omega); have hg3 : w3.grownBy w5 (some (w.heap.size + 1)) := (by first | exact hg | exact drew_grown hg); have kT5 := kT.cur hg3 (show k6 ≠ w.heap.size + 1 by omega); have kZ5 := kZ.cur hg3 (show w.heap.size ≠ w.heap.size + 1 by omega); have hO5 := hO.cur hg3 (show w.heap.size + 1 < w1.heap.size by omega); have hb5 := below_cur hb hg3 (Nat.le_succ _); have p50 := kT5.cell 0 (.int .i64 n) rfl; have p51 := kT5.cell 1 (.slice o R.length c) rfl; clear hg hg3)
    | ((try go_simp); refine (c_l1Below _ 2 (by omega) _ (by first | exact hc5 | exact hc5.keep (Below.refl _ _).drew)).mono ?_; rintro e w6 ⟨y, rfl, hy0, hy1, _, hc6, hg⟩; have hy2 := hy1 (by omega); have hg3 : w5.grownBy w6 (some (w.heap.size + 1)) := (by first | exact hg | exact drew_grown hg); have kT6 := kT5.cur hg3 (show k6 ≠ w.heap.size + 1 by omega); have kZ6 := kZ5.cur hg3 (show w.heap.size ≠ w.heap.size + 1 by omega); have hO6 := hO5.cur hg3 (show w.heap.size + 1 < w1.heap.size by omega); have hb6 := below_cur hb5 hg3 (Nat.le_succ _); have p60 := kT6.cell 0 (.int .i64 n) rfl; have p61 := kT6.cell 1 (.slice o R.length c) rfl; have z0 := kZ6.cell 0 (.int .i64 0) rfl; have z1 := kZ6.cell 1 (.slice none 0 0) rfl; have f0 := kZ6.free 0; have f1 := kZ6.free 1; obtain ⟨q, hwr⟩ : ∃ q, IntKind.i64.wrap (x - y) = q := ⟨_, rfl⟩; clear hg hg3)
    | fail)
  all_goals
    have k2 : Blk _ w.heap.size #[.int .i64 n, .slice o R.length c] 26 := (kZ6.set 0 (.int .i64 n)).set 1 (.slice o R.length c)
    have q0 := k2.cell 0 (.int .i64 n) rfl
    have q1 := k2.cell 1 (.slice o R.length c) rfl
    go_wp2
    refine bodyPost_ret (v := .tuple #[.agg #[.int .i64 n, .slice o R.length c], .int .i64 m, .int .i64 (q)]) (by simp only [results, Tryz.results35]; simp [go_sem, q0, q1]) rfl ?_
    exact ⟨n, m, o, c, xs, R, (q), rfl, ((hO6.far_set 0 (.int .i64 n) (show w.heap.size < w1.heap.size by omega)).far_set 1 (.slice o R.length c) (show w.heap.size < w1.heap.size by omega)).based (by omega), ⟨hRl, HLn.out⟩, bel_set2 hb6 (Nat.le_refl _) _ _⟩
end Go.Proofs.YtcenndlbhgfdfaaGreat
namespace Go.Proofs.YtcenndlbhgfdfaaGreat
open Go.RowKit
set_option linter.unusedVariables false
set_option maxRecDepth 100000

def uniqF (n : Int) (R : List (List Int)) (m s : Int) : Bool := ptnOk n R m s && ((ptnQ (sameB R m s) R.length R.length).length == 0)
theorem ptnF_ok {n : Int} {R : List (List Int)} {m s : Int} (h : ptnOk n R m s = true) : ptnF n R m s = ptnQ (sameB R m s) R.length R.length := by unfold ptnF; rw [if_pos h]
end Go.Proofs.YtcenndlbhgfdfaaGreat
