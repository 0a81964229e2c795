/- minimalDeps, of the program, over each function value that it is handed. -/
import Derived.Test.YtaomdnibnnobiaaParts2
import Derived.Test.YtaomdnibnnobiaaWithout
namespace Go.Proofs.Ytaomdnibnnobiaa
open Go.RowKit
set_option linter.unusedVariables false
set_option maxRecDepth 100000

def anyIns (T : List Int) (x : Int) : Bool := T.any fun y => ins y x
def stepM (p : Int → Int → Bool) (r : Int) (T : List Int) (x : Int) : List Int := if (!hasc x r && !anyIns T x) && p x r then T ++ [x] else T
def takenF (p : Int → Int → Bool) (r : Int) (L : List Int) : List Int := L.foldl (stepM p r) []
def colF (p : Int → Int → Bool) (P : List Int) (r : Int) : List (Int × Int) := (takenF p r P).map fun x => (x, r)
def colsF (p : Int → Int → Bool) (P : List Int) (n : Nat) : List (Int × Int) := (List.range n).flatMap fun (r : Nat) => colF p P (r : Int)
theorem taken_succ (p : Int → Int → Bool) (r : Int) {L : List Int} {k : Nat} (h : k < L.length) : takenF p r (L.take (k + 1)) = stepM p r (takenF p r (L.take k)) (nth L k) := by
  unfold takenF
  rw [List.take_add_one, nth_eq h, List.foldl_append]; rfl
theorem stepM_len (p : Int → Int → Bool) (r : Int) (T : List Int) (x : Int) : (stepM p r T x).length ≤ T.length + 1 := by
  unfold stepM; split <;> simp
theorem taken_len (p : Int → Int → Bool) (r : Int) (L : List Int) : ∀ k, k ≤ L.length → (takenF p r (L.take k)).length ≤ k
  | 0, _ => by simp [takenF]
  | k + 1, h => by
    rw [taken_succ p r (by omega)]
    have h1 := taken_len p r L k (by omega)
    have h2 := stepM_len p r (takenF p r (L.take k)) (nth L k)
    omega
theorem colF_len (p : Int → Int → Bool) (P : List Int) (r : Int) : (colF p P r).length ≤ P.length := by
  unfold colF
  rw [List.length_map]
  have := taken_len p r P P.length (Nat.le_refl _)
  rw [List.take_length] at this
  exact this
theorem colsF_succ (p : Int → Int → Bool) (P : List Int) (n : Nat) : colsF p P (n + 1) = colsF p P n ++ colF p P n := by unfold colsF; rw [List.range_succ, List.flatMap_append]; simp
theorem colsF_len (p : Int → Int → Bool) (P : List Int) : ∀ n, (colsF p P n).length ≤ P.length * n
  | 0 => by simp [colsF]
  | n + 1 => by
    rw [colsF_succ, List.length_append, Nat.mul_succ]
    have h1 := colsF_len p P n
    have h2 := colF_len p P n
    omega
theorem own_snocD {w : World} {base : Nat} {v : Value} {A : List (Int × Int)} {l r : Int} (h : w.ownsRow base 54 2 v (A.length + 1) (dcells A ++ [.int .i64 l, .int .i64 r])) : OwnD w base v (A ++ [(l, r)]) := OwnD.joined (B := [(l, r)]) h
theorem OwnD.past {w w' : World} {base : Nat} {M v v' : Value} {L : List (Int × Int)} {o : Obj} (h : OwnD w base M L) (hg : (w.alloc o).grownBy w' v.ownBlock) (ha : Apart M v) (hf : Fresh (w.alloc o) v v') : OwnD w' base M L ∧ Apart M v' :=
  ⟨OwnD.far (World.ownsRow.alloc h o) hg ha, Apart.next (World.ownsRow.alloc h o) ha hf⟩
theorem c_hasPart (oa) (cap : Nat) (L : List Int) (x : Int) (w : World) (hL : IntsAt w oa L) :
    Ans Try.prog 89 #[.slice oa L.length cap, .int .i64 x] w (.bool (anyIns L x)) := by
  unfold Ans
  have hn : L.length ≤ 1073741824 := hL.len
  go_enter Try.func89, Try.ntmps89
  go_wp2
  go_loopw [9] (fun i wr => ∃ k : Nat, i = .int .i64 k ∧ k ≤ L.length ∧ (L.take k).all (fun y => !ins y x) = true ∧ Below w.heap.size w wr) (fun i _ => L.length - (intOf i).toNat)
  case atStart => exact ⟨0, rfl, Nat.zero_le _, by simp, Below.refl _ _⟩
  case round =>
    obtain ⟨k, rfl, hk, hall, hb⟩ := hrel
    have HA : Hid ((L.take k).all (fun y => !ins y x) = true) := hall
    clear hall
    by_cases hlt : k < L.length
    · obtain ⟨b, off, rfl, hbs, hc⟩ := hL.at_ (by omega)
      have hc1 := cell_keep (hc k hlt) hb
      have HT : Hid ((L.take (k + 1)).all (fun y => !ins y x) = ((L.take k).all (fun y => !ins y x) && !ins (nth L k) x)) := all_take_succ (fun y => !ins y x) L k hlt
      have HY : Hid (ins (nth L k) x = true → anyIns L x = true) := fun h => List.any_eq_true.2 ⟨nth L k, List.mem_iff_getElem?.2 ⟨k, nth_eq hlt⟩, h⟩
      clear hc
      generalize nth L k = y at *
      cases hi : ins y x
      · go_wp2_with (first | (go_at_call 47; refine Calls.mono (Ans.eqb (c_inside _ _ _) hi) ?_; rintro e w1 ⟨rfl, hbn⟩; replace hb := bel_to (w := w) (by first | exact hb | exact hb.alloc hb.size _ | exact (hb.alloc hb.size _).alloc (Nat.le_trans hb.size (by simp)) _ | exact hb.setCell (by simp [hb.size]) _) hbn; clear hbn))
        go_roundw
        case rel => exact ⟨k + 1, by go_num, by omega, by rw [HT.out, HA.out, hi]; rfl, hb⟩
        case measure => simp [intOf]; omega
      · go_wp2_with (first | (go_at_call 47; refine Calls.mono (Ans.eqb (c_inside _ _ _) hi) ?_; rintro e w1 ⟨rfl, hbn⟩; replace hb := bel_to (w := w) (by first | exact hb | exact hb.alloc hb.size _ | exact (hb.alloc hb.size _).alloc (Nat.le_trans hb.size (by simp)) _ | exact hb.setCell (by simp [hb.size]) _) hbn; clear hbn))
        go_ret
        exact ⟨ret_bool (HY.out hi).symm, hb⟩
    · have hkk : k = L.length := by omega
      have HS : Hid (anyIns L x = false) := by
        have h := HA.out
        rw [hkk, List.take_length, List.all_eq_true] at h
        show anyIns L x = false
        unfold anyIns
        rw [List.any_eq_false]
        intro y hy
        have := h y hy
        simpa using this
      clear hkk
      go_wp2
      go_ret
      exact ⟨ret_bool HS.out.symm, hb⟩

set_option maxHeartbeats 3200000 in
theorem c_minimalDeps_P (N : Nat) (hN : N ≤ 5) (e0 e1 : Value) (p : Int → Int → Bool) (w : World)
    (hcl : ∀ (W : World) (x r : Int), St x → (0 ≤ r ∧ r < N) → x < 2 ^ N → Below w.heap.size w W → Ans Try.prog 54 #[.agg #[.int .i64 x, .int .i64 r], e0, e1] W (.bool (p x r))) :
    Calls Try.prog 45 #[.int .i64 N, .func (.func 54) #[] #[e0, e1]] w fun e w' => ∃ v, e = .returned v ∧ OwnD w' w.heap.size v (colsF p (partsF N) N) ∧ Below w.heap.size w w' := by
  obtain ⟨i0, hi, hz0, hz1, hz2⟩ := info_parts info_int
  obtain ⟨j0, hj, hy0, hy1, hy2⟩ := info_parts info_dep
  have hb := (Below.refl w.heap.size w).alloc (Nat.le_refl _) (.cells #[] 54)
  have hO := OwnD.empty w w.heap.size (Nat.le_refl _)
  have hpl := partsF_len N
  have HPS : Hid (∀ x ∈ partsF N, St x ∧ x < 2 ^ N) := fun x hx => by
    have h := (partsF_mem (n := N) (by omega) (by omega)).1 hx
    have h2 := (pow_wrap (n := (N : Int)) (by omega) (by omega)).2.1
    rw [Int.toNat_natCast] at h h2
    exact ⟨⟨h.1, by omega⟩, h.2⟩
  have HCL : Hid (∀ (W : World) (x r : Int), St x → (0 ≤ r ∧ r < N) → x < 2 ^ N → Below w.heap.size w W → Ans Try.prog 54 #[.agg #[.int .i64 x, .int .i64 r], e0, e1] W (.bool (p x r))) := hcl
  clear hcl
  go_enter Try.func45, Try.ntmps45
  go_wp2
  go_loopw [5, 6] (fun v i wr => ∃ r : Nat, i = .int .i64 r ∧ r ≤ N ∧ OwnD wr w.heap.size v (colsF p (partsF N) r) ∧ Below w.heap.size w wr) (fun _ i _ => N - (intOf i).toNat)
  case atStart => exact ⟨0, rfl, Nat.zero_le _, by simpa [colsF] using hO, hb⟩
  case round =>
    clear hO hb
    obtain ⟨r, rfl, hr, hO, hb⟩ := hrel
    have hcl := colsF_len p (partsF N) r
    have hcl2 : (colsF p (partsF N) r).length ≤ 32 * 5 := Nat.le_trans hcl (Nat.mul_le_mul hpl (by omega))
    clear hcl
    by_cases hlt : r < N
    · have HC : Hid (colsF p (partsF N) (r + 1) = colsF p (partsF N) r ++ colF p (partsF N) r) := colsF_succ _ _ _
      have hr64 : 0 ≤ (r : Int) ∧ (r : Int) < 64 := by omega
      have hT := OwnI.empty _ wr.heap.size (Nat.le_refl _)
      have ap_OT := apart_old hO hT
      replace hT := hT.based hb.size
      have hO := World.ownsRow.alloc hO (.cells #[] 3)
      have hb := hb.alloc hb.size (.cells #[] 3)
      go_wp2_with fail
      have oldO := hO
      have oldT := hT
      refine (c_PartsBySize (N : Int) _).mono ?_
      rintro e w2 ⟨v2, rfl, hP, hbn⟩
      have ap_PO := (apart_old oldO hP).symm
      have ap_PT := (apart_old oldT hP).symm
      replace hT := hT.keep hbn
      replace hO := OwnD.keep hO hbn
      replace hP := hP.based hb.size
      replace hb := bel_to hb hbn
      clear oldO oldT hbn
      generalize hPP : partsF N = P at *
      have HPP : Hid (partsF N = P) := hPP
      clear hPP
      generalize colsF p P r = A at *
      obtain ⟨o1, c1, rfl⟩ := hP.shape
      have hPr : P.length ≤ Room := by unfold Room; omega
      have hrN : 0 ≤ (r : Int) ∧ (r : Int) < N := by omega
      go_wp2
      go_loopw [5, 7, 20] (fun vO vT i wr => ∃ k : Nat, i = .int .i64 k ∧ k ≤ P.length ∧ OwnI wr w.heap.size vT (takenF p r (P.take k)) ∧ OwnD wr w.heap.size vO (A ++ colF p (P.take k) r) ∧ OwnI wr w.heap.size (.slice o1 P.length c1) P ∧ Apart vO vT ∧ Apart (.slice o1 P.length c1) vO ∧ Apart (.slice o1 P.length c1) vT ∧ Below w.heap.size w wr) (fun _ _ i _ => P.length - (intOf i).toNat)
      case atStart => exact ⟨0, rfl, Nat.zero_le _, by simpa [takenF] using hT, by simpa [colF, takenF] using hO, hP, ap_OT, ap_PO, ap_PT, hb⟩
      case round =>
        clear hT hO hP ap_OT ap_PO ap_PT hb
        obtain ⟨k, rfl, hk, hT, hO, hP, ap_OT, ap_PO, ap_PT, hb⟩ := hrel
        by_cases hlk : k < P.length
        · obtain ⟨b2, off2, rfl, hbs2, hca⟩ := (hP.ints rfl hPr).at_ (by omega)
          have hc2 := hca k hlk
          have hxs := HPS.out _ (List.mem_iff_getElem?.2 ⟨k, nth_eq hlk⟩)
          have hTl := taken_len p r P k hk
          have hOl : (A ++ colF p (P.take k) r).length ≤ 300 := by
            have h := colF_len p (P.take k) r
            rw [List.length_take] at h
            rw [List.length_append]
            omega
          have HTs : Hid (takenF p r (P.take (k + 1)) = stepM p r (takenF p r (P.take k)) (nth P k)) := taken_succ p r hlk
          have HOs : Hid (A ++ colF p (P.take (k + 1)) r = A ++ (stepM p r (takenF p r (P.take k)) (nth P k)).map fun x => (x, (r : Int))) := by
            show A ++ colF p (P.take (k + 1)) r = A ++ (stepM p r (takenF p r (P.take k)) (nth P k)).map fun x => (x, (r : Int))
            unfold colF; rw [taken_succ p r hlk]
          have HOk : Hid (A ++ colF p (P.take k) r = A ++ (takenF p r (P.take k)).map fun x => (x, (r : Int))) := rfl
          have hst : Hid (St (nth P k)) := hxs.1
          have hx2 := hxs.2
          clear hca hxs
          generalize nth P k = x at *
          generalize takenF p r (P.take k) = T at *
          generalize A ++ colF p (P.take k) r = C at *
          have hTr : T.length ≤ Room := by unfold Room; omega
          obtain ⟨oT, cT, rfl⟩ := hT.shape
          cases h1 : hasc x (r : Int)
          · cases h2 : anyIns T x
            · cases h3 : p x (r : Int)
              · have HM : Hid (stepM p r T x = T) := by show stepM p r T x = T; unfold stepM; rw [h1, h2, h3]; rfl
                go_wp2_with (first | (go_at_call 48; refine Calls.mono (Ans.eqb (c_has _ _ hr64 _) h1) ?_; rintro e w1 ⟨rfl, hbn⟩; replace hT := hT.keep hbn; replace hP := hP.keep hbn; replace hO := hO.keep hbn; replace hb := bel_to (w := w) (by first | exact hb | exact hb.alloc hb.size _ | exact (hb.alloc hb.size _).alloc (Nat.le_trans hb.size (by simp)) _ | exact hb.setCell (by simp [hb.size]) _) hbn; clear hbn) | (go_at_call 89; refine Calls.mono (Ans.eqb (c_hasPart _ _ _ _ _ (hT.ints rfl hTr)) h2) ?_; rintro e w1 ⟨rfl, hbn⟩; replace hT := hT.keep hbn; replace hP := hP.keep hbn; replace hO := hO.keep hbn; replace hb := bel_to (w := w) (by first | exact hb | exact hb.alloc hb.size _ | exact (hb.alloc hb.size _).alloc (Nat.le_trans hb.size (by simp)) _ | exact hb.setCell (by simp [hb.size]) _) hbn; clear hbn) | (go_at_call 54; refine Calls.mono (Ans.eqb (HCL.out _ x (r : Int) hst.out hrN hx2 hb) h3) ?_; rintro e w1 ⟨rfl, hbn⟩; replace hT := hT.keep hbn; replace hP := hP.keep hbn; replace hO := hO.keep hbn; replace hb := bel_to (w := w) (by first | exact hb | exact hb.alloc hb.size _ | exact (hb.alloc hb.size _).alloc (Nat.le_trans hb.size (by simp)) _ | exact hb.setCell (by simp [hb.size]) _) hbn; clear hbn) | fail)
                go_roundw
                case rel => exact ⟨k + 1, by go_num, by omega, by rw [HTs.out, HM.out]; exact hT, by rw [HOs.out, HM.out, ← HOk.out]; exact hO, hP, ap_OT, ap_PO, ap_PT, hb⟩
                case measure => simp [intOf]; omega
              · have HM : Hid (stepM p r T x = T ++ [x]) := by show stepM p r T x = T ++ [x]; unfold stepM; rw [h1, h2, h3]; rfl
                have HOn : Hid (A ++ (T ++ [x]).map (fun x => (x, (r : Int))) = C ++ [(x, (r : Int))]) := by
                  show A ++ (T ++ [x]).map (fun x => (x, (r : Int))) = C ++ [(x, (r : Int))]
                  rw [HOk.out]; simp
                have hq : True := trivial
                go_wp2_with (first | (go_at_call 48; refine Calls.mono (Ans.eqb (c_has _ _ hr64 _) h1) ?_; rintro e w1 ⟨rfl, hbn⟩; replace hT := hT.keep hbn; replace hP := hP.keep hbn; replace hO := hO.keep hbn; replace hb := bel_to (w := w) (by first | exact hb | exact hb.alloc hb.size _ | exact (hb.alloc hb.size _).alloc (Nat.le_trans hb.size (by simp)) _ | exact hb.setCell (by simp [hb.size]) _) hbn; clear hbn) | (go_at_call 89; refine Calls.mono (Ans.eqb (c_hasPart _ _ _ _ _ (hT.ints rfl hTr)) h2) ?_; rintro e w1 ⟨rfl, hbn⟩; replace hT := hT.keep hbn; replace hP := hP.keep hbn; replace hO := hO.keep hbn; replace hb := bel_to (w := w) (by first | exact hb | exact hb.alloc hb.size _ | exact (hb.alloc hb.size _).alloc (Nat.le_trans hb.size (by simp)) _ | exact hb.setCell (by simp [hb.size]) _) hbn; clear hbn) | (go_at_call 54; refine Calls.mono (Ans.eqb (HCL.out _ x (r : Int) hst.out hrN hx2 hb) h3) ?_; rintro e w1 ⟨rfl, hbn⟩; replace hT := hT.keep hbn; replace hP := hP.keep hbn; replace hO := hO.keep hbn; replace hb := bel_to (w := w) (by first | exact hb | exact hb.alloc hb.size _ | exact (hb.alloc hb.size _).alloc (Nat.le_trans hb.size (by simp)) _ | exact hb.setCell (by simp [hb.size]) _) hbn; clear hbn) | (clear hq; at_builtin; refine wpList_append_fresh rfl _ _ 22 rfl w.heap.size 3 i0 (.int .i64 0) 1 8 Try.underlying22 hi hz0 hz1 hz2 rfl (by decide) _ _ _ rfl (World.ownsRow.alloc hT _) _ 1 1 [.int .i64 x] rfl rfl (by intro j u hj; match j, hj with | 0, hj => simp at hj; subst hj; simp [Addr.add]) (by intro u hu; simp at hu; subst hu; rfl) (by unfold maxLen; omega) (by omega) (by have := hb.size; simp; omega) ?_; intro v' w1 hown hgrow hfr; replace hb := (hb.alloc hb.size _).grown hgrow (by have := hb.size; simp; omega) (fun g hg => (World.ownsRow.lt hT g hg).1); obtain ⟨hP, ap_PT⟩ := OwnI.past hP hgrow ap_PT hfr; obtain ⟨hO, ap_OT⟩ := OwnD.past hO hgrow ap_OT hfr; replace hT := OwnI.snoc hown; clear hown hgrow hfr) | (at_builtin; refine wpList_append_fresh rfl _ _ 23 rfl w.heap.size 54 j0 (.agg #[.int .i64 0, .int .i64 0]) 2 16 Try.underlying23 hj hy0 hy1 hy2 rfl (by decide) _ _ _ rfl (World.ownsRow.alloc hO _) _ 1 1 [.int .i64 x, .int .i64 (r : Int)] rfl rfl (World.news_of_block (cs := #[.int .i64 x, .int .i64 (r : Int)]) (t := 54) (fr := (0, 0)) (heap_alloc_new _ _)) (by intro u hu; simp at hu; rcases hu with rfl | rfl <;> rfl) (by unfold maxLen; omega) (by omega) (by have := hb.size; simp; omega) ?_; intro v' w1 hown hgrow hfr; replace hb := (hb.alloc hb.size _).grown hgrow (by have := hb.size; simp; omega) (fun g hg => (World.ownsRow.lt hO g hg).1); obtain ⟨hP, ap_PO⟩ := OwnI.past hP hgrow ap_PO hfr; obtain ⟨hT, ap_TO⟩ := OwnI.past hT hgrow ap_OT.symm hfr; have ap_OT := ap_TO.symm; clear ap_TO; replace hO := own_snocD hown; clear hown hgrow hfr) | fail)
                go_roundw
                case rel => exact ⟨k + 1, by go_num, by omega, by rw [HTs.out, HM.out]; exact hT, by rw [HOs.out, HM.out, HOn.out]; exact hO, hP, ap_OT, ap_PO, ap_PT, hb⟩
                case measure => simp [intOf]; omega
            · have HM : Hid (stepM p r T x = T) := by show stepM p r T x = T; unfold stepM; rw [h1, h2]; rfl
              go_wp2_with (first | (go_at_call 48; refine Calls.mono (Ans.eqb (c_has _ _ hr64 _) h1) ?_; rintro e w1 ⟨rfl, hbn⟩; replace hT := hT.keep hbn; replace hP := hP.keep hbn; replace hO := hO.keep hbn; replace hb := bel_to (w := w) (by first | exact hb | exact hb.alloc hb.size _ | exact (hb.alloc hb.size _).alloc (Nat.le_trans hb.size (by simp)) _ | exact hb.setCell (by simp [hb.size]) _) hbn; clear hbn) | (go_at_call 89; refine Calls.mono (Ans.eqb (c_hasPart _ _ _ _ _ (hT.ints rfl hTr)) h2) ?_; rintro e w1 ⟨rfl, hbn⟩; replace hT := hT.keep hbn; replace hP := hP.keep hbn; replace hO := hO.keep hbn; replace hb := bel_to (w := w) (by first | exact hb | exact hb.alloc hb.size _ | exact (hb.alloc hb.size _).alloc (Nat.le_trans hb.size (by simp)) _ | exact hb.setCell (by simp [hb.size]) _) hbn; clear hbn) | (go_at_call 54; refine Calls.mono (Ans.eqb (HCL.out _ x (r : Int) hst.out hrN hx2 hb) h3) ?_; rintro e w1 ⟨rfl, hbn⟩; replace hT := hT.keep hbn; replace hP := hP.keep hbn; replace hO := hO.keep hbn; replace hb := bel_to (w := w) (by first | exact hb | exact hb.alloc hb.size _ | exact (hb.alloc hb.size _).alloc (Nat.le_trans hb.size (by simp)) _ | exact hb.setCell (by simp [hb.size]) _) hbn; clear hbn) | fail)
              go_roundw
              case rel => exact ⟨k + 1, by go_num, by omega, by rw [HTs.out, HM.out]; exact hT, by rw [HOs.out, HM.out, ← HOk.out]; exact hO, hP, ap_OT, ap_PO, ap_PT, hb⟩
              case measure => simp [intOf]; omega
          · have HM : Hid (stepM p r T x = T) := by show stepM p r T x = T; unfold stepM; rw [h1]; rfl
            go_wp2_with (first | (go_at_call 48; refine Calls.mono (Ans.eqb (c_has _ _ hr64 _) h1) ?_; rintro e w1 ⟨rfl, hbn⟩; replace hT := hT.keep hbn; replace hP := hP.keep hbn; replace hO := hO.keep hbn; replace hb := bel_to (w := w) (by first | exact hb | exact hb.alloc hb.size _ | exact (hb.alloc hb.size _).alloc (Nat.le_trans hb.size (by simp)) _ | exact hb.setCell (by simp [hb.size]) _) hbn; clear hbn) | (go_at_call 89; refine Calls.mono (Ans.eqb (c_hasPart _ _ _ _ _ (hT.ints rfl hTr)) h2) ?_; rintro e w1 ⟨rfl, hbn⟩; replace hT := hT.keep hbn; replace hP := hP.keep hbn; replace hO := hO.keep hbn; replace hb := bel_to (w := w) (by first | exact hb | exact hb.alloc hb.size _ | exact (hb.alloc hb.size _).alloc (Nat.le_trans hb.size (by simp)) _ | exact hb.setCell (by simp [hb.size]) _) hbn; clear hbn) | (go_at_call 54; refine Calls.mono (Ans.eqb (HCL.out _ x (r : Int) hst.out hrN hx2 hb) h3) ?_; rintro e w1 ⟨rfl, hbn⟩; replace hT := hT.keep hbn; replace hP := hP.keep hbn; replace hO := hO.keep hbn; replace hb := bel_to (w := w) (by first | exact hb | exact hb.alloc hb.size _ | exact (hb.alloc hb.size _).alloc (Nat.le_trans hb.size (by simp)) _ | exact hb.setCell (by simp [hb.size]) _) hbn; clear hbn) | fail)
            go_roundw
            case rel => exact ⟨k + 1, by go_num, by omega, by rw [HTs.out, HM.out]; exact hT, by rw [HOs.out, HM.out, ← HOk.out]; exact hO, hP, ap_OT, ap_PO, ap_PT, hb⟩
            case measure => simp [intOf]; omega
        · have hkk : k = P.length := by omega
          have HE : Hid (colsF p (partsF N) (r + 1) = A ++ colF p (P.take k) r) := by
            show colsF p (partsF N) (r + 1) = A ++ colF p (P.take k) r
            rw [HPP.out, HC.out, hkk, List.take_length]
          clear hkk
          go_wp2
          go_roundw
          case rel => exact ⟨r + 1, by go_num, by omega, by rw [HE.out]; exact hO, hb⟩
          case measure => simp [intOf]; omega
    · have hrr : r = N := by omega
      have HE : Hid (colsF p (partsF N) r = colsF p (partsF N) N) := by show colsF p (partsF N) r = colsF p (partsF N) N; rw [hrr]
      clear hrr
      go_wp2
      go_ret
      exact ⟨_, rfl, by rw [← HE.out]; exact hO, hb⟩

set_option maxHeartbeats 3200000 in
theorem c_minimalDeps_A (N : Nat) (hN : N ≤ 5) (e0 : Value) (p : Int → Int → Bool) (w : World)
    (hcl : ∀ (W : World) (x r : Int), St x → (0 ≤ r ∧ r < N) → x < 2 ^ N → Below w.heap.size w W → Ans Try.prog 46 #[.agg #[.int .i64 x, .int .i64 r], e0] W (.bool (p x r))) :
    Calls Try.prog 45 #[.int .i64 N, .func (.func 46) #[] #[e0]] w fun e w' => ∃ v, e = .returned v ∧ OwnD w' w.heap.size v (colsF p (partsF N) N) ∧ Below w.heap.size w w' := by
  obtain ⟨i0, hi, hz0, hz1, hz2⟩ := info_parts info_int
  obtain ⟨j0, hj, hy0, hy1, hy2⟩ := info_parts info_dep
  have hb := (Below.refl w.heap.size w).alloc (Nat.le_refl _) (.cells #[] 54)
  have hO := OwnD.empty w w.heap.size (Nat.le_refl _)
  have hpl := partsF_len N
  have HPS : Hid (∀ x ∈ partsF N, St x ∧ x < 2 ^ N) := fun x hx => by
    have h := (partsF_mem (n := N) (by omega) (by omega)).1 hx
    have h2 := (pow_wrap (n := (N : Int)) (by omega) (by omega)).2.1
    rw [Int.toNat_natCast] at h h2
    exact ⟨⟨h.1, by omega⟩, h.2⟩
  have HCL : Hid (∀ (W : World) (x r : Int), St x → (0 ≤ r ∧ r < N) → x < 2 ^ N → Below w.heap.size w W → Ans Try.prog 46 #[.agg #[.int .i64 x, .int .i64 r], e0] W (.bool (p x r))) := hcl
  clear hcl
  go_enter Try.func45, Try.ntmps45
  go_wp2
  go_loopw [5, 6] (fun v i wr => ∃ r : Nat, i = .int .i64 r ∧ r ≤ N ∧ OwnD wr w.heap.size v (colsF p (partsF N) r) ∧ Below w.heap.size w wr) (fun _ i _ => N - (intOf i).toNat)
  case atStart => exact ⟨0, rfl, Nat.zero_le _, by simpa [colsF] using hO, hb⟩
  case round =>
    clear hO hb
    obtain ⟨r, rfl, hr, hO, hb⟩ := hrel
    have hcl := colsF_len p (partsF N) r
    have hcl2 : (colsF p (partsF N) r).length ≤ 32 * 5 := Nat.le_trans hcl (Nat.mul_le_mul hpl (by omega))
    clear hcl
    by_cases hlt : r < N
    · have HC : Hid (colsF p (partsF N) (r + 1) = colsF p (partsF N) r ++ colF p (partsF N) r) := colsF_succ _ _ _
      have hr64 : 0 ≤ (r : Int) ∧ (r : Int) < 64 := by omega
      have hT := OwnI.empty _ wr.heap.size (Nat.le_refl _)
      have ap_OT := apart_old hO hT
      replace hT := hT.based hb.size
      have hO := World.ownsRow.alloc hO (.cells #[] 3)
      have hb := hb.alloc hb.size (.cells #[] 3)
      go_wp2_with fail
      have oldO := hO
      have oldT := hT
      refine (c_PartsBySize (N : Int) _).mono ?_
      rintro e w2 ⟨v2, rfl, hP, hbn⟩
      have ap_PO := (apart_old oldO hP).symm
      have ap_PT := (apart_old oldT hP).symm
      replace hT := hT.keep hbn
      replace hO := OwnD.keep hO hbn
      replace hP := hP.based hb.size
      replace hb := bel_to hb hbn
      clear oldO oldT hbn
      generalize hPP : partsF N = P at *
      have HPP : Hid (partsF N = P) := hPP
      clear hPP
      generalize colsF p P r = A at *
      obtain ⟨o1, c1, rfl⟩ := hP.shape
      have hPr : P.length ≤ Room := by unfold Room; omega
      have hrN : 0 ≤ (r : Int) ∧ (r : Int) < N := by omega
      go_wp2
      go_loopw [5, 7, 20] (fun vO vT i wr => ∃ k : Nat, i = .int .i64 k ∧ k ≤ P.length ∧ OwnI wr w.heap.size vT (takenF p r (P.take k)) ∧ OwnD wr w.heap.size vO (A ++ colF p (P.take k) r) ∧ OwnI wr w.heap.size (.slice o1 P.length c1) P ∧ Apart vO vT ∧ Apart (.slice o1 P.length c1) vO ∧ Apart (.slice o1 P.length c1) vT ∧ Below w.heap.size w wr) (fun _ _ i _ => P.length - (intOf i).toNat)
      case atStart => exact ⟨0, rfl, Nat.zero_le _, by simpa [takenF] using hT, by simpa [colF, takenF] using hO, hP, ap_OT, ap_PO, ap_PT, hb⟩
      case round =>
        clear hT hO hP ap_OT ap_PO ap_PT hb
        obtain ⟨k, rfl, hk, hT, hO, hP, ap_OT, ap_PO, ap_PT, hb⟩ := hrel
        by_cases hlk : k < P.length
        · obtain ⟨b2, off2, rfl, hbs2, hca⟩ := (hP.ints rfl hPr).at_ (by omega)
          have hc2 := hca k hlk
          have hxs := HPS.out _ (List.mem_iff_getElem?.2 ⟨k, nth_eq hlk⟩)
          have hTl := taken_len p r P k hk
          have hOl : (A ++ colF p (P.take k) r).length ≤ 300 := by
            have h := colF_len p (P.take k) r
            rw [List.length_take] at h
            rw [List.length_append]
            omega
          have HTs : Hid (takenF p r (P.take (k + 1)) = stepM p r (takenF p r (P.take k)) (nth P k)) := taken_succ p r hlk
          have HOs : Hid (A ++ colF p (P.take (k + 1)) r = A ++ (stepM p r (takenF p r (P.take k)) (nth P k)).map fun x => (x, (r : Int))) := by
            show A ++ colF p (P.take (k + 1)) r = A ++ (stepM p r (takenF p r (P.take k)) (nth P k)).map fun x => (x, (r : Int))
            unfold colF; rw [taken_succ p r hlk]
          have HOk : Hid (A ++ colF p (P.take k) r = A ++ (takenF p r (P.take k)).map fun x => (x, (r : Int))) := rfl
          have hst : Hid (St (nth P k)) := hxs.1
          have hx2 := hxs.2
          clear hca hxs
          generalize nth P k = x at *
          generalize takenF p r (P.take k) = T at *
          generalize A ++ colF p (P.take k) r = C at *
          have hTr : T.length ≤ Room := by unfold Room; omega
          obtain ⟨oT, cT, rfl⟩ := hT.shape
          cases h1 : hasc x (r : Int)
          · cases h2 : anyIns T x
            · cases h3 : p x (r : Int)
              · have HM : Hid (stepM p r T x = T) := by show stepM p r T x = T; unfold stepM; rw [h1, h2, h3]; rfl
                go_wp2_with (first | (go_at_call 48; refine Calls.mono (Ans.eqb (c_has _ _ hr64 _) h1) ?_; rintro e w1 ⟨rfl, hbn⟩; replace hT := hT.keep hbn; replace hP := hP.keep hbn; replace hO := hO.keep hbn; replace hb := bel_to (w := w) (by first | exact hb | exact hb.alloc hb.size _ | exact (hb.alloc hb.size _).alloc (Nat.le_trans hb.size (by simp)) _ | exact hb.setCell (by simp [hb.size]) _) hbn; clear hbn) | (go_at_call 89; refine Calls.mono (Ans.eqb (c_hasPart _ _ _ _ _ (hT.ints rfl hTr)) h2) ?_; rintro e w1 ⟨rfl, hbn⟩; replace hT := hT.keep hbn; replace hP := hP.keep hbn; replace hO := hO.keep hbn; replace hb := bel_to (w := w) (by first | exact hb | exact hb.alloc hb.size _ | exact (hb.alloc hb.size _).alloc (Nat.le_trans hb.size (by simp)) _ | exact hb.setCell (by simp [hb.size]) _) hbn; clear hbn) | (go_at_call 46; refine Calls.mono (Ans.eqb (HCL.out _ x (r : Int) hst.out hrN hx2 hb) h3) ?_; rintro e w1 ⟨rfl, hbn⟩; replace hT := hT.keep hbn; replace hP := hP.keep hbn; replace hO := hO.keep hbn; replace hb := bel_to (w := w) (by first | exact hb | exact hb.alloc hb.size _ | exact (hb.alloc hb.size _).alloc (Nat.le_trans hb.size (by simp)) _ | exact hb.setCell (by simp [hb.size]) _) hbn; clear hbn) | fail)
                go_roundw
                case rel => exact ⟨k + 1, by go_num, by omega, by rw [HTs.out, HM.out]; exact hT, by rw [HOs.out, HM.out, ← HOk.out]; exact hO, hP, ap_OT, ap_PO, ap_PT, hb⟩
                case measure => simp [intOf]; omega
              · have HM : Hid (stepM p r T x = T ++ [x]) := by show stepM p r T x = T ++ [x]; unfold stepM; rw [h1, h2, h3]; rfl
                have HOn : Hid (A ++ (T ++ [x]).map (fun x => (x, (r : Int))) = C ++ [(x, (r : Int))]) := by
                  show A ++ (T ++ [x]).map (fun x => (x, (r : Int))) = C ++ [(x, (r : Int))]
                  rw [HOk.out]; simp
                have hq : True := trivial
                go_wp2_with (first | (go_at_call 48; refine Calls.mono (Ans.eqb (c_has _ _ hr64 _) h1) ?_; rintro e w1 ⟨rfl, hbn⟩; replace hT := hT.keep hbn; replace hP := hP.keep hbn; replace hO := hO.keep hbn; replace hb := bel_to (w := w) (by first | exact hb | exact hb.alloc hb.size _ | exact (hb.alloc hb.size _).alloc (Nat.le_trans hb.size (by simp)) _ | exact hb.setCell (by simp [hb.size]) _) hbn; clear hbn) | (go_at_call 89; refine Calls.mono (Ans.eqb (c_hasPart _ _ _ _ _ (hT.ints rfl hTr)) h2) ?_; rintro e w1 ⟨rfl, hbn⟩; replace hT := hT.keep hbn; replace hP := hP.keep hbn; replace hO := hO.keep hbn; replace hb := bel_to (w := w) (by first | exact hb | exact hb.alloc hb.size _ | exact (hb.alloc hb.size _).alloc (Nat.le_trans hb.size (by simp)) _ | exact hb.setCell (by simp [hb.size]) _) hbn; clear hbn) | (go_at_call 46; refine Calls.mono (Ans.eqb (HCL.out _ x (r : Int) hst.out hrN hx2 hb) h3) ?_; rintro e w1 ⟨rfl, hbn⟩; replace hT := hT.keep hbn; replace hP := hP.keep hbn; replace hO := hO.keep hbn; replace hb := bel_to (w := w) (by first | exact hb | exact hb.alloc hb.size _ | exact (hb.alloc hb.size _).alloc (Nat.le_trans hb.size (by simp)) _ | exact hb.setCell (by simp [hb.size]) _) hbn; clear hbn) | (clear hq; at_builtin; refine wpList_append_fresh rfl _ _ 22 rfl w.heap.size 3 i0 (.int .i64 0) 1 8 Try.underlying22 hi hz0 hz1 hz2 rfl (by decide) _ _ _ rfl (World.ownsRow.alloc hT _) _ 1 1 [.int .i64 x] rfl rfl (by intro j u hj; match j, hj with | 0, hj => simp at hj; subst hj; simp [Addr.add]) (by intro u hu; simp at hu; subst hu; rfl) (by unfold maxLen; omega) (by omega) (by have := hb.size; simp; omega) ?_; intro v' w1 hown hgrow hfr; replace hb := (hb.alloc hb.size _).grown hgrow (by have := hb.size; simp; omega) (fun g hg => (World.ownsRow.lt hT g hg).1); obtain ⟨hP, ap_PT⟩ := OwnI.past hP hgrow ap_PT hfr; obtain ⟨hO, ap_OT⟩ := OwnD.past hO hgrow ap_OT hfr; replace hT := OwnI.snoc hown; clear hown hgrow hfr) | (at_builtin; refine wpList_append_fresh rfl _ _ 23 rfl w.heap.size 54 j0 (.agg #[.int .i64 0, .int .i64 0]) 2 16 Try.underlying23 hj hy0 hy1 hy2 rfl (by decide) _ _ _ rfl (World.ownsRow.alloc hO _) _ 1 1 [.int .i64 x, .int .i64 (r : Int)] rfl rfl (World.news_of_block (cs := #[.int .i64 x, .int .i64 (r : Int)]) (t := 54) (fr := (0, 0)) (heap_alloc_new _ _)) (by intro u hu; simp at hu; rcases hu with rfl | rfl <;> rfl) (by unfold maxLen; omega) (by omega) (by have := hb.size; simp; omega) ?_; intro v' w1 hown hgrow hfr; replace hb := (hb.alloc hb.size _).grown hgrow (by have := hb.size; simp; omega) (fun g hg => (World.ownsRow.lt hO g hg).1); obtain ⟨hP, ap_PO⟩ := OwnI.past hP hgrow ap_PO hfr; obtain ⟨hT, ap_TO⟩ := OwnI.past hT hgrow ap_OT.symm hfr; have ap_OT := ap_TO.symm; clear ap_TO; replace hO := own_snocD hown; clear hown hgrow hfr) | fail)
                go_roundw
                case rel => exact ⟨k + 1, by go_num, by omega, by rw [HTs.out, HM.out]; exact hT, by rw [HOs.out, HM.out, HOn.out]; exact hO, hP, ap_OT, ap_PO, ap_PT, hb⟩
                case measure => simp [intOf]; omega
            · have HM : Hid (stepM p r T x = T) := by show stepM p r T x = T; unfold stepM; rw [h1, h2]; rfl
              go_wp2_with (first | (go_at_call 48; refine Calls.mono (Ans.eqb (c_has _ _ hr64 _) h1) ?_; rintro e w1 ⟨rfl, hbn⟩; replace hT := hT.keep hbn; replace hP := hP.keep hbn; replace hO := hO.keep hbn; replace hb := bel_to (w := w) (by first | exact hb | exact hb.alloc hb.size _ | exact (hb.alloc hb.size _).alloc (Nat.le_trans hb.size (by simp)) _ | exact hb.setCell (by simp [hb.size]) _) hbn; clear hbn) | (go_at_call 89; refine Calls.mono (Ans.eqb (c_hasPart _ _ _ _ _ (hT.ints rfl hTr)) h2) ?_; rintro e w1 ⟨rfl, hbn⟩; replace hT := hT.keep hbn; replace hP := hP.keep hbn; replace hO := hO.keep hbn; replace hb := bel_to (w := w) (by first | exact hb | exact hb.alloc hb.size _ | exact (hb.alloc hb.size _).alloc (Nat.le_trans hb.size (by simp)) _ | exact hb.setCell (by simp [hb.size]) _) hbn; clear hbn) | (go_at_call 46; refine Calls.mono (Ans.eqb (HCL.out _ x (r : Int) hst.out hrN hx2 hb) h3) ?_; rintro e w1 ⟨rfl, hbn⟩; replace hT := hT.keep hbn; replace hP := hP.keep hbn; replace hO := hO.keep hbn; replace hb := bel_to (w := w) (by first | exact hb | exact hb.alloc hb.size _ | exact (hb.alloc hb.size _).alloc (Nat.le_trans hb.size (by simp)) _ | exact hb.setCell (by simp [hb.size]) _) hbn; clear hbn) | fail)
              go_roundw
              case rel => exact ⟨k + 1, by go_num, by omega, by rw [HTs.out, HM.out]; exact hT, by rw [HOs.out, HM.out, ← HOk.out]; exact hO, hP, ap_OT, ap_PO, ap_PT, hb⟩
              case measure => simp [intOf]; omega
          · have HM : Hid (stepM p r T x = T) := by show stepM p r T x = T; unfold stepM; rw [h1]; rfl
            go_wp2_with (first | (go_at_call 48; refine Calls.mono (Ans.eqb (c_has _ _ hr64 _) h1) ?_; rintro e w1 ⟨rfl, hbn⟩; replace hT := hT.keep hbn; replace hP := hP.keep hbn; replace hO := hO.keep hbn; replace hb := bel_to (w := w) (by first | exact hb | exact hb.alloc hb.size _ | exact (hb.alloc hb.size _).alloc (Nat.le_trans hb.size (by simp)) _ | exact hb.setCell (by simp [hb.size]) _) hbn; clear hbn) | (go_at_call 89; refine Calls.mono (Ans.eqb (c_hasPart _ _ _ _ _ (hT.ints rfl hTr)) h2) ?_; rintro e w1 ⟨rfl, hbn⟩; replace hT := hT.keep hbn; replace hP := hP.keep hbn; replace hO := hO.keep hbn; replace hb := bel_to (w := w) (by first | exact hb | exact hb.alloc hb.size _ | exact (hb.alloc hb.size _).alloc (Nat.le_trans hb.size (by simp)) _ | exact hb.setCell (by simp [hb.size]) _) hbn; clear hbn) | (go_at_call 46; refine Calls.mono (Ans.eqb (HCL.out _ x (r : Int) hst.out hrN hx2 hb) h3) ?_; rintro e w1 ⟨rfl, hbn⟩; replace hT := hT.keep hbn; replace hP := hP.keep hbn; replace hO := hO.keep hbn; replace hb := bel_to (w := w) (by first | exact hb | exact hb.alloc hb.size _ | exact (hb.alloc hb.size _).alloc (Nat.le_trans hb.size (by simp)) _ | exact hb.setCell (by simp [hb.size]) _) hbn; clear hbn) | fail)
            go_roundw
            case rel => exact ⟨k + 1, by go_num, by omega, by rw [HTs.out, HM.out]; exact hT, by rw [HOs.out, HM.out, ← HOk.out]; exact hO, hP, ap_OT, ap_PO, ap_PT, hb⟩
            case measure => simp [intOf]; omega
        · have hkk : k = P.length := by omega
          have HE : Hid (colsF p (partsF N) (r + 1) = A ++ colF p (P.take k) r) := by
            show colsF p (partsF N) (r + 1) = A ++ colF p (P.take k) r
            rw [HPP.out, HC.out, hkk, List.take_length]
          clear hkk
          go_wp2
          go_roundw
          case rel => exact ⟨r + 1, by go_num, by omega, by rw [HE.out]; exact hO, hb⟩
          case measure => simp [intOf]; omega
    · have hrr : r = N := by omega
      have HE : Hid (colsF p (partsF N) r = colsF p (partsF N) N) := by show colsF p (partsF N) r = colsF p (partsF N) N; rw [hrr]
      clear hrr
      go_wp2
      go_ret
      exact ⟨_, rfl, by rw [← HE.out]; exact hO, hb⟩

set_option maxHeartbeats 3200000 in
theorem c_minimalDeps_M (N : Nat) (hN : N ≤ 5) (e0 e1 : Value) (p : Int → Int → Bool) (w : World)
    (hcl : ∀ (W : World) (x r : Int), St x → (0 ≤ r ∧ r < N) → x < 2 ^ N → Below w.heap.size w W → Ans Try.prog 69 #[.agg #[.int .i64 x, .int .i64 r], e0, e1] W (.bool (p x r))) :
    Calls Try.prog 45 #[.int .i64 N, .func (.func 69) #[] #[e0, e1]] w fun e w' => ∃ v, e = .returned v ∧ OwnD w' w.heap.size v (colsF p (partsF N) N) ∧ Below w.heap.size w w' := by
  obtain ⟨i0, hi, hz0, hz1, hz2⟩ := info_parts info_int
  obtain ⟨j0, hj, hy0, hy1, hy2⟩ := info_parts info_dep
  have hb := (Below.refl w.heap.size w).alloc (Nat.le_refl _) (.cells #[] 54)
  have hO := OwnD.empty w w.heap.size (Nat.le_refl _)
  have hpl := partsF_len N
  have HPS : Hid (∀ x ∈ partsF N, St x ∧ x < 2 ^ N) := fun x hx => by
    have h := (partsF_mem (n := N) (by omega) (by omega)).1 hx
    have h2 := (pow_wrap (n := (N : Int)) (by omega) (by omega)).2.1
    rw [Int.toNat_natCast] at h h2
    exact ⟨⟨h.1, by omega⟩, h.2⟩
  have HCL : Hid (∀ (W : World) (x r : Int), St x → (0 ≤ r ∧ r < N) → x < 2 ^ N → Below w.heap.size w W → Ans Try.prog 69 #[.agg #[.int .i64 x, .int .i64 r], e0, e1] W (.bool (p x r))) := hcl
  clear hcl
  go_enter Try.func45, Try.ntmps45
  go_wp2
  go_loopw [5, 6] (fun v i wr => ∃ r : Nat, i = .int .i64 r ∧ r ≤ N ∧ OwnD wr w.heap.size v (colsF p (partsF N) r) ∧ Below w.heap.size w wr) (fun _ i _ => N - (intOf i).toNat)
  case atStart => exact ⟨0, rfl, Nat.zero_le _, by simpa [colsF] using hO, hb⟩
  case round =>
    clear hO hb
    obtain ⟨r, rfl, hr, hO, hb⟩ := hrel
    have hcl := colsF_len p (partsF N) r
    have hcl2 : (colsF p (partsF N) r).length ≤ 32 * 5 := Nat.le_trans hcl (Nat.mul_le_mul hpl (by omega))
    clear hcl
    by_cases hlt : r < N
    · have HC : Hid (colsF p (partsF N) (r + 1) = colsF p (partsF N) r ++ colF p (partsF N) r) := colsF_succ _ _ _
      have hr64 : 0 ≤ (r : Int) ∧ (r : Int) < 64 := by omega
      have hT := OwnI.empty _ wr.heap.size (Nat.le_refl _)
      have ap_OT := apart_old hO hT
      replace hT := hT.based hb.size
      have hO := World.ownsRow.alloc hO (.cells #[] 3)
      have hb := hb.alloc hb.size (.cells #[] 3)
      go_wp2_with fail
      have oldO := hO
      have oldT := hT
      refine (c_PartsBySize (N : Int) _).mono ?_
      rintro e w2 ⟨v2, rfl, hP, hbn⟩
      have ap_PO := (apart_old oldO hP).symm
      have ap_PT := (apart_old oldT hP).symm
      replace hT := hT.keep hbn
      replace hO := OwnD.keep hO hbn
      replace hP := hP.based hb.size
      replace hb := bel_to hb hbn
      clear oldO oldT hbn
      generalize hPP : partsF N = P at *
      have HPP : Hid (partsF N = P) := hPP
      clear hPP
      generalize colsF p P r = A at *
      obtain ⟨o1, c1, rfl⟩ := hP.shape
      have hPr : P.length ≤ Room := by unfold Room; omega
      have hrN : 0 ≤ (r : Int) ∧ (r : Int) < N := by omega
      go_wp2
      go_loopw [5, 7, 20] (fun vO vT i wr => ∃ k : Nat, i = .int .i64 k ∧ k ≤ P.length ∧ OwnI wr w.heap.size vT (takenF p r (P.take k)) ∧ OwnD wr w.heap.size vO (A ++ colF p (P.take k) r) ∧ OwnI wr w.heap.size (.slice o1 P.length c1) P ∧ Apart vO vT ∧ Apart (.slice o1 P.length c1) vO ∧ Apart (.slice o1 P.length c1) vT ∧ Below w.heap.size w wr) (fun _ _ i _ => P.length - (intOf i).toNat)
      case atStart => exact ⟨0, rfl, Nat.zero_le _, by simpa [takenF] using hT, by simpa [colF, takenF] using hO, hP, ap_OT, ap_PO, ap_PT, hb⟩
      case round =>
        clear hT hO hP ap_OT ap_PO ap_PT hb
        obtain ⟨k, rfl, hk, hT, hO, hP, ap_OT, ap_PO, ap_PT, hb⟩ := hrel
        by_cases hlk : k < P.length
        · obtain ⟨b2, off2, rfl, hbs2, hca⟩ := (hP.ints rfl hPr).at_ (by omega)
          have hc2 := hca k hlk
          have hxs := HPS.out _ (List.mem_iff_getElem?.2 ⟨k, nth_eq hlk⟩)
          have hTl := taken_len p r P k hk
          have hOl : (A ++ colF p (P.take k) r).length ≤ 300 := by
            have h := colF_len p (P.take k) r
            rw [List.length_take] at h
            rw [List.length_append]
            omega
          have HTs : Hid (takenF p r (P.take (k + 1)) = stepM p r (takenF p r (P.take k)) (nth P k)) := taken_succ p r hlk
          have HOs : Hid (A ++ colF p (P.take (k + 1)) r = A ++ (stepM p r (takenF p r (P.take k)) (nth P k)).map fun x => (x, (r : Int))) := by
            show A ++ colF p (P.take (k + 1)) r = A ++ (stepM p r (takenF p r (P.take k)) (nth P k)).map fun x => (x, (r : Int))
            unfold colF; rw [taken_succ p r hlk]
          have HOk : Hid (A ++ colF p (P.take k) r = A ++ (takenF p r (P.take k)).map fun x => (x, (r : Int))) := rfl
          have hst : Hid (St (nth P k)) := hxs.1
          have hx2 := hxs.2
          clear hca hxs
          generalize nth P k = x at *
          generalize takenF p r (P.take k) = T at *
          generalize A ++ colF p (P.take k) r = C at *
          have hTr : T.length ≤ Room := by unfold Room; omega
          obtain ⟨oT, cT, rfl⟩ := hT.shape
          cases h1 : hasc x (r : Int)
          · cases h2 : anyIns T x
            · cases h3 : p x (r : Int)
              · have HM : Hid (stepM p r T x = T) := by show stepM p r T x = T; unfold stepM; rw [h1, h2, h3]; rfl
                go_wp2_with (first | (go_at_call 48; refine Calls.mono (Ans.eqb (c_has _ _ hr64 _) h1) ?_; rintro e w1 ⟨rfl, hbn⟩; replace hT := hT.keep hbn; replace hP := hP.keep hbn; replace hO := hO.keep hbn; replace hb := bel_to (w := w) (by first | exact hb | exact hb.alloc hb.size _ | exact (hb.alloc hb.size _).alloc (Nat.le_trans hb.size (by simp)) _ | exact hb.setCell (by simp [hb.size]) _) hbn; clear hbn) | (go_at_call 89; refine Calls.mono (Ans.eqb (c_hasPart _ _ _ _ _ (hT.ints rfl hTr)) h2) ?_; rintro e w1 ⟨rfl, hbn⟩; replace hT := hT.keep hbn; replace hP := hP.keep hbn; replace hO := hO.keep hbn; replace hb := bel_to (w := w) (by first | exact hb | exact hb.alloc hb.size _ | exact (hb.alloc hb.size _).alloc (Nat.le_trans hb.size (by simp)) _ | exact hb.setCell (by simp [hb.size]) _) hbn; clear hbn) | (go_at_call 69; refine Calls.mono (Ans.eqb (HCL.out _ x (r : Int) hst.out hrN hx2 hb) h3) ?_; rintro e w1 ⟨rfl, hbn⟩; replace hT := hT.keep hbn; replace hP := hP.keep hbn; replace hO := hO.keep hbn; replace hb := bel_to (w := w) (by first | exact hb | exact hb.alloc hb.size _ | exact (hb.alloc hb.size _).alloc (Nat.le_trans hb.size (by simp)) _ | exact hb.setCell (by simp [hb.size]) _) hbn; clear hbn) | fail)
                go_roundw
                case rel => exact ⟨k + 1, by go_num, by omega, by rw [HTs.out, HM.out]; exact hT, by rw [HOs.out, HM.out, ← HOk.out]; exact hO, hP, ap_OT, ap_PO, ap_PT, hb⟩
                case measure => simp [intOf]; omega
              · have HM : Hid (stepM p r T x = T ++ [x]) := by show stepM p r T x = T ++ [x]; unfold stepM; rw [h1, h2, h3]; rfl
                have HOn : Hid (A ++ (T ++ [x]).map (fun x => (x, (r : Int))) = C ++ [(x, (r : Int))]) := by
                  show A ++ (T ++ [x]).map (fun x => (x, (r : Int))) = C ++ [(x, (r : Int))]
                  rw [HOk.out]; simp
                have hq : True := trivial
                go_wp2_with (first | (go_at_call 48; refine Calls.mono (Ans.eqb (c_has _ _ hr64 _) h1) ?_; rintro e w1 ⟨rfl, hbn⟩; replace hT := hT.keep hbn; replace hP := hP.keep hbn; replace hO := hO.keep hbn; replace hb := bel_to (w := w) (by first | exact hb | exact hb.alloc hb.size _ | exact (hb.alloc hb.size _).alloc (Nat.le_trans hb.size (by simp)) _ | exact hb.setCell (by simp [hb.size]) _) hbn; clear hbn) | (go_at_call 89; refine Calls.mono (Ans.eqb (c_hasPart _ _ _ _ _ (hT.ints rfl hTr)) h2) ?_; rintro e w1 ⟨rfl, hbn⟩; replace hT := hT.keep hbn; replace hP := hP.keep hbn; replace hO := hO.keep hbn; replace hb := bel_to (w := w) (by first | exact hb | exact hb.alloc hb.size _ | exact (hb.alloc hb.size _).alloc (Nat.le_trans hb.size (by simp)) _ | exact hb.setCell (by simp [hb.size]) _) hbn; clear hbn) | (go_at_call 69; refine Calls.mono (Ans.eqb (HCL.out _ x (r : Int) hst.out hrN hx2 hb) h3) ?_; rintro e w1 ⟨rfl, hbn⟩; replace hT := hT.keep hbn; replace hP := hP.keep hbn; replace hO := hO.keep hbn; replace hb := bel_to (w := w) (by first | exact hb | exact hb.alloc hb.size _ | exact (hb.alloc hb.size _).alloc (Nat.le_trans hb.size (by simp)) _ | exact hb.setCell (by simp [hb.size]) _) hbn; clear hbn) | (clear hq; at_builtin; refine wpList_append_fresh rfl _ _ 22 rfl w.heap.size 3 i0 (.int .i64 0) 1 8 Try.underlying22 hi hz0 hz1 hz2 rfl (by decide) _ _ _ rfl (World.ownsRow.alloc hT _) _ 1 1 [.int .i64 x] rfl rfl (by intro j u hj; match j, hj with | 0, hj => simp at hj; subst hj; simp [Addr.add]) (by intro u hu; simp at hu; subst hu; rfl) (by unfold maxLen; omega) (by omega) (by have := hb.size; simp; omega) ?_; intro v' w1 hown hgrow hfr; replace hb := (hb.alloc hb.size _).grown hgrow (by have := hb.size; simp; omega) (fun g hg => (World.ownsRow.lt hT g hg).1); obtain ⟨hP, ap_PT⟩ := OwnI.past hP hgrow ap_PT hfr; obtain ⟨hO, ap_OT⟩ := OwnD.past hO hgrow ap_OT hfr; replace hT := OwnI.snoc hown; clear hown hgrow hfr) | (at_builtin; refine wpList_append_fresh rfl _ _ 23 rfl w.heap.size 54 j0 (.agg #[.int .i64 0, .int .i64 0]) 2 16 Try.underlying23 hj hy0 hy1 hy2 rfl (by decide) _ _ _ rfl (World.ownsRow.alloc hO _) _ 1 1 [.int .i64 x, .int .i64 (r : Int)] rfl rfl (World.news_of_block (cs := #[.int .i64 x, .int .i64 (r : Int)]) (t := 54) (fr := (0, 0)) (heap_alloc_new _ _)) (by intro u hu; simp at hu; rcases hu with rfl | rfl <;> rfl) (by unfold maxLen; omega) (by omega) (by have := hb.size; simp; omega) ?_; intro v' w1 hown hgrow hfr; replace hb := (hb.alloc hb.size _).grown hgrow (by have := hb.size; simp; omega) (fun g hg => (World.ownsRow.lt hO g hg).1); obtain ⟨hP, ap_PO⟩ := OwnI.past hP hgrow ap_PO hfr; obtain ⟨hT, ap_TO⟩ := OwnI.past hT hgrow ap_OT.symm hfr; have ap_OT := ap_TO.symm; clear ap_TO; replace hO := own_snocD hown; clear hown hgrow hfr) | fail)
                go_roundw
                case rel => exact ⟨k + 1, by go_num, by omega, by rw [HTs.out, HM.out]; exact hT, by rw [HOs.out, HM.out, HOn.out]; exact hO, hP, ap_OT, ap_PO, ap_PT, hb⟩
                case measure => simp [intOf]; omega
            · have HM : Hid (stepM p r T x = T) := by show stepM p r T x = T; unfold stepM; rw [h1, h2]; rfl
              go_wp2_with (first | (go_at_call 48; refine Calls.mono (Ans.eqb (c_has _ _ hr64 _) h1) ?_; rintro e w1 ⟨rfl, hbn⟩; replace hT := hT.keep hbn; replace hP := hP.keep hbn; replace hO := hO.keep hbn; replace hb := bel_to (w := w) (by first | exact hb | exact hb.alloc hb.size _ | exact (hb.alloc hb.size _).alloc (Nat.le_trans hb.size (by simp)) _ | exact hb.setCell (by simp [hb.size]) _) hbn; clear hbn) | (go_at_call 89; refine Calls.mono (Ans.eqb (c_hasPart _ _ _ _ _ (hT.ints rfl hTr)) h2) ?_; rintro e w1 ⟨rfl, hbn⟩; replace hT := hT.keep hbn; replace hP := hP.keep hbn; replace hO := hO.keep hbn; replace hb := bel_to (w := w) (by first | exact hb | exact hb.alloc hb.size _ | exact (hb.alloc hb.size _).alloc (Nat.le_trans hb.size (by simp)) _ | exact hb.setCell (by simp [hb.size]) _) hbn; clear hbn) | (go_at_call 69; refine Calls.mono (Ans.eqb (HCL.out _ x (r : Int) hst.out hrN hx2 hb) h3) ?_; rintro e w1 ⟨rfl, hbn⟩; replace hT := hT.keep hbn; replace hP := hP.keep hbn; replace hO := hO.keep hbn; replace hb := bel_to (w := w) (by first | exact hb | exact hb.alloc hb.size _ | exact (hb.alloc hb.size _).alloc (Nat.le_trans hb.size (by simp)) _ | exact hb.setCell (by simp [hb.size]) _) hbn; clear hbn) | fail)
              go_roundw
              case rel => exact ⟨k + 1, by go_num, by omega, by rw [HTs.out, HM.out]; exact hT, by rw [HOs.out, HM.out, ← HOk.out]; exact hO, hP, ap_OT, ap_PO, ap_PT, hb⟩
              case measure => simp [intOf]; omega
          · have HM : Hid (stepM p r T x = T) := by show stepM p r T x = T; unfold stepM; rw [h1]; rfl
            go_wp2_with (first | (go_at_call 48; refine Calls.mono (Ans.eqb (c_has _ _ hr64 _) h1) ?_; rintro e w1 ⟨rfl, hbn⟩; replace hT := hT.keep hbn; replace hP := hP.keep hbn; replace hO := hO.keep hbn; replace hb := bel_to (w := w) (by first | exact hb | exact hb.alloc hb.size _ | exact (hb.alloc hb.size _).alloc (Nat.le_trans hb.size (by simp)) _ | exact hb.setCell (by simp [hb.size]) _) hbn; clear hbn) | (go_at_call 89; refine Calls.mono (Ans.eqb (c_hasPart _ _ _ _ _ (hT.ints rfl hTr)) h2) ?_; rintro e w1 ⟨rfl, hbn⟩; replace hT := hT.keep hbn; replace hP := hP.keep hbn; replace hO := hO.keep hbn; replace hb := bel_to (w := w) (by first | exact hb | exact hb.alloc hb.size _ | exact (hb.alloc hb.size _).alloc (Nat.le_trans hb.size (by simp)) _ | exact hb.setCell (by simp [hb.size]) _) hbn; clear hbn) | (go_at_call 69; refine Calls.mono (Ans.eqb (HCL.out _ x (r : Int) hst.out hrN hx2 hb) h3) ?_; rintro e w1 ⟨rfl, hbn⟩; replace hT := hT.keep hbn; replace hP := hP.keep hbn; replace hO := hO.keep hbn; replace hb := bel_to (w := w) (by first | exact hb | exact hb.alloc hb.size _ | exact (hb.alloc hb.size _).alloc (Nat.le_trans hb.size (by simp)) _ | exact hb.setCell (by simp [hb.size]) _) hbn; clear hbn) | fail)
            go_roundw
            case rel => exact ⟨k + 1, by go_num, by omega, by rw [HTs.out, HM.out]; exact hT, by rw [HOs.out, HM.out, ← HOk.out]; exact hO, hP, ap_OT, ap_PO, ap_PT, hb⟩
            case measure => simp [intOf]; omega
        · have hkk : k = P.length := by omega
          have HE : Hid (colsF p (partsF N) (r + 1) = A ++ colF p (P.take k) r) := by
            show colsF p (partsF N) (r + 1) = A ++ colF p (P.take k) r
            rw [HPP.out, HC.out, hkk, List.take_length]
          clear hkk
          go_wp2
          go_roundw
          case rel => exact ⟨r + 1, by go_num, by omega, by rw [HE.out]; exact hO, hb⟩
          case measure => simp [intOf]; omega
    · have hrr : r = N := by omega
      have HE : Hid (colsF p (partsF N) r = colsF p (partsF N) N) := by show colsF p (partsF N) r = colsF p (partsF N) N; rw [hrr]
      clear hrr
      go_wp2
      go_ret
      exact ⟨_, rfl, by rw [← HE.out]; exact hO, hb⟩
end Go.Proofs.Ytaomdnibnnobiaa
