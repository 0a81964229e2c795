/- Contracts and lemmas for FnExactStepSearch, part 4 of 6. -/
import Derived.Test.YtjbmpnbfiahdhaaGreatQStepSearch1
import Derived.Test.YtjbmpnbfiahdhaaGreatQStepSearch2
import Derived.Test.YtjbmpnbfiahdhaaGreatQStepSearch3
import Derived.Deep.RegionHeld3
import Derived.Deep.RegionLaw
import Derived.IntWalk
import Derived.Deep.AppendLies
namespace Go.Proofs.YtjbmpnbfiahdhaaGreat
open Go.RowKit
set_option linter.unusedVariables false
set_option maxRecDepth 100000

def anyIns (T : List Int) (x : Int) : Bool := T.any fun y => ins y x
def stepM (p : Int → Int → Bool) (r : Int) (T : List Int) (x : Int) : List Int := if (!hasc x r && !anyIns T x) && p x r then T ++ [x] else T
def takenF (p : Int → Int → Bool) (r : Int) (L : List Int) : List Int := L.foldl (stepM p r) []
def colF (p : Int → Int → Bool) (P : List Int) (r : Int) : List (Int × Int) := (takenF p r P).map fun x => (x, r)
def colsF (p : Int → Int → Bool) (P : List Int) (n : Nat) : List (Int × Int) := (List.range n).flatMap fun (r : Nat) => colF p P (r : Int)
theorem taken_succ (p : Int → Int → Bool) (r : Int) {L : List Int} {k : Nat} (h : k < L.length) : takenF p r (L.take (k + 1)) = stepM p r (takenF p r (L.take k)) (nth L k) := by
  unfold takenF
  rw [List.take_add_one, nth_eq h, List.foldl_append]; rfl
theorem stepM_len (p : Int → Int → Bool) (r : Int) (T : List Int) (x : Int) : (stepM p r T x).length ≤ T.length + 1 := by
  unfold stepM; split <;> simp
theorem taken_len (p : Int → Int → Bool) (r : Int) (L : List Int) : ∀ k, k ≤ L.length → (takenF p r (L.take k)).length ≤ k
  | 0, _ => by simp [takenF]
  | k + 1, h => by
    rw [taken_succ p r (by omega)]
    have h1 := taken_len p r L k (by omega)
    have h2 := stepM_len p r (takenF p r (L.take k)) (nth L k)
    omega
theorem colF_len (p : Int → Int → Bool) (P : List Int) (r : Int) : (colF p P r).length ≤ P.length := by
  unfold colF
  rw [List.length_map]
  have := taken_len p r P P.length (Nat.le_refl _)
  rw [List.take_length] at this
  exact this
theorem colsF_succ (p : Int → Int → Bool) (P : List Int) (n : Nat) : colsF p P (n + 1) = colsF p P n ++ colF p P n := by unfold colsF; rw [List.range_succ, List.flatMap_append]; simp
theorem colsF_len (p : Int → Int → Bool) (P : List Int) : ∀ n, (colsF p P n).length ≤ P.length * n
  | 0 => by simp [colsF]
  | n + 1 => by
    rw [colsF_succ, List.length_append, Nat.mul_succ]
    have h1 := colsF_len p P n
    have h2 := colF_len p P n
    omega
theorem own_snocD {w : World} {base : Nat} {v : Value} {A : List (Int × Int)} {l r : Int} (h : w.ownsRow base 46 2 v (A.length + 1) (dcells A ++ [.int .i64 l, .int .i64 r])) : OwnD w base v (A ++ [(l, r)]) := OwnD.joined (B := [(l, r)]) h
theorem OwnD.past {w w' : World} {base : Nat} {M v v' : Value} {L : List (Int × Int)} {o : Obj} (h : OwnD w base M L) (hg : (w.alloc o).grownBy w' v.ownBlock) (ha : Apart M v) (hf : Fresh (w.alloc o) v v') : OwnD w' base M L ∧ Apart M v' :=
  ⟨OwnD.far (World.ownsRow.alloc h o) hg ha, Apart.next (World.ownsRow.alloc h o) ha hf⟩
theorem c_hasPart (oa) (cap : Nat) (L : List Int) (x : Int) (w : World) (hL : IntsAt w oa L) :
    Ans Tryz.prog 189 #[.slice oa L.length cap, .int .i64 x] w (.bool (anyIns L x)) := by
  unfold Ans
  have hn : L.length ≤ 1073741824 := hL.len
  go_enter Tryz.func189, Tryz.ntmps189
  go_wp2
  go_loopw [9] (fun i wr => ∃ k : Nat, i = .int .i64 k ∧ k ≤ L.length ∧ (L.take k).all (fun y => !ins y x) = true ∧ Below w.heap.size w wr) (fun i _ => L.length - (intOf i).toNat)
  case atStart => exact ⟨0, rfl, Nat.zero_le _, by simp, Below.refl _ _⟩
  case round =>
    obtain ⟨k, rfl, hk, hall, hb⟩ := hrel
    have HA : Hid ((L.take k).all (fun y => !ins y x) = true) := hall
    clear hall
    by_cases hlt : k < L.length
    · obtain ⟨b, off, rfl, hbs, hc⟩ := hL.at_ (by omega)
      have hc1 := cell_keep (hc k hlt) hb
      have HT : Hid ((L.take (k + 1)).all (fun y => !ins y x) = ((L.take k).all (fun y => !ins y x) && !ins (nth L k) x)) := all_take_succ (fun y => !ins y x) L k hlt
      have HY : Hid (ins (nth L k) x = true → anyIns L x = true) := fun h => List.any_eq_true.2 ⟨nth L k, List.mem_iff_getElem?.2 ⟨k, nth_eq hlt⟩, h⟩
      clear hc
      generalize nth L k = y at *
      cases hi : ins y x
      · go_wp2_with (first | (go_at_call 167; refine Calls.mono (Ans.eqb (c_inside _ _ _) hi) ?_; rintro e w1 ⟨rfl, hbn⟩; replace hb := bel_to (w := w) (by first | exact hb | exact hb.alloc hb.size _ | exact (hb.alloc hb.size _).alloc (Nat.le_trans hb.size (by simp)) _ | exact hb.setCell (by simp [hb.size]) _) hbn; clear hbn))
        go_roundw
        case rel => exact ⟨k + 1, by go_num, by omega, by rw [HT.out, HA.out, hi]; rfl, hb⟩
        case measure => simp [intOf]; omega
      · go_wp2_with (first | (go_at_call 167; refine Calls.mono (Ans.eqb (c_inside _ _ _) hi) ?_; rintro e w1 ⟨rfl, hbn⟩; replace hb := bel_to (w := w) (by first | exact hb | exact hb.alloc hb.size _ | exact (hb.alloc hb.size _).alloc (Nat.le_trans hb.size (by simp)) _ | exact hb.setCell (by simp [hb.size]) _) hbn; clear hbn))
        go_ret
        exact ⟨ret_bool (HY.out hi).symm, hb⟩
    · have hkk : k = L.length := by omega
      have HS : Hid (anyIns L x = false) := by
        have h := HA.out
        rw [hkk, List.take_length, List.all_eq_true] at h
        show anyIns L x = false
        unfold anyIns
        rw [List.any_eq_false]
        intro y hy
        have := h y hy
        simpa using this
      clear hkk
      go_wp2
      go_ret
      exact ⟨ret_bool HS.out.symm, hb⟩

set_option maxHeartbeats 3200000 in
theorem c_minimalDeps_P (N : Nat) (hN : N ≤ 5) (e0 e1 : Value) (p : Int → Int → Bool) (w : World)
    (hcl : ∀ (W : World) (x r : Int), St x → (0 ≤ r ∧ r < N) → x < 2 ^ N → Below w.heap.size w W → Ans Tryz.prog 166 #[.agg #[.int .i64 x, .int .i64 r], e0, e1] W (.bool (p x r))) :
    Calls Tryz.prog 121 #[.int .i64 N, .func (.func 166) #[] #[e0, e1]] w fun e w' => ∃ v, e = .returned v ∧ OwnD w' w.heap.size v (colsF p (partsF N) N) ∧ Below w.heap.size w w' := by
  obtain ⟨i0, hi, hz0, hz1, hz2⟩ := info_parts info_int
  obtain ⟨j0, hj, hy0, hy1, hy2⟩ := info_parts info_dep
  have hb := (Below.refl w.heap.size w).alloc (Nat.le_refl _) (.cells #[] 46)
  have hO := OwnD.empty w w.heap.size (Nat.le_refl _)
  have hpl := partsF_len N
  have HPS : Hid (∀ x ∈ partsF N, St x ∧ x < 2 ^ N) := fun x hx => by
    have h := (partsF_mem (n := N) (by omega) (by omega)).1 hx
    have h2 := (pow_wrap (n := (N : Int)) (by omega) (by omega)).2.1
    rw [Int.toNat_natCast] at h h2
    exact ⟨⟨h.1, by omega⟩, h.2⟩
  have HCL : Hid (∀ (W : World) (x r : Int), St x → (0 ≤ r ∧ r < N) → x < 2 ^ N → Below w.heap.size w W → Ans Tryz.prog 166 #[.agg #[.int .i64 x, .int .i64 r], e0, e1] W (.bool (p x r))) := hcl
  clear hcl
  go_enter Tryz.func121, Tryz.ntmps121
  go_wp2
  go_loopw [5, 6] (fun v i wr => ∃ r : Nat, i = .int .i64 r ∧ r ≤ N ∧ OwnD wr w.heap.size v (colsF p (partsF N) r) ∧ Below w.heap.size w wr) (fun _ i _ => N - (intOf i).toNat)
  case atStart => exact ⟨0, rfl, Nat.zero_le _, by simpa [colsF] using hO, hb⟩
  case round =>
    clear hO hb
    obtain ⟨r, rfl, hr, hO, hb⟩ := hrel
    have hcl := colsF_len p (partsF N) r
    have hcl2 : (colsF p (partsF N) r).length ≤ 32 * 5 := Nat.le_trans hcl (Nat.mul_le_mul hpl (by omega))
    clear hcl
    by_cases hlt : r < N
    · have HC : Hid (colsF p (partsF N) (r + 1) = colsF p (partsF N) r ++ colF p (partsF N) r) := colsF_succ _ _ _
      have hr64 : 0 ≤ (r : Int) ∧ (r : Int) < 64 := by omega
      have hT := OwnI.empty _ wr.heap.size (Nat.le_refl _)
      have ap_OT := apart_old hO hT
      replace hT := hT.based hb.size
      have hO := World.ownsRow.alloc hO (.cells #[] 3)
      have hb := hb.alloc hb.size (.cells #[] 3)
      go_wp2_with fail
      have oldO := hO
      have oldT := hT
      refine (c_PartsBySize (N : Int) _).mono ?_
      rintro e w2 ⟨v2, rfl, hP, hbn⟩
      have ap_PO := (apart_old oldO hP).symm
      have ap_PT := (apart_old oldT hP).symm
      replace hT := hT.keep hbn
      replace hO := OwnD.keep hO hbn
      replace hP := hP.based hb.size
      replace hb := bel_to hb hbn
      clear oldO oldT hbn
      generalize hPP : partsF N = P at *
      have HPP : Hid (partsF N = P) := hPP
      clear hPP
      generalize colsF p P r = A at *
      obtain ⟨o1, c1, rfl⟩ := hP.shape
      have hPr : P.length ≤ Room := by unfold Room; omega
      have hrN : 0 ≤ (r : Int) ∧ (r : Int) < N := by omega
      go_wp2
      go_loopw [5, 7, 20] (fun vO vT i wr => ∃ k : Nat, i = .int .i64 k ∧ k ≤ P.length ∧ OwnI wr w.heap.size vT (takenF p r (P.take k)) ∧ OwnD wr w.heap.size vO (A ++ colF p (P.take k) r) ∧ OwnI wr w.heap.size (.slice o1 P.length c1) P ∧ Apart vO vT ∧ Apart (.slice o1 P.length c1) vO ∧ Apart (.slice o1 P.length c1) vT ∧ Below w.heap.size w wr) (fun _ _ i _ => P.length - (intOf i).toNat)
      case atStart => exact ⟨0, rfl, Nat.zero_le _, by simpa [takenF] using hT, by simpa [colF, takenF] using hO, hP, ap_OT, ap_PO, ap_PT, hb⟩
      case round =>
        clear hT hO hP ap_OT ap_PO ap_PT hb
        obtain ⟨k, rfl, hk, hT, hO, hP, ap_OT, ap_PO, ap_PT, hb⟩ := hrel
        by_cases hlk : k < P.length
        · obtain ⟨b2, off2, rfl, hbs2, hca⟩ := (hP.ints rfl hPr).at_ (by omega)
          have hc2 := hca k hlk
          have hxs := HPS.out _ (List.mem_iff_getElem?.2 ⟨k, nth_eq hlk⟩)
          have hTl := taken_len p r P k hk
          have hOl : (A ++ colF p (P.take k) r).length ≤ 300 := by
            have h := colF_len p (P.take k) r
            rw [List.length_take] at h
            rw [List.length_append]
            omega
          have HTs : Hid (takenF p r (P.take (k + 1)) = stepM p r (takenF p r (P.take k)) (nth P k)) := taken_succ p r hlk
          have HOs : Hid (A ++ colF p (P.take (k + 1)) r = A ++ (stepM p r (takenF p r (P.take k)) (nth P k)).map fun x => (x, (r : Int))) := by
            show A ++ colF p (P.take (k + 1)) r = A ++ (stepM p r (takenF p r (P.take k)) (nth P k)).map fun x => (x, (r : Int))
            unfold colF; rw [taken_succ p r hlk]
          have HOk : Hid (A ++ colF p (P.take k) r = A ++ (takenF p r (P.take k)).map fun x => (x, (r : Int))) := rfl
          have hst : Hid (St (nth P k)) := hxs.1
          have hx2 := hxs.2
          clear hca hxs
          generalize nth P k = x at *
          generalize takenF p r (P.take k) = T at *
          generalize A ++ colF p (P.take k) r = C at *
          have hTr : T.length ≤ Room := by unfold Room; omega
          obtain ⟨oT, cT, rfl⟩ := hT.shape
          cases h1 : hasc x (r : Int)
          · cases h2 : anyIns T x
            · cases h3 : p x (r : Int)
              · have HM : Hid (stepM p r T x = T) := by show stepM p r T x = T; unfold stepM; rw [h1, h2, h3]; rfl
                go_wp2_with (first | (go_at_call 119; refine Calls.mono (Ans.eqb (c_has _ _ hr64 _) h1) ?_; rintro e w1 ⟨rfl, hbn⟩; replace hT := hT.keep hbn; replace hP := hP.keep hbn; replace hO := hO.keep hbn; replace hb := bel_to (w := w) (by first | exact hb | exact hb.alloc hb.size _ | exact (hb.alloc hb.size _).alloc (Nat.le_trans hb.size (by simp)) _ | exact hb.setCell (by simp [hb.size]) _) hbn; clear hbn) | (go_at_call 189; refine Calls.mono (Ans.eqb (c_hasPart _ _ _ _ _ (hT.ints rfl hTr)) h2) ?_; rintro e w1 ⟨rfl, hbn⟩; replace hT := hT.keep hbn; replace hP := hP.keep hbn; replace hO := hO.keep hbn; replace hb := bel_to (w := w) (by first | exact hb | exact hb.alloc hb.size _ | exact (hb.alloc hb.size _).alloc (Nat.le_trans hb.size (by simp)) _ | exact hb.setCell (by simp [hb.size]) _) hbn; clear hbn) | (go_at_call 166; refine Calls.mono (Ans.eqb (HCL.out _ x (r : Int) hst.out hrN hx2 hb) h3) ?_; rintro e w1 ⟨rfl, hbn⟩; replace hT := hT.keep hbn; replace hP := hP.keep hbn; replace hO := hO.keep hbn; replace hb := bel_to (w := w) (by first | exact hb | exact hb.alloc hb.size _ | exact (hb.alloc hb.size _).alloc (Nat.le_trans hb.size (by simp)) _ | exact hb.setCell (by simp [hb.size]) _) hbn; clear hbn) | fail)
                go_roundw
                case rel => exact ⟨k + 1, by go_num, by omega, by rw [HTs.out, HM.out]; exact hT, by rw [HOs.out, HM.out, ← HOk.out]; exact hO, hP, ap_OT, ap_PO, ap_PT, hb⟩
                case measure => simp [intOf]; omega
              · have HM : Hid (stepM p r T x = T ++ [x]) := by show stepM p r T x = T ++ [x]; unfold stepM; rw [h1, h2, h3]; rfl
                have HOn : Hid (A ++ (T ++ [x]).map (fun x => (x, (r : Int))) = C ++ [(x, (r : Int))]) := by
                  show A ++ (T ++ [x]).map (fun x => (x, (r : Int))) = C ++ [(x, (r : Int))]
                  rw [HOk.out]; simp
                have hq : True := trivial
                go_wp2_with (first | (go_at_call 119; refine Calls.mono (Ans.eqb (c_has _ _ hr64 _) h1) ?_; rintro e w1 ⟨rfl, hbn⟩; replace hT := hT.keep hbn; replace hP := hP.keep hbn; replace hO := hO.keep hbn; replace hb := bel_to (w := w) (by first | exact hb | exact hb.alloc hb.size _ | exact (hb.alloc hb.size _).alloc (Nat.le_trans hb.size (by simp)) _ | exact hb.setCell (by simp [hb.size]) _) hbn; clear hbn) | (go_at_call 189; refine Calls.mono (Ans.eqb (c_hasPart _ _ _ _ _ (hT.ints rfl hTr)) h2) ?_; rintro e w1 ⟨rfl, hbn⟩; replace hT := hT.keep hbn; replace hP := hP.keep hbn; replace hO := hO.keep hbn; replace hb := bel_to (w := w) (by first | exact hb | exact hb.alloc hb.size _ | exact (hb.alloc hb.size _).alloc (Nat.le_trans hb.size (by simp)) _ | exact hb.setCell (by simp [hb.size]) _) hbn; clear hbn) | (go_at_call 166; refine Calls.mono (Ans.eqb (HCL.out _ x (r : Int) hst.out hrN hx2 hb) h3) ?_; rintro e w1 ⟨rfl, hbn⟩; replace hT := hT.keep hbn; replace hP := hP.keep hbn; replace hO := hO.keep hbn; replace hb := bel_to (w := w) (by first | exact hb | exact hb.alloc hb.size _ | exact (hb.alloc hb.size _).alloc (Nat.le_trans hb.size (by simp)) _ | exact hb.setCell (by simp [hb.size]) _) hbn; clear hbn) | (clear hq; at_builtin; refine wpList_append_fresh rfl _ _ 58 rfl w.heap.size 3 i0 (.int .i64 0) 1 8 Tryz.underlying58 hi hz0 hz1 hz2 rfl (by decide) _ _ _ rfl (World.ownsRow.alloc hT _) _ 1 1 [.int .i64 x] rfl rfl (by intro j u hj; match j, hj with | 0, hj => simp at hj; subst hj; simp [Addr.add]) (by intro u hu; simp at hu; subst hu; rfl) (by unfold maxLen; omega) (by omega) (by have := hb.size; simp; omega) ?_; intro v' w1 hown hgrow hfr; replace hb := (hb.alloc hb.size _).grown hgrow (by have := hb.size; simp; omega) (fun g hg => (World.ownsRow.lt hT g hg).1); obtain ⟨hP, ap_PT⟩ := OwnI.past hP hgrow ap_PT hfr; obtain ⟨hO, ap_OT⟩ := OwnD.past hO hgrow ap_OT hfr; replace hT := OwnI.snoc hown; clear hown hgrow hfr) | (at_builtin; refine wpList_append_fresh rfl _ _ 30 rfl w.heap.size 46 j0 (.agg #[.int .i64 0, .int .i64 0]) 2 16 Tryz.underlying30 hj hy0 hy1 hy2 rfl (by decide) _ _ _ rfl (World.ownsRow.alloc hO _) _ 1 1 [.int .i64 x, .int .i64 (r : Int)] rfl rfl (World.news_of_block (cs := #[.int .i64 x, .int .i64 (r : Int)]) (t := 46) (fr := (0, 0)) (heap_alloc_new _ _)) (by intro u hu; simp at hu; rcases hu with rfl | rfl <;> rfl) (by unfold maxLen; omega) (by omega) (by have := hb.size; simp; omega) ?_; intro v' w1 hown hgrow hfr; replace hb := (hb.alloc hb.size _).grown hgrow (by have := hb.size; simp; omega) (fun g hg => (World.ownsRow.lt hO g hg).1); obtain ⟨hP, ap_PO⟩ := OwnI.past hP hgrow ap_PO hfr; obtain ⟨hT, ap_TO⟩ := OwnI.past hT hgrow ap_OT.symm hfr; have ap_OT := ap_TO.symm; clear ap_TO; replace hO := own_snocD hown; clear hown hgrow hfr) | fail)
                go_roundw
                case rel => exact ⟨k + 1, by go_num, by omega, by rw [HTs.out, HM.out]; exact hT, by rw [HOs.out, HM.out, HOn.out]; exact hO, hP, ap_OT, ap_PO, ap_PT, hb⟩
                case measure => simp [intOf]; omega
            · have HM : Hid (stepM p r T x = T) := by show stepM p r T x = T; unfold stepM; rw [h1, h2]; rfl
              go_wp2_with (first | (go_at_call 119; refine Calls.mono (Ans.eqb (c_has _ _ hr64 _) h1) ?_; rintro e w1 ⟨rfl, hbn⟩; replace hT := hT.keep hbn; replace hP := hP.keep hbn; replace hO := hO.keep hbn; replace hb := bel_to (w := w) (by first | exact hb | exact hb.alloc hb.size _ | exact (hb.alloc hb.size _).alloc (Nat.le_trans hb.size (by simp)) _ | exact hb.setCell (by simp [hb.size]) _) hbn; clear hbn) | (go_at_call 189; refine Calls.mono (Ans.eqb (c_hasPart _ _ _ _ _ (hT.ints rfl hTr)) h2) ?_; rintro e w1 ⟨rfl, hbn⟩; replace hT := hT.keep hbn; replace hP := hP.keep hbn; replace hO := hO.keep hbn; replace hb := bel_to (w := w) (by first | exact hb | exact hb.alloc hb.size _ | exact (hb.alloc hb.size _).alloc (Nat.le_trans hb.size (by simp)) _ | exact hb.setCell (by simp [hb.size]) _) hbn; clear hbn) | (go_at_call 166; refine Calls.mono (Ans.eqb (HCL.out _ x (r : Int) hst.out hrN hx2 hb) h3) ?_; rintro e w1 ⟨rfl, hbn⟩; replace hT := hT.keep hbn; replace hP := hP.keep hbn; replace hO := hO.keep hbn; replace hb := bel_to (w := w) (by first | exact hb | exact hb.alloc hb.size _ | exact (hb.alloc hb.size _).alloc (Nat.le_trans hb.size (by simp)) _ | exact hb.setCell (by simp [hb.size]) _) hbn; clear hbn) | fail)
              go_roundw
              case rel => exact ⟨k + 1, by go_num, by omega, by rw [HTs.out, HM.out]; exact hT, by rw [HOs.out, HM.out, ← HOk.out]; exact hO, hP, ap_OT, ap_PO, ap_PT, hb⟩
              case measure => simp [intOf]; omega
          · have HM : Hid (stepM p r T x = T) := by show stepM p r T x = T; unfold stepM; rw [h1]; rfl
            go_wp2_with (first | (go_at_call 119; refine Calls.mono (Ans.eqb (c_has _ _ hr64 _) h1) ?_; rintro e w1 ⟨rfl, hbn⟩; replace hT := hT.keep hbn; replace hP := hP.keep hbn; replace hO := hO.keep hbn; replace hb := bel_to (w := w) (by first | exact hb | exact hb.alloc hb.size _ | exact (hb.alloc hb.size _).alloc (Nat.le_trans hb.size (by simp)) _ | exact hb.setCell (by simp [hb.size]) _) hbn; clear hbn) | (go_at_call 189; refine Calls.mono (Ans.eqb (c_hasPart _ _ _ _ _ (hT.ints rfl hTr)) h2) ?_; rintro e w1 ⟨rfl, hbn⟩; replace hT := hT.keep hbn; replace hP := hP.keep hbn; replace hO := hO.keep hbn; replace hb := bel_to (w := w) (by first | exact hb | exact hb.alloc hb.size _ | exact (hb.alloc hb.size _).alloc (Nat.le_trans hb.size (by simp)) _ | exact hb.setCell (by simp [hb.size]) _) hbn; clear hbn) | (go_at_call 166; refine Calls.mono (Ans.eqb (HCL.out _ x (r : Int) hst.out hrN hx2 hb) h3) ?_; rintro e w1 ⟨rfl, hbn⟩; replace hT := hT.keep hbn; replace hP := hP.keep hbn; replace hO := hO.keep hbn; replace hb := bel_to (w := w) (by first | exact hb | exact hb.alloc hb.size _ | exact (hb.alloc hb.size _).alloc (Nat.le_trans hb.size (by simp)) _ | exact hb.setCell (by simp [hb.size]) _) hbn; clear hbn) | fail)
            go_roundw
            case rel => exact ⟨k + 1, by go_num, by omega, by rw [HTs.out, HM.out]; exact hT, by rw [HOs.out, HM.out, ← HOk.out]; exact hO, hP, ap_OT, ap_PO, ap_PT, hb⟩
            case measure => simp [intOf]; omega
        · have hkk : k = P.length := by omega
          have HE : Hid (colsF p (partsF N) (r + 1) = A ++ colF p (P.take k) r) := by
            show colsF p (partsF N) (r + 1) = A ++ colF p (P.take k) r
            rw [HPP.out, HC.out, hkk, List.take_length]
          clear hkk
          go_wp2
          go_roundw
          case rel => exact ⟨r + 1, by go_num, by omega, by rw [HE.out]; exact hO, hb⟩
          case measure => simp [intOf]; omega
    · have hrr : r = N := by omega
      have HE : Hid (colsF p (partsF N) r = colsF p (partsF N) N) := by show colsF p (partsF N) r = colsF p (partsF N) N; rw [hrr]
      clear hrr
      go_wp2
      go_ret
      exact ⟨_, rfl, by rw [← HE.out]; exact hO, hb⟩

set_option maxHeartbeats 3200000 in
theorem c_minimalDeps_M (N : Nat) (hN : N ≤ 5) (e0 e1 : Value) (p : Int → Int → Bool) (w : World)
    (hcl : ∀ (W : World) (x r : Int), St x → (0 ≤ r ∧ r < N) → x < 2 ^ N → Below w.heap.size w W → Ans Tryz.prog 122 #[.agg #[.int .i64 x, .int .i64 r], e0, e1] W (.bool (p x r))) :
    Calls Tryz.prog 121 #[.int .i64 N, .func (.func 122) #[] #[e0, e1]] w fun e w' => ∃ v, e = .returned v ∧ OwnD w' w.heap.size v (colsF p (partsF N) N) ∧ Below w.heap.size w w' := by
  obtain ⟨i0, hi, hz0, hz1, hz2⟩ := info_parts info_int
  obtain ⟨j0, hj, hy0, hy1, hy2⟩ := info_parts info_dep
  have hb := (Below.refl w.heap.size w).alloc (Nat.le_refl _) (.cells #[] 46)
  have hO := OwnD.empty w w.heap.size (Nat.le_refl _)
  have hpl := partsF_len N
  have HPS : Hid (∀ x ∈ partsF N, St x ∧ x < 2 ^ N) := fun x hx => by
    have h := (partsF_mem (n := N) (by omega) (by omega)).1 hx
    have h2 := (pow_wrap (n := (N : Int)) (by omega) (by omega)).2.1
    rw [Int.toNat_natCast] at h h2
    exact ⟨⟨h.1, by omega⟩, h.2⟩
  have HCL : Hid (∀ (W : World) (x r : Int), St x → (0 ≤ r ∧ r < N) → x < 2 ^ N → Below w.heap.size w W → Ans Tryz.prog 122 #[.agg #[.int .i64 x, .int .i64 r], e0, e1] W (.bool (p x r))) := hcl
  clear hcl
  go_enter Tryz.func121, Tryz.ntmps121
  go_wp2
  go_loopw [5, 6] (fun v i wr => ∃ r : Nat, i = .int .i64 r ∧ r ≤ N ∧ OwnD wr w.heap.size v (colsF p (partsF N) r) ∧ Below w.heap.size w wr) (fun _ i _ => N - (intOf i).toNat)
  case atStart => exact ⟨0, rfl, Nat.zero_le _, by simpa [colsF] using hO, hb⟩
  case round =>
    clear hO hb
    obtain ⟨r, rfl, hr, hO, hb⟩ := hrel
    have hcl := colsF_len p (partsF N) r
    have hcl2 : (colsF p (partsF N) r).length ≤ 32 * 5 := Nat.le_trans hcl (Nat.mul_le_mul hpl (by omega))
    clear hcl
    by_cases hlt : r < N
    · have HC : Hid (colsF p (partsF N) (r + 1) = colsF p (partsF N) r ++ colF p (partsF N) r) := colsF_succ _ _ _
      have hr64 : 0 ≤ (r : Int) ∧ (r : Int) < 64 := by omega
      have hT := OwnI.empty _ wr.heap.size (Nat.le_refl _)
      have ap_OT := apart_old hO hT
      replace hT := hT.based hb.size
      have hO := World.ownsRow.alloc hO (.cells #[] 3)
      have hb := hb.alloc hb.size (.cells #[] 3)
      go_wp2_with fail
      have oldO := hO
      have oldT := hT
      refine (c_PartsBySize (N : Int) _).mono ?_
      rintro e w2 ⟨v2, rfl, hP, hbn⟩
      have ap_PO := (apart_old oldO hP).symm
      have ap_PT := (apart_old oldT hP).symm
      replace hT := hT.keep hbn
      replace hO := OwnD.keep hO hbn
      replace hP := hP.based hb.size
      replace hb := bel_to hb hbn
      clear oldO oldT hbn
      generalize hPP : partsF N = P at *
      have HPP : Hid (partsF N = P) := hPP
      clear hPP
      generalize colsF p P r = A at *
      obtain ⟨o1, c1, rfl⟩ := hP.shape
      have hPr : P.length ≤ Room := by unfold Room; omega
      have hrN : 0 ≤ (r : Int) ∧ (r : Int) < N := by omega
      go_wp2
      go_loopw [5, 7, 20] (fun vO vT i wr => ∃ k : Nat, i = .int .i64 k ∧ k ≤ P.length ∧ OwnI wr w.heap.size vT (takenF p r (P.take k)) ∧ OwnD wr w.heap.size vO (A ++ colF p (P.take k) r) ∧ OwnI wr w.heap.size (.slice o1 P.length c1) P ∧ Apart vO vT ∧ Apart (.slice o1 P.length c1) vO ∧ Apart (.slice o1 P.length c1) vT ∧ Below w.heap.size w wr) (fun _ _ i _ => P.length - (intOf i).toNat)
      case atStart => exact ⟨0, rfl, Nat.zero_le _, by simpa [takenF] using hT, by simpa [colF, takenF] using hO, hP, ap_OT, ap_PO, ap_PT, hb⟩
      case round =>
        clear hT hO hP ap_OT ap_PO ap_PT hb
        obtain ⟨k, rfl, hk, hT, hO, hP, ap_OT, ap_PO, ap_PT, hb⟩ := hrel
        by_cases hlk : k < P.length
        · obtain ⟨b2, off2, rfl, hbs2, hca⟩ := (hP.ints rfl hPr).at_ (by omega)
          have hc2 := hca k hlk
          have hxs := HPS.out _ (List.mem_iff_getElem?.2 ⟨k, nth_eq hlk⟩)
          have hTl := taken_len p r P k hk
          have hOl : (A ++ colF p (P.take k) r).length ≤ 300 := by
            have h := colF_len p (P.take k) r
            rw [List.length_take] at h
            rw [List.length_append]
            omega
          have HTs : Hid (takenF p r (P.take (k + 1)) = stepM p r (takenF p r (P.take k)) (nth P k)) := taken_succ p r hlk
          have HOs : Hid (A ++ colF p (P.take (k + 1)) r = A ++ (stepM p r (takenF p r (P.take k)) (nth P k)).map fun x => (x, (r : Int))) := by
            show A ++ colF p (P.take (k + 1)) r = A ++ (stepM p r (takenF p r (P.take k)) (nth P k)).map fun x => (x, (r : Int))
            unfold colF; rw [taken_succ p r hlk]
          have HOk : Hid (A ++ colF p (P.take k) r = A ++ (takenF p r (P.take k)).map fun x => (x, (r : Int))) := rfl
          have hst : Hid (St (nth P k)) := hxs.1
          have hx2 := hxs.2
          clear hca hxs
          generalize nth P k = x at *
          generalize takenF p r (P.take k) = T at *
          generalize A ++ colF p (P.take k) r = C at *
          have hTr : T.length ≤ Room := by unfold Room; omega
          obtain ⟨oT, cT, rfl⟩ := hT.shape
          cases h1 : hasc x (r : Int)
          · cases h2 : anyIns T x
            · cases h3 : p x (r : Int)
              · have HM : Hid (stepM p r T x = T) := by show stepM p r T x = T; unfold stepM; rw [h1, h2, h3]; rfl
                go_wp2_with (first | (go_at_call 119; refine Calls.mono (Ans.eqb (c_has _ _ hr64 _) h1) ?_; rintro e w1 ⟨rfl, hbn⟩; replace hT := hT.keep hbn; replace hP := hP.keep hbn; replace hO := hO.keep hbn; replace hb := bel_to (w := w) (by first | exact hb | exact hb.alloc hb.size _ | exact (hb.alloc hb.size _).alloc (Nat.le_trans hb.size (by simp)) _ | exact hb.setCell (by simp [hb.size]) _) hbn; clear hbn) | (go_at_call 189; refine Calls.mono (Ans.eqb (c_hasPart _ _ _ _ _ (hT.ints rfl hTr)) h2) ?_; rintro e w1 ⟨rfl, hbn⟩; replace hT := hT.keep hbn; replace hP := hP.keep hbn; replace hO := hO.keep hbn; replace hb := bel_to (w := w) (by first | exact hb | exact hb.alloc hb.size _ | exact (hb.alloc hb.size _).alloc (Nat.le_trans hb.size (by simp)) _ | exact hb.setCell (by simp [hb.size]) _) hbn; clear hbn) | (go_at_call 122; refine Calls.mono (Ans.eqb (HCL.out _ x (r : Int) hst.out hrN hx2 hb) h3) ?_; rintro e w1 ⟨rfl, hbn⟩; replace hT := hT.keep hbn; replace hP := hP.keep hbn; replace hO := hO.keep hbn; replace hb := bel_to (w := w) (by first | exact hb | exact hb.alloc hb.size _ | exact (hb.alloc hb.size _).alloc (Nat.le_trans hb.size (by simp)) _ | exact hb.setCell (by simp [hb.size]) _) hbn; clear hbn) | fail)
                go_roundw
                case rel => exact ⟨k + 1, by go_num, by omega, by rw [HTs.out, HM.out]; exact hT, by rw [HOs.out, HM.out, ← HOk.out]; exact hO, hP, ap_OT, ap_PO, ap_PT, hb⟩
                case measure => simp [intOf]; omega
              · have HM : Hid (stepM p r T x = T ++ [x]) := by show stepM p r T x = T ++ [x]; unfold stepM; rw [h1, h2, h3]; rfl
                have HOn : Hid (A ++ (T ++ [x]).map (fun x => (x, (r : Int))) = C ++ [(x, (r : Int))]) := by
                  show A ++ (T ++ [x]).map (fun x => (x, (r : Int))) = C ++ [(x, (r : Int))]
                  rw [HOk.out]; simp
                have hq : True := trivial
                go_wp2_with (first | (go_at_call 119; refine Calls.mono (Ans.eqb (c_has _ _ hr64 _) h1) ?_; rintro e w1 ⟨rfl, hbn⟩; replace hT := hT.keep hbn; replace hP := hP.keep hbn; replace hO := hO.keep hbn; replace hb := bel_to (w := w) (by first | exact hb | exact hb.alloc hb.size _ | exact (hb.alloc hb.size _).alloc (Nat.le_trans hb.size (by simp)) _ | exact hb.setCell (by simp [hb.size]) _) hbn; clear hbn) | (go_at_call 189; refine Calls.mono (Ans.eqb (c_hasPart _ _ _ _ _ (hT.ints rfl hTr)) h2) ?_; rintro e w1 ⟨rfl, hbn⟩; replace hT := hT.keep hbn; replace hP := hP.keep hbn; replace hO := hO.keep hbn; replace hb := bel_to (w := w) (by first | exact hb | exact hb.alloc hb.size _ | exact (hb.alloc hb.size _).alloc (Nat.le_trans hb.size (by simp)) _ | exact hb.setCell (by simp [hb.size]) _) hbn; clear hbn) | (go_at_call 122; refine Calls.mono (Ans.eqb (HCL.out _ x (r : Int) hst.out hrN hx2 hb) h3) ?_; rintro e w1 ⟨rfl, hbn⟩; replace hT := hT.keep hbn; replace hP := hP.keep hbn; replace hO := hO.keep hbn; replace hb := bel_to (w := w) (by first | exact hb | exact hb.alloc hb.size _ | exact (hb.alloc hb.size _).alloc (Nat.le_trans hb.size (by simp)) _ | exact hb.setCell (by simp [hb.size]) _) hbn; clear hbn) | (clear hq; at_builtin; refine wpList_append_fresh rfl _ _ 58 rfl w.heap.size 3 i0 (.int .i64 0) 1 8 Tryz.underlying58 hi hz0 hz1 hz2 rfl (by decide) _ _ _ rfl (World.ownsRow.alloc hT _) _ 1 1 [.int .i64 x] rfl rfl (by intro j u hj; match j, hj with | 0, hj => simp at hj; subst hj; simp [Addr.add]) (by intro u hu; simp at hu; subst hu; rfl) (by unfold maxLen; omega) (by omega) (by have := hb.size; simp; omega) ?_; intro v' w1 hown hgrow hfr; replace hb := (hb.alloc hb.size _).grown hgrow (by have := hb.size; simp; omega) (fun g hg => (World.ownsRow.lt hT g hg).1); obtain ⟨hP, ap_PT⟩ := OwnI.past hP hgrow ap_PT hfr; obtain ⟨hO, ap_OT⟩ := OwnD.past hO hgrow ap_OT hfr; replace hT := OwnI.snoc hown; clear hown hgrow hfr) | (at_builtin; refine wpList_append_fresh rfl _ _ 30 rfl w.heap.size 46 j0 (.agg #[.int .i64 0, .int .i64 0]) 2 16 Tryz.underlying30 hj hy0 hy1 hy2 rfl (by decide) _ _ _ rfl (World.ownsRow.alloc hO _) _ 1 1 [.int .i64 x, .int .i64 (r : Int)] rfl rfl (World.news_of_block (cs := #[.int .i64 x, .int .i64 (r : Int)]) (t := 46) (fr := (0, 0)) (heap_alloc_new _ _)) (by intro u hu; simp at hu; rcases hu with rfl | rfl <;> rfl) (by unfold maxLen; omega) (by omega) (by have := hb.size; simp; omega) ?_; intro v' w1 hown hgrow hfr; replace hb := (hb.alloc hb.size _).grown hgrow (by have := hb.size; simp; omega) (fun g hg => (World.ownsRow.lt hO g hg).1); obtain ⟨hP, ap_PO⟩ := OwnI.past hP hgrow ap_PO hfr; obtain ⟨hT, ap_TO⟩ := OwnI.past hT hgrow ap_OT.symm hfr; have ap_OT := ap_TO.symm; clear ap_TO; replace hO := own_snocD hown; clear hown hgrow hfr) | fail)
                go_roundw
                case rel => exact ⟨k + 1, by go_num, by omega, by rw [HTs.out, HM.out]; exact hT, by rw [HOs.out, HM.out, HOn.out]; exact hO, hP, ap_OT, ap_PO, ap_PT, hb⟩
                case measure => simp [intOf]; omega
            · have HM : Hid (stepM p r T x = T) := by show stepM p r T x = T; unfold stepM; rw [h1, h2]; rfl
              go_wp2_with (first | (go_at_call 119; refine Calls.mono (Ans.eqb (c_has _ _ hr64 _) h1) ?_; rintro e w1 ⟨rfl, hbn⟩; replace hT := hT.keep hbn; replace hP := hP.keep hbn; replace hO := hO.keep hbn; replace hb := bel_to (w := w) (by first | exact hb | exact hb.alloc hb.size _ | exact (hb.alloc hb.size _).alloc (Nat.le_trans hb.size (by simp)) _ | exact hb.setCell (by simp [hb.size]) _) hbn; clear hbn) | (go_at_call 189; refine Calls.mono (Ans.eqb (c_hasPart _ _ _ _ _ (hT.ints rfl hTr)) h2) ?_; rintro e w1 ⟨rfl, hbn⟩; replace hT := hT.keep hbn; replace hP := hP.keep hbn; replace hO := hO.keep hbn; replace hb := bel_to (w := w) (by first | exact hb | exact hb.alloc hb.size _ | exact (hb.alloc hb.size _).alloc (Nat.le_trans hb.size (by simp)) _ | exact hb.setCell (by simp [hb.size]) _) hbn; clear hbn) | (go_at_call 122; refine Calls.mono (Ans.eqb (HCL.out _ x (r : Int) hst.out hrN hx2 hb) h3) ?_; rintro e w1 ⟨rfl, hbn⟩; replace hT := hT.keep hbn; replace hP := hP.keep hbn; replace hO := hO.keep hbn; replace hb := bel_to (w := w) (by first | exact hb | exact hb.alloc hb.size _ | exact (hb.alloc hb.size _).alloc (Nat.le_trans hb.size (by simp)) _ | exact hb.setCell (by simp [hb.size]) _) hbn; clear hbn) | fail)
              go_roundw
              case rel => exact ⟨k + 1, by go_num, by omega, by rw [HTs.out, HM.out]; exact hT, by rw [HOs.out, HM.out, ← HOk.out]; exact hO, hP, ap_OT, ap_PO, ap_PT, hb⟩
              case measure => simp [intOf]; omega
          · have HM : Hid (stepM p r T x = T) := by show stepM p r T x = T; unfold stepM; rw [h1]; rfl
            go_wp2_with (first | (go_at_call 119; refine Calls.mono (Ans.eqb (c_has _ _ hr64 _) h1) ?_; rintro e w1 ⟨rfl, hbn⟩; replace hT := hT.keep hbn; replace hP := hP.keep hbn; replace hO := hO.keep hbn; replace hb := bel_to (w := w) (by first | exact hb | exact hb.alloc hb.size _ | exact (hb.alloc hb.size _).alloc (Nat.le_trans hb.size (by simp)) _ | exact hb.setCell (by simp [hb.size]) _) hbn; clear hbn) | (go_at_call 189; refine Calls.mono (Ans.eqb (c_hasPart _ _ _ _ _ (hT.ints rfl hTr)) h2) ?_; rintro e w1 ⟨rfl, hbn⟩; replace hT := hT.keep hbn; replace hP := hP.keep hbn; replace hO := hO.keep hbn; replace hb := bel_to (w := w) (by first | exact hb | exact hb.alloc hb.size _ | exact (hb.alloc hb.size _).alloc (Nat.le_trans hb.size (by simp)) _ | exact hb.setCell (by simp [hb.size]) _) hbn; clear hbn) | (go_at_call 122; refine Calls.mono (Ans.eqb (HCL.out _ x (r : Int) hst.out hrN hx2 hb) h3) ?_; rintro e w1 ⟨rfl, hbn⟩; replace hT := hT.keep hbn; replace hP := hP.keep hbn; replace hO := hO.keep hbn; replace hb := bel_to (w := w) (by first | exact hb | exact hb.alloc hb.size _ | exact (hb.alloc hb.size _).alloc (Nat.le_trans hb.size (by simp)) _ | exact hb.setCell (by simp [hb.size]) _) hbn; clear hbn) | fail)
            go_roundw
            case rel => exact ⟨k + 1, by go_num, by omega, by rw [HTs.out, HM.out]; exact hT, by rw [HOs.out, HM.out, ← HOk.out]; exact hO, hP, ap_OT, ap_PO, ap_PT, hb⟩
            case measure => simp [intOf]; omega
        · have hkk : k = P.length := by omega
          have HE : Hid (colsF p (partsF N) (r + 1) = A ++ colF p (P.take k) r) := by
            show colsF p (partsF N) (r + 1) = A ++ colF p (P.take k) r
            rw [HPP.out, HC.out, hkk, List.take_length]
          clear hkk
          go_wp2
          go_roundw
          case rel => exact ⟨r + 1, by go_num, by omega, by rw [HE.out]; exact hO, hb⟩
          case measure => simp [intOf]; omega
    · have hrr : r = N := by omega
      have HE : Hid (colsF p (partsF N) r = colsF p (partsF N) N) := by show colsF p (partsF N) r = colsF p (partsF N) N; rw [hrr]
      clear hrr
      go_wp2
      go_ret
      exact ⟨_, rfl, by rw [← HE.out]; exact hO, hb⟩
end Go.Proofs.YtjbmpnbfiahdhaaGreat
namespace Go.Proofs.YtjbmpnbfiahdhaaGreat
open Go.RowKit
set_option linter.unusedVariables false
set_option maxRecDepth 100000

def growOne (e x : Int) : List Int := if apart x e then (membersF e).map (fun c => uni x (one c)) else [x]
def grownF (L : List Int) (e : Int) : List Int := L.flatMap (growOne e)
def growOk (L : List Int) (e : Int) : Bool := (setsF L && decide (L.length ≤ 100)) && stB e
def growF (L : List Int) (e : Int) : List Int := if growOk L e then minF (distinctF (grownF L e)) else []
theorem growOne_len (e x : Int) : (growOne e x).length ≤ 5 := by
  unfold growOne
  split
  · rw [List.length_map]; exact members_len e
  · simp
theorem grown_succ {L : List Int} (e : Int) {k : Nat} (hk : k < L.length) : grownF (L.take (k + 1)) e = grownF (L.take k) e ++ growOne e (nth L k) := by
  unfold grownF
  rw [List.take_add_one, nth_eq hk, List.flatMap_append]
  simp
theorem grown_len (e : Int) : ∀ L : List Int, (grownF L e).length ≤ 5 * L.length
  | [] => by simp [grownF]
  | x :: L => by
    have h1 := growOne_len e x
    have h2 := grown_len e L
    have : grownF (x :: L) e = growOne e x ++ grownF L e := rfl
    rw [this, List.length_append, List.length_cons]
    omega
theorem growOne_st {e x : Int} (hx : St x) : ∀ y ∈ growOne e x, St y := by
  intro y hy
  unfold growOne at hy
  split at hy
  · obtain ⟨c, hc, rfl⟩ := List.mem_map.1 hy
    exact uni_st hx (one_st (members_co c hc).1)
  · simp at hy; subst hy; exact hx
theorem grown_st {L : List Int} {e : Int} (h : ∀ x ∈ L, St x) : ∀ y ∈ grownF L e, St y := by
  intro y hy
  obtain ⟨x, hx, hy⟩ := List.mem_flatMap.1 hy
  exact growOne_st (h x hx) y hy
theorem growF_len (L : List Int) (e : Int) : (growF L e).length ≤ Room := by
  unfold growF
  split
  · have := minF_len (distinctF (grownF L e)); unfold Room; omega
  · simp
theorem map_take_succ {f : Int → Int} {M : List Int} {j : Nat} (h : j < M.length) : (M.take (j + 1)).map f = (M.take j).map f ++ [f (nth M j)] := by
  rw [List.take_add_one, nth_eq h, List.map_append]; rfl

set_option maxHeartbeats 1600000 in
theorem c_GrowTransversals (oa) (cap : Nat) (L : List Int) (e : Int) (w : World) (hL : IntsAt w oa L) :
    Calls Tryz.prog 56 #[.slice oa L.length cap, .int .i64 e] w fun en w' => ∃ v, en = .returned v ∧ OwnI w' w.heap.size v (growF L e) ∧ Below w.heap.size w w' := by
  obtain ⟨i0, hi, hz0, hz1, hz2⟩ := info_parts info_int
  have hn : L.length ≤ 1073741824 := hL.len
  have hb := Below.refl w.heap.size w
  cases hs : (setsF L && decide (L.length ≤ 100))
  · have HM : Hid (growF L e = []) := by show growF L e = []; unfold growF growOk; rw [hs]; rfl
    go_enter Tryz.func56, Tryz.ntmps56
    go_wp2_with (first | (go_at_call 146; refine Calls.mono (Ans.eqb (c_areSets _ _ _ _ (hL.keep hb)) hs) ?_; rintro e w1 ⟨rfl, hbn⟩; replace hb := bel_to (w := w) (by first | exact hb | exact hb.alloc hb.size _ | exact (hb.alloc hb.size _).alloc (Nat.le_trans hb.size (by simp)) _ | exact hb.setCell (by simp [hb.size]) _) hbn; clear hbn))
    go_ret
    exact ⟨_, rfl, by rw [HM.out]; exact OwnI.nil _ _, hb⟩
  · cases he : stB e
    · have HM : Hid (growF L e = []) := by show growF L e = []; unfold growF growOk; rw [hs, he]; rfl
      go_enter Tryz.func56, Tryz.ntmps56
      go_wp2_with (first | (go_at_call 146; refine Calls.mono (Ans.eqb (c_areSets _ _ _ _ (hL.keep hb)) hs) ?_; rintro e w1 ⟨rfl, hbn⟩; replace hb := bel_to (w := w) (by first | exact hb | exact hb.alloc hb.size _ | exact (hb.alloc hb.size _).alloc (Nat.le_trans hb.size (by simp)) _ | exact hb.setCell (by simp [hb.size]) _) hbn; clear hbn) | (go_at_call 143; refine Calls.mono (Ans.eqb (c_isSet _ _) he) ?_; rintro e w1 ⟨rfl, hbn⟩; replace hb := bel_to (w := w) (by first | exact hb | exact hb.alloc hb.size _ | exact (hb.alloc hb.size _).alloc (Nat.le_trans hb.size (by simp)) _ | exact hb.setCell (by simp [hb.size]) _) hbn; clear hbn))
      go_ret
      exact ⟨_, rfl, by rw [HM.out]; exact OwnI.nil _ _, hb⟩
    · have hs' : setsF L = true ∧ L.length ≤ 100 := by simpa using hs
      have HM : Hid (growF L e = minF (distinctF (grownF L e))) := by show growF L e = _; unfold growF growOk; rw [hs, he]; rfl
      go_enter Tryz.func56, Tryz.ntmps56
      go_wp2_with (first | (go_at_call 146; refine Calls.mono (Ans.eqb (c_areSets _ _ _ _ (hL.keep hb)) hs) ?_; rintro e w1 ⟨rfl, hbn⟩; replace hb := bel_to (w := w) (by first | exact hb | exact hb.alloc hb.size _ | exact (hb.alloc hb.size _).alloc (Nat.le_trans hb.size (by simp)) _ | exact hb.setCell (by simp [hb.size]) _) hbn; clear hbn) | (go_at_call 143; refine Calls.mono (Ans.eqb (c_isSet _ _) he) ?_; rintro e w1 ⟨rfl, hbn⟩; replace hb := bel_to (w := w) (by first | exact hb | exact hb.alloc hb.size _ | exact (hb.alloc hb.size _).alloc (Nat.le_trans hb.size (by simp)) _ | exact hb.setCell (by simp [hb.size]) _) hbn; clear hbn))
      go_loopw [5, 21] (fun v i wr => ∃ k : Nat, i = .int .i64 k ∧ k ≤ L.length ∧ OwnI wr w.heap.size v (grownF (L.take k) e) ∧ Below w.heap.size w wr) (fun _ i _ => L.length - (intOf i).toNat)
      case atStart => exact ⟨0, rfl, Nat.zero_le _, by simpa [grownF] using (OwnI.empty _ _ (Nat.le_refl _)).based hb.size, hb.alloc hb.size _⟩
      case round =>
        clear hb
        obtain ⟨k, rfl, hk, hI, hb⟩ := hrel
        by_cases hlt : k < L.length
        · have HS : Hid (grownF (L.take (k + 1)) e = grownF (L.take k) e ++ growOne e (nth L k)) := grown_succ e hlt
          have hfl : (grownF (L.take k) e).length ≤ 500 := by
            have := grown_len e (L.take k)
            rw [List.length_take] at this
            omega
          obtain ⟨b, off, rfl, hbs, hc⟩ := hL.at_ (by omega)
          have hc1 := cell_keep (hc k hlt) hb
          clear hc
          generalize nth L k = x at *
          generalize grownF (L.take k) e = F at *
          cases hap : (bits BinOp.and .i64 x e == 0)
          · have hap2 : (bits BinOp.and .i64 x e != 0) = true := by rw [bneI, hap]; rfl
            have HG : Hid (growOne e x = [x]) := by show growOne e x = [x]; unfold growOne apart; rw [hap]; rfl
            go_wp2_with (first | (at_builtin; refine wpList_append_own _ rfl _ _ 58 rfl w.heap.size 3 i0 (.int .i64 0) 1 8 Tryz.underlying58 hi hz0 hz1 hz2 rfl (by decide) _ _ _ rfl (World.ownsRow.alloc hI _) _ 1 1 [.int .i64 (x)] rfl rfl (by intro j u hj; match j, hj with | 0, hj => simp at hj; subst hj; simp [Addr.add]) (by intro u hu; simp at hu; subst hu; rfl) (by unfold maxLen; omega) (by omega) (by have := hb.size; simp; omega) ?_; intro v' w1 hown hgrow _; replace hb := (hb.alloc hb.size _).grown hgrow (by have := hb.size; simp; omega) (fun g hg => (World.ownsRow.lt hI g hg).1); replace hI := OwnI.snoc hown; clear hown hgrow) | fail)
            go_roundw
            case rel => exact ⟨k + 1, by go_num, by omega, by rw [HS.out, HG.out]; exact hI, hb⟩
            case measure => simp [intOf]; omega
          · have hap2 : (bits BinOp.and .i64 x e != 0) = false := by rw [bneI, hap]; rfl
            have HG : Hid (growOne e x = (membersF e).map (fun c => uni x (one c))) := by show growOne e x = _; unfold growOne apart; rw [hap]; rfl
            have hml := members_len e
            have HC : Hid (∀ c ∈ membersF e, Co c) := fun c hc => (members_co c hc).1
            go_wp2_with fail
            have old := hI
            refine (c_Members _ _).mono ?_
            rintro en w1 ⟨v1, rfl, hM, hbn⟩
            have ap_hM := (apart_old old hM).symm
            replace hI := hI.keep hbn
            replace hM := hM.based hb.size
            replace hb := bel_to hb hbn
            clear old hbn hc1
            generalize membersF e = M at *
            obtain ⟨o1, c1, rfl⟩ := hM.shape
            go_wp2
            go_loopw [5, 36] (fun v i wr => ∃ j : Nat, i = .int .i64 j ∧ j ≤ M.length ∧ OwnI wr w.heap.size v (F ++ (M.take j).map (fun c => uni x (one c))) ∧ OwnI wr w.heap.size (.slice o1 M.length c1) M ∧ Apart (.slice o1 M.length c1) v ∧ Below w.heap.size w wr) (fun _ i _ => M.length - (intOf i).toNat)
            case atStart => exact ⟨0, rfl, Nat.zero_le _, by simpa using hI, hM, ap_hM, hb⟩
            case round =>
              clear hI hM ap_hM hb
              obtain ⟨j, rfl, hj, hI, hM, ap_hM, hb⟩ := hrel
              by_cases hlj : j < M.length
              · obtain ⟨b2, off2, rfl, hbs2, hca⟩ := (hM.ints rfl (by unfold Room; omega)).at_ (by omega)
                have hc2 := hca j hlj
                have HT : Hid ((M.take (j + 1)).map (fun c => uni x (one c)) = (M.take j).map (fun c => uni x (one c)) ++ [uni x (one (nth M j))]) := map_take_succ (f := fun c => uni x (one c)) hlj
                have hco := HC.out _ (List.mem_iff_getElem?.2 ⟨j, nth_eq hlj⟩)
                have hfl2 : (F ++ (M.take j).map (fun c => uni x (one c))).length ≤ 505 := by rw [List.length_append, List.length_map, List.length_take]; omega
                have HA : Hid (F ++ (M.take j).map (fun c => uni x (one c)) ++ [uni x (one (nth M j))] = F ++ (M.take (j + 1)).map (fun c => uni x (one c))) := by
                  show F ++ (M.take j).map (fun c => uni x (one c)) ++ [uni x (one (nth M j))] = F ++ (M.take (j + 1)).map (fun c => uni x (one c))
                  rw [HT.out, List.append_assoc]
                clear hca HT
                generalize nth M j = c at *
                generalize F ++ (M.take j).map (fun c => uni x (one c)) = F2 at *
                have hco1 := hco.1
                have hco2 := hco.2
                clear hco
                go_wp2_with (first | (at_builtin; refine wpList_append_fresh rfl _ _ 58 rfl w.heap.size 3 i0 (.int .i64 0) 1 8 Tryz.underlying58 hi hz0 hz1 hz2 rfl (by decide) _ _ _ rfl (World.ownsRow.alloc hI _) _ 1 1 [.int .i64 ((bits BinOp.or .i64 x (wrap64 (2 ^ c.toNat))))] rfl rfl (by intro j u hj; match j, hj with | 0, hj => simp at hj; subst hj; simp [Addr.add]) (by intro u hu; simp at hu; subst hu; rfl) (by unfold maxLen; omega) (by omega) (by have := hb.size; simp; omega) ?_; intro v' w1 hown hgrow hfr; replace hb := (hb.alloc hb.size _).grown hgrow (by have := hb.size; simp; omega) (fun g hg => (World.ownsRow.lt hI g hg).1); obtain ⟨hM, ap_hM⟩ := OwnI.past hM hgrow ap_hM hfr; replace hI := OwnI.snoc hown; clear hown hgrow hfr) | fail)
                go_roundw
                case rel => exact ⟨j + 1, by go_num, by omega, by rw [← HA.out]; exact hI, hM, ap_hM, hb⟩
                case measure => simp [intOf]; omega
              · have hjj : j = M.length := by omega
                have HA : Hid (F ++ (M.take j).map (fun c => uni x (one c)) = F ++ M.map (fun c => uni x (one c))) := by
                  show F ++ (M.take j).map (fun c => uni x (one c)) = F ++ M.map (fun c => uni x (one c))
                  rw [hjj, List.take_length]
                clear hjj
                go_wp2
                go_roundw
                case rel => exact ⟨k + 1, by go_num, by omega, by rw [HS.out, HG.out, ← HA.out]; exact hI, hb⟩
                case measure => simp [intOf]; omega
        · have hkk : k = L.length := by omega
          have HF : Hid (grownF (L.take k) e = grownF L e) := by show grownF (L.take k) e = grownF L e; rw [hkk, List.take_length]
          have hfl : (grownF (L.take k) e).length ≤ Room := by
            have := grown_len e (L.take k)
            rw [List.length_take] at this
            unfold Room; omega
          clear hkk
          obtain ⟨oF, cF, rfl, hcF, hnF⟩ := hI.cap
          go_wp2_with fail
          refine (c_distinct _ _ _ _ (hI.ints rfl hfl) hnF).mono ?_
          rintro en w1 ⟨v1, rfl, hD, hbn⟩
          replace hb := bel_to hb hbn
          obtain ⟨oD, cD, rfl, hcD, hnD⟩ := hD.cap
          have hdl : (distinctF (grownF (L.take k) e)).length ≤ Room := by
            have h1 := compact_le (sortI (grownF (L.take k) e))
            rw [sortI_length] at h1
            exact Nat.le_trans h1 hfl
          go_wp2_with fail
          refine (c_MinimalSets _ _ _ _ (hD.ints rfl hdl) hnD).mono ?_
          rintro en w2 ⟨v2, rfl, hR, hbn2⟩
          replace hR := hR.based hb.size
          replace hb := bel_to hb hbn2
          go_wp2
          go_ret
          exact ⟨_, rfl, by rw [HM.out, ← HF.out]; exact hR, hb⟩
end Go.Proofs.YtjbmpnbfiahdhaaGreat
namespace Go.Proofs.YtjbmpnbfiahdhaaGreat
open Go.RowKit
set_option linter.unusedVariables false
set_option maxRecDepth 100000

def minP (p : Int → Bool) (x : Int) : Bool := (List.range 32).all fun (y : Nat) => !(p y && ins y x) || ((y : Int) == x)
def minL (p : Int → Bool) : List Int := flt (fun x => p x && minP p x) 32
theorem minP_iff {p : Int → Bool} {x : Int} : minP p x = true ↔ ∀ y, St y → p y = true → ins y x = true → y = x := by
  unfold minP
  rw [List.all_eq_true]
  constructor
  · intro h y hy hp hi
    obtain ⟨n, hn, rfl⟩ := st_nat hy
    have := h n (List.mem_range.2 hn)
    rw [hp, hi] at this
    simpa using this
  · intro h n hn
    have hs : St (n : Int) := by have := List.mem_range.1 hn; unfold St; omega
    cases hp : p n
    · simp
    · cases hi : ins n x
      · simp
      · have := h n hs hp hi
        simp [this]
theorem minL_mem {p : Int → Bool} {x : Int} : x ∈ minL p ↔ St x ∧ p x = true ∧ ∀ y, St y → p y = true → ins y x = true → y = x := by
  unfold minL
  rw [flt_mem, Bool.and_eq_true, minP_iff]
  constructor
  · rintro ⟨h, h1, h2⟩; exact ⟨by unfold St; omega, h1, h2⟩
  · rintro ⟨h, h1, h2⟩; exact ⟨by unfold St at h; omega, h1, h2⟩
theorem exists_min {p : Int → Bool} : ∀ (k : Nat) (z : Int), card z ≤ k → St z → p z = true → ∃ x, x ∈ minL p ∧ ins x z = true
  | k, z, hk, hz, hp => by
    by_cases hm : minP p z = true
    · exact ⟨z, minL_mem.2 ⟨hz, hp, minP_iff.1 hm⟩, ins_refl hz⟩
    · have : ∃ y, St y ∧ p y = true ∧ ins y z = true ∧ y ≠ z := by
        refine Classical.byContradiction fun hn => hm (minP_iff.2 fun y hy h1 h2 => ?_)
        exact Classical.byContradiction fun hne => hn ⟨y, hy, h1, h2, hne⟩
      obtain ⟨y, hy, h1, h2, hne⟩ := this
      have hc := card_lt hy hz h2 hne
      match k, hk with
      | 0, hk => omega
      | k + 1, hk =>
        obtain ⟨x, hx, hxy⟩ := exists_min k y (by omega) hy h1
        exact ⟨x, hx, ins_trans (minL_mem.1 hx).1 hy hz hxy h2⟩
theorem minB_iff {G : List Int} {x : Int} : minB G x = true ↔ ∀ y ∈ G, ins y x = true → y = x := by
  unfold minB
  rw [List.all_eq_true]
  constructor
  · intro h y hy hi
    have := h y hy
    rw [hi] at this
    simp at this
    exact this.symm
  · intro h y hy
    cases hi : ins y x
    · simp
    · simp [h y hy hi]
/-- What lies in the family, and below all of it, has its minimal sets. -/
theorem minF_family {G : List Int} {p : Int → Bool} (hl : G.length ≤ 100) (h1 : ∀ x ∈ G, St x ∧ p x = true) (h2 : ∀ z, St z → p z = true → ∃ g ∈ G, ins g z = true) : minF G = minL p := by
  have hs : setsF G = true := List.all_eq_true.2 fun x hx => by simpa [stB] using (h1 x hx).1
  rw [minF_sets hs hl]
  refine up_ext (flt_up _ _) (flt_up _ _) fun x => ?_
  rw [flt_mem, minL_mem, Bool.and_eq_true, minB_iff]
  constructor
  · rintro ⟨_, hx, hm⟩
    have hx : x ∈ G := by simpa [inB'] using hx
    obtain ⟨sx, px⟩ := h1 x hx
    refine ⟨sx, px, fun y sy py hy => ?_⟩
    obtain ⟨g, hg, hgy⟩ := h2 y sy py
    have sg := (h1 g hg).1
    have e := hm g hg (ins_trans sg sy sx hgy hy)
    subst e
    exact ins_antisymm sy sx hy hgy
  · rintro ⟨sx, px, hm⟩
    obtain ⟨g, hg, hgx⟩ := h2 x sx px
    obtain ⟨sg, pg⟩ := h1 g hg
    have e := hm g sg pg hgx
    subst e
    exact ⟨by unfold St at sx; omega, by simpa [inB'] using hg, fun y hy hi => hm y (h1 y hy).1 (h1 y hy).2 hi⟩
theorem apart_iff {e x : Int} (he : St e) (hx : St x) : apart e x = false ↔ ∃ c, Co c ∧ hasc e c = true ∧ hasc x c = true := by
  obtain ⟨n, hn, rfl⟩ := st_nat he; obtain ⟨m, hm, rfl⟩ := st_nat hx
  have h : ∀ n < 32, ∀ m < 32, (apart ((n : Nat) : Int) ((m : Nat) : Int) = false ↔ ∃ c < 5, hasc (n : Nat) (c : Nat) = true ∧ hasc (m : Nat) (c : Nat) = true) := by decide +kernel
  rw [h n hn m hm]
  constructor
  · rintro ⟨c, hc, h⟩; exact ⟨c, by unfold Co; omega, h⟩
  · rintro ⟨c, hc, h⟩; obtain ⟨k, hk, rfl⟩ := co_nat hc; exact ⟨k, hk, h⟩
theorem apart_up {e x y : Int} (he : St e) (hx : St x) (hy : St y) (hi : ins x y = true) (h : apart e x = false) : apart e y = false := by
  obtain ⟨c, hc, h1, h2⟩ := (apart_iff he hx).1 h
  exact (apart_iff he hy).2 ⟨c, hc, h1, (ins_iff hx hy).1 hi c hc h2⟩
theorem apart_comm {e x : Int} (he : St e) (hx : St x) : apart e x = apart x e := by
  cases h : apart x e
  · obtain ⟨c, hc, h1, h2⟩ := (apart_iff hx he).1 h
    exact (apart_iff he hx).2 ⟨c, hc, h2, h1⟩
  · cases h' : apart e x
    · obtain ⟨c, hc, h1, h2⟩ := (apart_iff he hx).1 h'
      rw [(apart_iff hx he).2 ⟨c, hc, h2, h1⟩] at h; cases h
    · rfl
theorem membersT_mem {e c : Int} (he : St e) (hc : Co c) (h : hasc e c = true) : c ∈ membersF e := by
  unfold membersF
  rw [if_pos (by simpa [stB] using he)]
  obtain ⟨k, hk, rfl⟩ := co_nat hc
  unfold membersUpTo
  exact List.mem_filter.2 ⟨List.mem_map.2 ⟨k, List.mem_range.2 hk, rfl⟩, h⟩
def UpC (p : Int → Bool) : Prop := ∀ x y, St x → St y → ins x y = true → p x = true → p y = true
theorem growF_minL {p : Int → Bool} {e : Int} (he : St e) (hup : UpC p) : growF (minL p) e = minL (fun x => p x && !apart e x) := by
  have hmem : ∀ x ∈ minL p, St x := fun x hx => (minL_mem.1 hx).1
  have hlen : (minL p).length ≤ 32 := flt_le _ _
  have hok : growOk (minL p) e = true := by
    unfold growOk
    have h1 : setsF (minL p) = true := List.all_eq_true.2 fun x hx => by simpa [stB] using hmem x hx
    have h2 : stB e = true := by simpa [stB] using he
    rw [h1, h2]; simp; omega
  unfold growF
  rw [if_pos hok]
  have hg := grown_st (e := e) hmem
  have hdm : ∀ y, y ∈ distinctF (grownF (minL p) e) ↔ y ∈ grownF (minL p) e := (distinctF_up _).2
  refine minF_family ?_ ?_ ?_
  · rw [distinctF_flt hg]; exact Nat.le_trans (flt_le _ _) (by omega)
  · intro y hy
    rw [hdm] at hy
    refine ⟨hg y hy, ?_⟩
    obtain ⟨x, hx, hy'⟩ := List.mem_flatMap.1 hy
    obtain ⟨sx, px, _⟩ := minL_mem.1 hx
    unfold growOne at hy'
    split at hy'
    · obtain ⟨c, hc, rfl⟩ := List.mem_map.1 hy'
      obtain ⟨cc, ch⟩ := members_co c hc
      have su := uni_st sx (one_st cc)
      have h1 := hup x _ sx su (ins_uni_left sx (one_st cc)) px
      have h2 : apart e (uni x (one c)) = false := (apart_iff he su).2 ⟨c, cc, ch, by rw [hasc_uni sx (one_st cc) cc, hasc_one cc cc]; simp⟩
      rw [h1, h2]; rfl
    · next hna =>
      simp at hy'
      subst hy'
      have h2 : apart e y = false := by rw [apart_comm he sx]; simpa using hna
      rw [px, h2]; rfl
  · intro z sz pz
    have hpz : p z = true ∧ apart e z = false := by simpa using pz
    obtain ⟨x, hx, hxz⟩ := exists_min (p := p) (card z) z (Nat.le_refl _) sz hpz.1
    have sx := hmem x hx
    cases ha : apart x e
    · exact ⟨x, (hdm x).2 (List.mem_flatMap.2 ⟨x, hx, by unfold growOne; rw [ha]; simp⟩), hxz⟩
    · obtain ⟨c, cc, h1, h2⟩ := (apart_iff he sz).1 hpz.2
      refine ⟨uni x (one c), (hdm _).2 (List.mem_flatMap.2 ⟨x, hx, ?_⟩), uni_ins sx (one_st cc) sz hxz (one_ins cc sz h2)⟩
      unfold growOne
      rw [ha]
      exact List.mem_map.2 ⟨c, membersT_mem he cc h1, rfl⟩
theorem hitsF_up {L : List Int} (h : ∀ e ∈ L, St e) : UpC (hitsF L) := by
  intro x y sx sy hi hx
  unfold hitsF at hx ⊢
  rw [List.all_eq_true] at hx ⊢
  intro e he
  have := hx e he
  have h2 := apart_up (h e he) sx sy hi (by simpa using this)
  rw [h2]; rfl
theorem hits_snoc (L : List Int) (e : Int) : hitsF (L ++ [e]) = fun x => hitsF L x && !apart e x := by
  funext x
  unfold hitsF
  rw [List.all_append]
  simp
theorem minL_all : minL (hitsF []) = [0] := by decide +kernel
theorem grow_fold {L : List Int} (h : ∀ e ∈ L, St e) (k : Nat) (hk : k ≤ L.length) : (L.take k).foldl growF [0] = minL (hitsF (L.take k)) := by
  induction k with
  | zero => rw [List.take_zero, minL_all]; rfl
  | succ k ih =>
    have hlt : k < L.length := by omega
    have e1 : L.take (k + 1) = L.take k ++ [nth L k] := by rw [List.take_add_one, nth_eq hlt]; rfl
    rw [e1, List.foldl_append, ih (by omega), hits_snoc]
    exact growF_minL (h _ (List.mem_iff_getElem?.2 ⟨k, nth_eq hlt⟩)) (hitsF_up fun e he => h e (List.mem_of_mem_take he))
theorem low_nat : ∀ m < 6, ∀ q < 32, ∀ d < 32, (decide (((d : Nat) : Int) < 2 ^ ((m : Nat) : Int).toNat) && !apart ((d : Nat) : Int) ((q : Nat) : Int) && apart ((d : Nat) : Int) (cap ((q : Nat) : Int) (2 ^ ((m : Nat) : Int).toNat - 1))) = false := by decide +kernel
theorem low_part {n : Int} (h0 : 0 ≤ n) (h5 : n ≤ 5) {e z : Int} (sz : St z) (he1 : 0 ≤ e) (he2 : e < 2 ^ n.toNat) (ha : apart e z = false) : apart e (cap z (2 ^ n.toNat - 1)) = false := by
  obtain ⟨m, rfl⟩ := Int.eq_ofNat_of_zero_le h0
  obtain ⟨q, hq, rfl⟩ := st_nat sz
  obtain ⟨d, rfl⟩ := Int.eq_ofNat_of_zero_le he1
  have hm : m < 6 := by omega
  have h32 : ∀ m < 6, (2 : Int) ^ ((m : Nat) : Int).toNat ≤ 32 := by decide
  have hd : d < 32 := by have := h32 m hm; omega
  have h := low_nat m hm q hq d hd
  rw [ha, decide_eq_true he2] at h
  simpa using h
theorem low_ins {n : Int} (h0 : 0 ≤ n) (h5 : n ≤ 5) {z : Int} (sz : St z) : 0 ≤ cap z (2 ^ n.toNat - 1) ∧ cap z (2 ^ n.toNat - 1) < 2 ^ n.toNat ∧ ins (cap z (2 ^ n.toNat - 1)) z = true := by
  obtain ⟨m, rfl⟩ := Int.eq_ofNat_of_zero_le h0
  obtain ⟨q, hq, rfl⟩ := st_nat sz
  have h : ∀ m < 6, ∀ q < 32, (0 ≤ cap ((q : Nat) : Int) (2 ^ ((m : Nat) : Int).toNat - 1) ∧ cap ((q : Nat) : Int) (2 ^ ((m : Nat) : Int).toNat - 1) < 2 ^ ((m : Nat) : Int).toNat ∧ ins (cap ((q : Nat) : Int) (2 ^ ((m : Nat) : Int).toNat - 1)) ((q : Nat) : Int) = true) := by decide +kernel
  exact h m (by omega) q hq
def transOk (L : List Int) (n : Int) : Bool := decide (0 ≤ n) && decide (n ≤ 5) && decide (L.length ≤ 100) && L.all (isAttr n)
def transF (L : List Int) (n : Int) : List Int := if transOk L n then minF (flt (hitsF L) (2 ^ n.toNat)) else []
theorem trans_edges {L : List Int} {n : Int} (h : transOk L n = true) : 0 ≤ n ∧ n ≤ 5 ∧ L.length ≤ 100 ∧ ∀ e ∈ L, 0 ≤ e ∧ e < 2 ^ n.toNat := by
  unfold transOk at h
  simp only [Bool.and_eq_true, decide_eq_true_eq] at h
  refine ⟨h.1.1.1, h.1.1.2, h.1.2, fun e he => ?_⟩
  have := List.all_eq_true.1 h.2 e he
  unfold isAttr at this
  simp only [Bool.and_eq_true, decide_eq_true_eq] at this
  exact ⟨this.1.2, this.2⟩
theorem trans_st {L : List Int} {n : Int} (h : transOk L n = true) : ∀ e ∈ L, St e := by
  obtain ⟨h0, h5, _, he⟩ := trans_edges h
  intro e hm
  have := he e hm
  have h2 := (pow_wrap h0 h5).2.1
  exact ⟨this.1, by omega⟩
theorem transF_fold {L : List Int} {n : Int} (h : transOk L n = true) : transF L n = L.foldl growF [0] := by
  obtain ⟨h0, h5, hl, he⟩ := trans_edges h
  have hst := trans_st h
  have hp := pow_nat h0 h5
  have hf := grow_fold hst L.length (Nat.le_refl _)
  rw [List.take_length] at hf
  rw [hf]
  unfold transF
  rw [if_pos h]
  have hlen := flt_le (hitsF L) (2 ^ n.toNat)
  refine minF_family (by omega) (fun x hx => ?_) (fun z sz hz => ?_)
  · obtain ⟨⟨a, b⟩, c⟩ := flt_mem.1 hx
    exact ⟨⟨a, by have := hp.2.1; omega⟩, c⟩
  · obtain ⟨a, b, c⟩ := low_ins h0 h5 sz
    refine ⟨cap z (2 ^ n.toNat - 1), flt_mem.2 ⟨⟨a, by rw [hp.1]; exact b⟩, ?_⟩, c⟩
    unfold hitsF at hz ⊢
    rw [List.all_eq_true] at hz ⊢
    intro e hm
    have h1 := hz e hm
    rw [low_part h0 h5 sz (he e hm).1 (he e hm).2 (by simpa using h1)]; rfl
theorem transF_len (L : List Int) (n : Int) : (transF L n).length ≤ Room := by
  unfold transF
  split
  · have := minF_len (flt (hitsF L) (2 ^ n.toNat)); unfold Room; omega
  · simp
end Go.Proofs.YtjbmpnbfiahdhaaGreat
namespace Go.Proofs.YtjbmpnbfiahdhaaGreat
open Go.RowKit
set_option linter.unusedVariables false
set_option maxRecDepth 100000

theorem and_swap {x l : Int} (hx : St x) (hl : St l) : (bits BinOp.and .i64 x l == l) = ins l x := by
  obtain ⟨n, hn, rfl⟩ := st_nat hx; obtain ⟨m, hm, rfl⟩ := st_nat hl
  have h : ∀ n < 32, ∀ m < 32, (bits BinOp.and .i64 ((n : Nat) : Int) ((m : Nat) : Int) == ((m : Nat) : Int)) = ins (m : Nat) (n : Nat) := by decide +kernel
  exact h n hn m hm
set_option maxHeartbeats 1600000 in
theorem c_l6Pair (n : Int) (oa) (cap : Nat) (R : List (List Int)) (m l r : Int) (w : World) (hR : RowsAt w oa R) (ht : isTabF n R = true) (hsl : St l) (hcr : Co r) :
    Calls Tryz.prog 190 #[.agg #[.int .i64 n, .slice oa R.length cap], .int .i64 m, .agg #[.int .i64 l, .int .i64 r]] w fun e w' => (∃ x y : Int, e = .returned (.tuple #[.int .i64 x, .int .i64 y]) ∧ decide (x < 0) = holdsF R m l r) ∧ Below w.heap.size w w' := by
  have hb := bel2 w (.cells #[.int .i64 n, .slice oa R.length cap] 29) (.cells #[.int .i64 l, .int .i64 r] 46)
  have a0 := two_a w #[.int .i64 n, .slice oa R.length cap] 29 #[.int .i64 l, .int .i64 r] 46 0 _ rfl
  have a1 := two_a w #[.int .i64 n, .slice oa R.length cap] 29 #[.int .i64 l, .int .i64 r] 46 1 _ rfl
  have d0 := two_b w #[.int .i64 n, .slice oa R.length cap] 29 #[.int .i64 l, .int .i64 r] 46 0 _ rfl
  have d1 := two_b w #[.int .i64 n, .slice oa R.length cap] 29 #[.int .i64 l, .int .i64 r] 46 1 _ rfl
  obtain ⟨hn1, hn5, hr40, hlen⟩ := isTab_of ht
  have hr1 := hcr.1
  have hr2 := hcr.2
  have HT : Hid (isTabF n R = true) := ht
  have HL : Hid (∀ k, k < R.length → ((row R k).length : Int) = n) := hlen
  have HH : Hid ((∀ i, i < R.length → ∀ k, k < R.length → i < k → violF R m l r i k = false) → holdsF R m l r = true) := fun h => decide_eq_true h
  have HN : Hid (∀ i k, i < k → k < R.length → violF R m l r i k = true → holdsF R m l r = false) := fun i k h1 h2 h3 => holdsF_no h1 h2 h3
  have HSL : Hid (St l ∧ Co r) := ⟨hsl, hcr⟩
  clear ht hlen hcr hsl
  go_enter Tryz.func190, Tryz.ntmps190
  go_wp2
  go_loopw [8] (fun i wr => ∃ k : Nat, i = .int .i64 k ∧ k ≤ R.length ∧ (∀ i, i < k → ∀ k, k < R.length → i < k → violF R m l r i k = false) ∧ wr.cell? ⟨w.heap.size, 0, none⟩ = some (.int .i64 n) ∧ wr.cell? ⟨w.heap.size, 1, none⟩ = some (.slice oa R.length cap) ∧ wr.cell? ⟨w.heap.size + 1, 0, none⟩ = some (.int .i64 l) ∧ wr.cell? ⟨w.heap.size + 1, 1, none⟩ = some (.int .i64 r) ∧ Below w.heap.size w wr) (fun i _ => R.length - (intOf i).toNat)
  case atStart => exact ⟨0, rfl, Nat.zero_le _, fun i hi => absurd hi (by omega), a0, a1, d0, d1, hb⟩
  case round =>
    clear a0 a1 d0 d1 hb
    obtain ⟨i, rfl, hi, hall, a0, a1, d0, d1, hb⟩ := hrel
    have HA : Hid (∀ i', i' < i → ∀ k, k < R.length → i' < k → violF R m l r i' k = false) := hall
    clear hall
    by_cases hlt : i < R.length
    · go_wp2
      go_loopw [9] (fun i' wr => ∃ k : Nat, i' = .int .i64 k ∧ i < k ∧ k ≤ R.length ∧ (∀ k', k' < k → i < k' → violF R m l r i k' = false) ∧ wr.cell? ⟨w.heap.size, 0, none⟩ = some (.int .i64 n) ∧ wr.cell? ⟨w.heap.size, 1, none⟩ = some (.slice oa R.length cap) ∧ wr.cell? ⟨w.heap.size + 1, 0, none⟩ = some (.int .i64 l) ∧ wr.cell? ⟨w.heap.size + 1, 1, none⟩ = some (.int .i64 r) ∧ Below w.heap.size w wr) (fun i _ => R.length - (intOf i).toNat)
      case atStart => exact ⟨i + 1, by go_num, by omega, by omega, fun k' h1 h2 => absurd h1 (by omega), a0, a1, d0, d1, hb⟩
      case round =>
        clear a0 a1 d0 d1 hb
        obtain ⟨k, rfl, hik, hk, hall, a0, a1, d0, d1, hb⟩ := hrel
        have HI : Hid (∀ k', k' < k → i < k' → violF R m l r i k' = false) := hall
        clear hall
        by_cases hlk : k < R.length
        · have HV : Hid (violF R m l r i k = (ins l (agreeF m (row R i) (row R k)) && !hasc (agreeF m (row R i) (row R k)) r)) := rfl
          have HS : Hid (St (agreeF m (row R i) (row R k))) := agreeF_st (by have := HL.out i hlt; omega)
          go_wp2_with fail
          refine Calls.mono (c_l4Agree n _ _ _ m i k _ (hR.keep hb) HT.out hlt hlk) ?_
          rintro e w1 ⟨rfl, hbn⟩
          replace a0 := cell_keep a0 hbn
          replace a1 := cell_keep a1 hbn
          replace d0 := cell_keep d0 hbn
          replace d1 := cell_keep d1 hbn
          replace hb := bel_to hb hbn
          clear hbn
          generalize agreeF m (row R i) (row R k) = x at *
          cases h1 : ins l x
          · have h1' : (bits BinOp.and .i64 x l == l) = false := (and_swap HS.out HSL.out.1).trans h1
            go_wp2
            go_roundw
            case rel => exact ⟨k + 1, by go_num, by omega, by omega, lt_step (p := fun k' => i < k' → violF R m l r i k' = false) HI.out (fun _ => by rw [HV.out, h1]; rfl), a0, a1, d0, d1, hb⟩
            case measure => simp [intOf]; omega
          · have h1' : (bits BinOp.and .i64 x l == l) = true := (and_swap HS.out HSL.out.1).trans h1
            cases h2 : hasc x r
            · have h2' : (bits BinOp.and .i64 (x / 2 ^ r.toNat) 1 == 0) = true := (hasn_eq HS.out HSL.out.2).trans (by rw [h2]; rfl)
              go_wp2
              go_ret2
              exact ⟨⟨_, _, rfl, by rw [HN.out i k hik hlk (by rw [HV.out, h1, h2]; rfl)]; simp⟩, hb⟩
            · have h2' : (bits BinOp.and .i64 (x / 2 ^ r.toNat) 1 == 0) = false := (hasn_eq HS.out HSL.out.2).trans (by rw [h2]; rfl)
              go_wp2
              go_roundw
              case rel => exact ⟨k + 1, by go_num, by omega, by omega, lt_step (p := fun k' => i < k' → violF R m l r i k' = false) HI.out (fun _ => by rw [HV.out, h1, h2]; rfl), a0, a1, d0, d1, hb⟩
              case measure => simp [intOf]; omega
        · have HI2 : Hid (∀ k', k' < R.length → i < k' → violF R m l r i k' = false) := fun k' h1 h2 => HI.out k' (by omega) h2
          go_wp2
          go_roundw
          case rel => exact ⟨i + 1, by go_num, by omega, lt_step (p := fun i => ∀ k, k < R.length → i < k → violF R m l r i k = false) HA.out HI2.out, a0, a1, d0, d1, hb⟩
          case measure => simp [intOf]; omega
    · have HE : Hid (holdsF R m l r = true) := HH.out fun i' h1 => HA.out i' (by omega)
      go_wp2
      go_ret2
      exact ⟨⟨_, _, rfl, by rw [HE.out]; rfl⟩, hb⟩
theorem c_l7Holds (n : Int) (oa) (cap : Nat) (R : List (List Int)) (m l r : Int) (w : World) (hR : RowsAt w oa R) (ht : isTabF n R = true) (hsl : St l) (hcr : Co r) :
    Ans Tryz.prog 124 #[.agg #[.int .i64 n, .slice oa R.length cap], .int .i64 m, .agg #[.int .i64 l, .int .i64 r]] w (.bool (holdsF R m l r)) := by
  unfold Ans
  have hb := bel2 w (.cells #[.int .i64 n, .slice oa R.length cap] 29) (.cells #[.int .i64 l, .int .i64 r] 46)
  have hW := c_l6Pair n oa cap R m l r _ (hR.keep hb) ht hsl hcr
  go_enter Tryz.func124, Tryz.ntmps124
  go_wp2_with fail
  refine hW.mono ?_
  rintro e w1 ⟨⟨x, y, rfl, hx⟩, hbn⟩
  replace hb := bel_to hb hbn
  clear hbn
  go_wp2
  go_ret
  exact ⟨rfl, hb⟩
end Go.Proofs.YtjbmpnbfiahdhaaGreat
namespace Go.Proofs.YtjbmpnbfiahdhaaGreat
open Go.RowKit
set_option linter.unusedVariables false
set_option maxRecDepth 100000

def isMinF (n : Int) (R : List (List Int)) (m l r : Int) : Bool :=
  askF n R m l r && (holdsF R m l r && (!hasc l r && (membersF l).all fun c => !holdsF R m (dif l (one c)) r))
theorem dif_le {x c : Int} (hx : St x) (hc : Co c) : 0 ≤ dif x (one c) ∧ dif x (one c) ≤ x := by
  obtain ⟨n, hn, rfl⟩ := st_nat hx; obtain ⟨k, hk, rfl⟩ := co_nat hc
  have h : ∀ n < 32, ∀ k < 5, 0 ≤ dif ((n : Nat) : Int) (one ((k : Nat) : Int)) ∧ dif ((n : Nat) : Int) (one ((k : Nat) : Int)) ≤ ((n : Nat) : Int) := by decide +kernel
  exact h n hn k hk
theorem ask_less {n : Int} {R : List (List Int)} {m l r c : Int} (h : askF n R m l r = true) (hc : Co c) : askF n R m (dif l (one c)) r = true := by
  unfold askF at h ⊢
  simp only [Bool.and_eq_true] at h ⊢
  obtain ⟨⟨ht, hm⟩, hd⟩ := h
  obtain ⟨hl, hr⟩ := dep_of hd (isTab_of ht).2.1
  refine ⟨⟨ht, hm⟩, ?_⟩
  have h2 := dif_le hl hc
  unfold isDepF isAttr at hd ⊢
  simp only [Bool.and_eq_true, decide_eq_true_eq] at hd ⊢
  obtain ⟨⟨⟨a, ⟨⟨b, c'⟩, d⟩, e⟩, f⟩, g⟩ := hd
  exact ⟨⟨⟨a, ⟨⟨b, c'⟩, h2.1⟩, by omega⟩, f⟩, g⟩

set_option maxHeartbeats 800000 in
theorem c_IsMinimalDep (n : Int) (oa) (cap : Nat) (R : List (List Int)) (m l r : Int) (w : World) (hR : RowsAt w oa R) :
    Ans Tryz.prog 39 #[.agg #[.int .i64 n, .slice oa R.length cap], .int .i64 m, .agg #[.int .i64 l, .int .i64 r]] w (.bool (isMinF n R m l r)) := by
  unfold Ans
  have hb := bel2 w (.cells #[.int .i64 n, .slice oa R.length cap] 29) (.cells #[.int .i64 l, .int .i64 r] 46)
  have a0 := two_a w #[.int .i64 n, .slice oa R.length cap] 29 #[.int .i64 l, .int .i64 r] 46 0 _ rfl
  have a1 := two_a w #[.int .i64 n, .slice oa R.length cap] 29 #[.int .i64 l, .int .i64 r] 46 1 _ rfl
  have d0 := two_b w #[.int .i64 n, .slice oa R.length cap] 29 #[.int .i64 l, .int .i64 r] 46 0 _ rfl
  have d1 := two_b w #[.int .i64 n, .slice oa R.length cap] 29 #[.int .i64 l, .int .i64 r] 46 1 _ rfl
  cases hh : (askF n R m l r && holdsF R m l r)
  · have HM : Hid (isMinF n R m l r = false) := by show isMinF n R m l r = false; unfold isMinF; rw [← Bool.and_assoc, hh]; rfl
    go_enter Tryz.func39, Tryz.ntmps39
    go_wp2_with (first | (go_at_call 41; refine Calls.mono (Ans.eqb (c_HoldsDep _ _ _ _ _ _ _ _ (hR.keep hb)) hh) ?_; rintro e w1 ⟨rfl, hbn⟩; replace a0 := cell_keep a0 hbn; replace a1 := cell_keep a1 hbn; replace d0 := cell_keep d0 hbn; replace d1 := cell_keep d1 hbn; replace hb := bel_to (w := w) (by first | exact hb | exact hb.alloc hb.size _ | exact (hb.alloc hb.size _).alloc (Nat.le_trans hb.size (by simp)) _ | exact hb.setCell (by simp [hb.size]) _) hbn; clear hbn))
    go_ret
    exact ⟨ret_bool HM.out.symm, hb⟩
  have hh2 : askF n R m l r = true ∧ holdsF R m l r = true := by simpa using hh
  have hdep : St l ∧ Co r := by
    have h := hh2.1
    unfold askF at h
    simp only [Bool.and_eq_true] at h
    exact dep_of h.2 (isTab_of h.1.1).2.1
  have hr64 : 0 ≤ r ∧ r < 64 := ⟨hdep.2.1, by have := hdep.2.2; omega⟩
  have HK : Hid (∀ c, Co c → askF n R m (dif l (one c)) r = true) := fun c hc => ask_less hh2.1 hc
  have HD : Hid (St l ∧ Co r) := hdep
  clear hdep
  cases hlr : hasc l r
  case true =>
    have HM : Hid (isMinF n R m l r = false) := by show isMinF n R m l r = false; unfold isMinF; rw [hlr]; simp
    go_enter Tryz.func39, Tryz.ntmps39
    go_wp2_with (first | (go_at_call 41; refine Calls.mono (Ans.eqb (c_HoldsDep _ _ _ _ _ _ _ _ (hR.keep hb)) hh) ?_; rintro e w1 ⟨rfl, hbn⟩; replace a0 := cell_keep a0 hbn; replace a1 := cell_keep a1 hbn; replace d0 := cell_keep d0 hbn; replace d1 := cell_keep d1 hbn; replace hb := bel_to (w := w) (by first | exact hb | exact hb.alloc hb.size _ | exact (hb.alloc hb.size _).alloc (Nat.le_trans hb.size (by simp)) _ | exact hb.setCell (by simp [hb.size]) _) hbn; clear hbn) | (go_at_call 119; refine Calls.mono (Ans.eqb (c_has _ _ hr64 _) hlr) ?_; rintro e w1 ⟨rfl, hbn⟩; replace a0 := cell_keep a0 hbn; replace a1 := cell_keep a1 hbn; replace d0 := cell_keep d0 hbn; replace d1 := cell_keep d1 hbn; replace hb := bel_to (w := w) (by first | exact hb | exact hb.alloc hb.size _ | exact (hb.alloc hb.size _).alloc (Nat.le_trans hb.size (by simp)) _ | exact hb.setCell (by simp [hb.size]) _) hbn; clear hbn))
    go_ret
    exact ⟨ret_bool HM.out.symm, hb⟩
  have HM : Hid (isMinF n R m l r = (membersF l).all fun c => !holdsF R m (dif l (one c)) r) := by show isMinF n R m l r = _; unfold isMinF; rw [hh2.1, hh2.2, hlr]; rfl
  have HC : Hid (∀ c ∈ membersF l, Co c) := fun c hc => (members_co c hc).1
  have hml := members_len l
  clear hh2
  go_enter Tryz.func39, Tryz.ntmps39
  go_wp2_with (first | (go_at_call 41; refine Calls.mono (Ans.eqb (c_HoldsDep _ _ _ _ _ _ _ _ (hR.keep hb)) hh) ?_; rintro e w1 ⟨rfl, hbn⟩; replace a0 := cell_keep a0 hbn; replace a1 := cell_keep a1 hbn; replace d0 := cell_keep d0 hbn; replace d1 := cell_keep d1 hbn; replace hb := bel_to (w := w) (by first | exact hb | exact hb.alloc hb.size _ | exact (hb.alloc hb.size _).alloc (Nat.le_trans hb.size (by simp)) _ | exact hb.setCell (by simp [hb.size]) _) hbn; clear hbn) | (go_at_call 119; refine Calls.mono (Ans.eqb (c_has _ _ hr64 _) hlr) ?_; rintro e w1 ⟨rfl, hbn⟩; replace a0 := cell_keep a0 hbn; replace a1 := cell_keep a1 hbn; replace d0 := cell_keep d0 hbn; replace d1 := cell_keep d1 hbn; replace hb := bel_to (w := w) (by first | exact hb | exact hb.alloc hb.size _ | exact (hb.alloc hb.size _).alloc (Nat.le_trans hb.size (by simp)) _ | exact hb.setCell (by simp [hb.size]) _) hbn; clear hbn))
  refine (c_Members _ _).mono ?_
  rintro e w1 ⟨v1, rfl, hM, hbn⟩
  replace a0 := cell_keep a0 hbn
  replace a1 := cell_keep a1 hbn
  replace d0 := cell_keep d0 hbn
  replace d1 := cell_keep d1 hbn
  replace hb := bel_to hb hbn
  generalize membersF l = M at *
  obtain ⟨oM, cM, hvM, hcM⟩ := owns_cells hM
  subst hvM
  have hMl : M.length ≤ Room := by unfold Room; omega
  obtain ⟨oM', cM', hvM', hL⟩ := hM.reads hMl
  simp only [Value.slice.injEq] at hvM'
  obtain ⟨rfl, _, rfl⟩ := hvM'
  clear hbn hM hcM
  go_wp2
  go_loopw [25] (fun i wr => ∃ k : Nat, i = .int .i64 k ∧ k ≤ M.length ∧ (M.take k).all (fun c => !holdsF R m (dif l (one c)) r) = true ∧ IntsAt wr oM M ∧ wr.cell? ⟨w.heap.size, 0, none⟩ = some (.int .i64 n) ∧ wr.cell? ⟨w.heap.size, 1, none⟩ = some (.slice oa R.length cap) ∧ wr.cell? ⟨w.heap.size + 1, 0, none⟩ = some (.int .i64 l) ∧ wr.cell? ⟨w.heap.size + 1, 1, none⟩ = some (.int .i64 r) ∧ Below w.heap.size w wr) (fun i _ => M.length - (intOf i).toNat)
  case atStart => exact ⟨0, rfl, Nat.zero_le _, by simp, hL, a0, a1, d0, d1, hb⟩
  case round =>
    clear a0 a1 d0 d1 hb hL
    obtain ⟨k, rfl, hk, hall, hL, a0, a1, d0, d1, hb⟩ := hrel
    have HA : Hid ((M.take k).all (fun c => !holdsF R m (dif l (one c)) r) = true) := hall
    clear hall
    by_cases hlt : k < M.length
    · obtain ⟨b, off, rfl, hbs, hca⟩ := hL.at_ (by omega)
      have hc1 := hca k hlt
      have hco := HC.out _ (List.mem_iff_getElem?.2 ⟨k, nth_eq hlt⟩)
      have HT : Hid ((M.take (k + 1)).all (fun c => !holdsF R m (dif l (one c)) r) = ((M.take k).all (fun c => !holdsF R m (dif l (one c)) r) && !holdsF R m (dif l (one (nth M k))) r)) := all_take_succ (fun c => !holdsF R m (dif l (one c)) r) M k hlt
      have HF : Hid ((!holdsF R m (dif l (one (nth M k))) r) = false → M.all (fun c => !holdsF R m (dif l (one c)) r) = false) := all_false (fun c => !holdsF R m (dif l (one c)) r) M k hlt
      clear hca
      generalize nth M k = c at *
      have hco1 := hco.1
      have hco2 := hco.2
      have HKc : Hid (askF n R m (dif l (one c)) r = true) := HK.out c hco
      have hx := fun (x : After wr) => (hR.keep hb).keep x.bel
      clear hco
      cases hy : holdsF R m (dif l (one c)) r
      · go_wp2_with fail
        (refine wp_region_after (by kernel_rfl) (by kernel_rfl) ?_; have q_a0 := fun (x : After _) => cell_keep a0 x.bel; have q_a1 := fun (x : After _) => cell_keep a1 x.bel; have q_d0 := fun (x : After _) => cell_keep d0 x.bel; have q_d1 := fun (x : After _) => cell_keep d1 x.bel; have q_hc1 := fun (x : After _) => cell_keep hc1 x.bel; (repeat (go_big_quiet_step ((first | (go_at_call 41; exact Ans.after (Ans.eqb (b' := false) (c_HoldsDep n _ _ R m (dif l (one c)) r _ (hx _)) (by rw [HKc.out, hy]; rfl))))))); clear q_a0; clear q_a1; clear q_d0; clear q_d1; clear q_hc1; refine wpQuiet_nil ?_; rintro _ ⟨⟨w1, hbn⟩, rfl⟩; (try simp only [After.w]); replace a0 := cell_keep a0 hbn; replace a1 := cell_keep a1 hbn; replace d0 := cell_keep d0 hbn; replace d1 := cell_keep d1 hbn; replace hc1 := cell_keep hc1 hbn; replace hL := hL.keep hbn; replace hb := bel_to (w := w) (by first | exact hb | exact hb.alloc hb.size _ | exact (hb.alloc hb.size _).alloc (Nat.le_trans hb.size (by simp)) _ | exact hb.setCell (by simp [hb.size]) _) hbn; clear hbn)
        go_wp2
        go_roundw
        case rel => exact ⟨k + 1, by go_num, by omega, by rw [HT.out, HA.out, hy]; rfl, hL, a0, a1, d0, d1, hb⟩
        case measure => simp [intOf]; omega
      · go_wp2_with fail
        (refine wp_region_after (by kernel_rfl) (by kernel_rfl) ?_; have q_a0 := fun (x : After _) => cell_keep a0 x.bel; have q_a1 := fun (x : After _) => cell_keep a1 x.bel; have q_d0 := fun (x : After _) => cell_keep d0 x.bel; have q_d1 := fun (x : After _) => cell_keep d1 x.bel; have q_hc1 := fun (x : After _) => cell_keep hc1 x.bel; (repeat (go_big_quiet_step ((first | (go_at_call 41; exact Ans.after (Ans.eqb (b' := true) (c_HoldsDep n _ _ R m (dif l (one c)) r _ (hx _)) (by rw [HKc.out, hy]; rfl))))))); clear q_a0; clear q_a1; clear q_d0; clear q_d1; clear q_hc1; refine wpQuiet_nil ?_; rintro _ ⟨⟨w1, hbn⟩, rfl⟩; (try simp only [After.w]); replace a0 := cell_keep a0 hbn; replace a1 := cell_keep a1 hbn; replace d0 := cell_keep d0 hbn; replace d1 := cell_keep d1 hbn; replace hc1 := cell_keep hc1 hbn; replace hL := hL.keep hbn; replace hb := bel_to (w := w) (by first | exact hb | exact hb.alloc hb.size _ | exact (hb.alloc hb.size _).alloc (Nat.le_trans hb.size (by simp)) _ | exact hb.setCell (by simp [hb.size]) _) hbn; clear hbn)
        go_wp2
        go_ret
        exact ⟨ret_bool (by rw [HM.out, HF.out (by rw [hy]; rfl)]), hb⟩
    · have hkk : k = M.length := by omega
      have HS : Hid (M.all (fun c => !holdsF R m (dif l (one c)) r) = true) := by have := HA.out; rw [hkk, List.take_length] at this; exact this
      clear hkk
      go_wp2
      go_ret
      exact ⟨ret_bool (by rw [HM.out, HS.out]), hb⟩
end Go.Proofs.YtjbmpnbfiahdhaaGreat
namespace Go.Proofs.YtjbmpnbfiahdhaaGreat
open Go.RowKit
set_option linter.unusedVariables false
set_option maxRecDepth 100000

/-- what l7Minimal says -/
def l7F (n : Int) (R : List (List Int)) (m l r : Int) : Bool := !hasc l r && (holdsF R m l r && (membersUpTo l n.toNat).all fun c => !holdsF R m (dif l (one c)) r)
theorem members_below {n l : Int} (h0 : 0 ≤ n) (h5 : n ≤ 5) (hl : 0 ≤ l) (hn : l < 2 ^ n.toNat) : membersUpTo l n.toNat = membersF l := by
  obtain ⟨k, rfl⟩ := Int.eq_ofNat_of_zero_le h0
  obtain ⟨x, rfl⟩ := Int.eq_ofNat_of_zero_le hl
  have hk : k < 6 := by omega
  have h32 : ∀ m < 6, (2 : Int) ^ ((m : Nat) : Int).toNat ≤ 32 := by decide
  have hx : x < 32 := by have := h32 k hk; omega
  have h : ∀ k < 6, ∀ x < 32, ((x : Nat) : Int) < 2 ^ ((k : Nat) : Int).toNat → membersUpTo ((x : Nat) : Int) ((k : Nat) : Int).toNat = membersF ((x : Nat) : Int) := by decide +kernel
  exact h k hk x hx hn
theorem isMin_l7 {n : Int} {R : List (List Int)} {m l r : Int} (h : askF n R m l r = true) : isMinF n R m l r = l7F n R m l r := by
  have h' := h
  unfold askF at h'
  simp only [Bool.and_eq_true] at h'
  have h5 := (isTab_of h'.1.1).2.1
  have hd := h'.2
  unfold isDepF isAttr at hd
  simp only [Bool.and_eq_true, decide_eq_true_eq] at hd
  unfold isMinF l7F
  rw [h, members_below (by omega) h5 hd.1.1.2.1.2 hd.1.1.2.2]
  cases hasc l r <;> cases holdsF R m l r <;> rfl
set_option maxHeartbeats 1600000 in
theorem c_l7Minimal (n : Int) (oa) (cap : Nat) (R : List (List Int)) (m l r : Int) (w : World) (hR : RowsAt w oa R) (ht : isTabF n R = true) (hsl : St l) (hcr : Co r) :
    Ans Tryz.prog 109 #[.agg #[.int .i64 n, .slice oa R.length cap], .int .i64 m, .agg #[.int .i64 l, .int .i64 r]] w (.bool (l7F n R m l r)) := by
  unfold Ans
  have hb := bel2 w (.cells #[.int .i64 n, .slice oa R.length cap] 29) (.cells #[.int .i64 l, .int .i64 r] 46)
  have a0 := two_a w #[.int .i64 n, .slice oa R.length cap] 29 #[.int .i64 l, .int .i64 r] 46 0 _ rfl
  have a1 := two_a w #[.int .i64 n, .slice oa R.length cap] 29 #[.int .i64 l, .int .i64 r] 46 1 _ rfl
  have d0 := two_b w #[.int .i64 n, .slice oa R.length cap] 29 #[.int .i64 l, .int .i64 r] 46 0 _ rfl
  have d1 := two_b w #[.int .i64 n, .slice oa R.length cap] 29 #[.int .i64 l, .int .i64 r] 46 1 _ rfl
  obtain ⟨hn1, hn5, hr40, _⟩ := isTab_of ht
  have hr1 := hcr.1
  have hr2 := hcr.2
  have HH : Hid (∀ (w' : World) (l' : Int), St l' → RowsAt w' oa R → Ans Tryz.prog 124 #[.agg #[.int .i64 n, .slice oa R.length cap], .int .i64 m, .agg #[.int .i64 l', .int .i64 r]] w' (.bool (holdsF R m l' r))) := fun w' l' hl' h => c_l7Holds n oa cap R m l' r w' h ht hl' hcr
  have HSL : Hid (St l) := hsl
  clear ht hcr hsl
  cases hlr : hasc l r
  case true =>
    have hlr2 : (bits BinOp.and IntKind.i64 (l / 2 ^ r.toNat) 1 == 1) = true := hlr
    have HM : Hid (l7F n R m l r = false) := by show l7F n R m l r = false; unfold l7F; rw [hlr]; rfl
    go_enter Tryz.func109, Tryz.ntmps109
    go_wp2
    go_ret
    exact ⟨ret_bool HM.out.symm, hb⟩
  have hlr2 : (bits BinOp.and IntKind.i64 (l / 2 ^ r.toNat) 1 == 1) = false := hlr
  cases hh : holdsF R m l r
  case false =>
    have HM : Hid (l7F n R m l r = false) := by show l7F n R m l r = false; unfold l7F; rw [hlr, hh]; rfl
    go_enter Tryz.func109, Tryz.ntmps109
    go_wp2_with (first | (go_at_call 124; refine Calls.mono (Ans.eqb (HH.out _ l HSL.out (hR.keep hb)) hh) ?_; rintro e w1 ⟨rfl, hbn⟩; replace a0 := cell_keep a0 hbn; replace a1 := cell_keep a1 hbn; replace d0 := cell_keep d0 hbn; replace d1 := cell_keep d1 hbn; replace hb := bel_to (w := w) (by first | exact hb | exact hb.alloc hb.size _ | exact (hb.alloc hb.size _).alloc (Nat.le_trans hb.size (by simp)) _ | exact hb.setCell (by simp [hb.size]) _) hbn; clear hbn))
    go_ret
    exact ⟨ret_bool HM.out.symm, hb⟩
  have HM : Hid (l7F n R m l r = (membersUpTo l n.toNat).all fun c => !holdsF R m (dif l (one c)) r) := by show l7F n R m l r = _; unfold l7F; rw [hlr, hh]; rfl
  obtain ⟨N, rfl⟩ := Int.eq_ofNat_of_zero_le (show 0 ≤ n by omega)
  go_enter Tryz.func109, Tryz.ntmps109
  go_wp2_with (first | (go_at_call 124; refine Calls.mono (Ans.eqb (HH.out _ l HSL.out (hR.keep hb)) hh) ?_; rintro e w1 ⟨rfl, hbn⟩; replace a0 := cell_keep a0 hbn; replace a1 := cell_keep a1 hbn; replace d0 := cell_keep d0 hbn; replace d1 := cell_keep d1 hbn; replace hb := bel_to (w := w) (by first | exact hb | exact hb.alloc hb.size _ | exact (hb.alloc hb.size _).alloc (Nat.le_trans hb.size (by simp)) _ | exact hb.setCell (by simp [hb.size]) _) hbn; clear hbn))
  go_loopw [7] (fun i wr => ∃ k : Nat, i = .int .i64 k ∧ k ≤ N ∧ (membersUpTo l k).all (fun c => !holdsF R m (dif l (one c)) r) = true ∧ wr.cell? ⟨w.heap.size, 0, none⟩ = some (.int .i64 N) ∧ wr.cell? ⟨w.heap.size, 1, none⟩ = some (.slice oa R.length cap) ∧ wr.cell? ⟨w.heap.size + 1, 0, none⟩ = some (.int .i64 l) ∧ wr.cell? ⟨w.heap.size + 1, 1, none⟩ = some (.int .i64 r) ∧ Below w.heap.size w wr) (fun i _ => N - (intOf i).toNat)
  case atStart => exact ⟨0, rfl, Nat.zero_le _, by simp [membersUpTo], a0, a1, d0, d1, hb⟩
  case round =>
    clear a0 a1 d0 d1 hb
    obtain ⟨k, rfl, hk, hall, a0, a1, d0, d1, hb⟩ := hrel
    have HA : Hid ((membersUpTo l k).all (fun c => !holdsF R m (dif l (one c)) r) = true) := hall
    clear hall
    by_cases hlt : k < N
    · have HT : Hid ((membersUpTo l (k + 1)) = membersUpTo l k ++ (if hasc l k then [(k : Int)] else [])) := membersUpTo_succ l k
      have hco : Co (k : Int) := ⟨by omega, by omega⟩
      have HSD : Hid (St (dif l (one (k : Int)))) := dif_st HSL.out (one_st hco)
      have hx := fun (x : After wr) => (hR.keep hb).keep x.bel
      clear hco
      cases hkc : hasc l (k : Int)
      · have hk2 : (bits BinOp.and IntKind.i64 (l / 2 ^ k) 1 == 1) = false := hkc
        go_wp2_with fail
        (refine wp_region_after (by kernel_rfl) (by kernel_rfl) ?_; have q_a0 := fun (x : After _) => cell_keep a0 x.bel; have q_a1 := fun (x : After _) => cell_keep a1 x.bel; have q_d0 := fun (x : After _) => cell_keep d0 x.bel; have q_d1 := fun (x : After _) => cell_keep d1 x.bel; (repeat (go_big_quiet_step (fail))); clear q_a0; clear q_a1; clear q_d0; clear q_d1; refine wpQuiet_nil ?_; rintro _ ⟨⟨w1, hbn⟩, rfl⟩; (try simp only [After.w]); replace a0 := cell_keep a0 hbn; replace a1 := cell_keep a1 hbn; replace d0 := cell_keep d0 hbn; replace d1 := cell_keep d1 hbn; replace hb := bel_to (w := w) (by first | exact hb | exact hb.alloc hb.size _ | exact (hb.alloc hb.size _).alloc (Nat.le_trans hb.size (by simp)) _ | exact hb.setCell (by simp [hb.size]) _) hbn; clear hbn)
        go_wp2
        go_roundw
        case rel => exact ⟨k + 1, by go_num, by omega, by rw [HT.out, hkc]; simpa using HA.out, a0, a1, d0, d1, hb⟩
        case measure => simp [intOf]; omega
      · have hk2 : (bits BinOp.and IntKind.i64 (l / 2 ^ k) 1 == 1) = true := hkc
        cases hy : holdsF R m (dif l (one (k : Int))) r
        · go_wp2_with fail
          (refine wp_region_after (by kernel_rfl) (by kernel_rfl) ?_; have q_a0 := fun (x : After _) => cell_keep a0 x.bel; have q_a1 := fun (x : After _) => cell_keep a1 x.bel; have q_d0 := fun (x : After _) => cell_keep d0 x.bel; have q_d1 := fun (x : After _) => cell_keep d1 x.bel; (repeat (go_big_quiet_step ((first | (go_at_call 124; exact Ans.after (Ans.eqb (b' := false) (HH.out _ (dif l (one (k : Int))) HSD.out (hx _)) hy)))))); clear q_a0; clear q_a1; clear q_d0; clear q_d1; refine wpQuiet_nil ?_; rintro _ ⟨⟨w1, hbn⟩, rfl⟩; (try simp only [After.w]); replace a0 := cell_keep a0 hbn; replace a1 := cell_keep a1 hbn; replace d0 := cell_keep d0 hbn; replace d1 := cell_keep d1 hbn; replace hb := bel_to (w := w) (by first | exact hb | exact hb.alloc hb.size _ | exact (hb.alloc hb.size _).alloc (Nat.le_trans hb.size (by simp)) _ | exact hb.setCell (by simp [hb.size]) _) hbn; clear hbn)
          go_wp2
          go_roundw
          case rel => exact ⟨k + 1, by go_num, by omega, by rw [HT.out, hkc, List.all_append, HA.out]; simp [hy], a0, a1, d0, d1, hb⟩
          case measure => simp [intOf]; omega
        · have HF : Hid ((membersUpTo l N).all (fun c => !holdsF R m (dif l (one c)) r) = false) := by
            show (membersUpTo l N).all (fun c => !holdsF R m (dif l (one c)) r) = false
            rw [List.all_eq_false]
            refine ⟨(k : Int), ?_, by simp [hy]⟩
            unfold membersUpTo
            exact List.mem_filter.2 ⟨List.mem_map.2 ⟨k, List.mem_range.2 hlt, rfl⟩, hkc⟩
          go_wp2_with fail
          (refine wp_region_after (by kernel_rfl) (by kernel_rfl) ?_; have q_a0 := fun (x : After _) => cell_keep a0 x.bel; have q_a1 := fun (x : After _) => cell_keep a1 x.bel; have q_d0 := fun (x : After _) => cell_keep d0 x.bel; have q_d1 := fun (x : After _) => cell_keep d1 x.bel; (repeat (go_big_quiet_step ((first | (go_at_call 124; exact Ans.after (Ans.eqb (b' := true) (HH.out _ (dif l (one (k : Int))) HSD.out (hx _)) hy)))))); clear q_a0; clear q_a1; clear q_d0; clear q_d1; refine wpQuiet_nil ?_; rintro _ ⟨⟨w1, hbn⟩, rfl⟩; (try simp only [After.w]); replace a0 := cell_keep a0 hbn; replace a1 := cell_keep a1 hbn; replace d0 := cell_keep d0 hbn; replace d1 := cell_keep d1 hbn; replace hb := bel_to (w := w) (by first | exact hb | exact hb.alloc hb.size _ | exact (hb.alloc hb.size _).alloc (Nat.le_trans hb.size (by simp)) _ | exact hb.setCell (by simp [hb.size]) _) hbn; clear hbn)
          go_wp2
          go_ret
          exact ⟨ret_bool (by rw [HM.out]; exact HF.out.symm), hb⟩
    · have hkk : k = N := by omega
      have HS : Hid ((membersUpTo l N).all (fun c => !holdsF R m (dif l (one c)) r) = true) := by have := HA.out; rw [hkk] at this; exact this
      clear hkk
      go_wp2
      go_ret
      exact ⟨ret_bool (by rw [HM.out]; exact HS.out.symm), hb⟩
theorem c_specIsMinimalDep (n : Int) (oa) (cap : Nat) (R : List (List Int)) (m l r : Int) (w : World) (hR : RowsAt w oa R) :
    Ans Tryz.prog 46 #[.agg #[.int .i64 n, .slice oa R.length cap], .int .i64 m, .agg #[.int .i64 l, .int .i64 r]] w (.bool (isMinF n R m l r)) := by
  unfold Ans
  have hb := bel2 w (.cells #[.int .i64 n, .slice oa R.length cap] 29) (.cells #[.int .i64 l, .int .i64 r] 46)
  have a0 := two_a w #[.int .i64 n, .slice oa R.length cap] 29 #[.int .i64 l, .int .i64 r] 46 0 _ rfl
  have a1 := two_a w #[.int .i64 n, .slice oa R.length cap] 29 #[.int .i64 l, .int .i64 r] 46 1 _ rfl
  have d0 := two_b w #[.int .i64 n, .slice oa R.length cap] 29 #[.int .i64 l, .int .i64 r] 46 0 _ rfl
  have d1 := two_b w #[.int .i64 n, .slice oa R.length cap] 29 #[.int .i64 l, .int .i64 r] 46 1 _ rfl
  cases hf : (isTabF n R && modeF m)
  · have HM : Hid (isMinF n R m l r = false) := by show isMinF n R m l r = false; unfold isMinF askF; rw [hf]; rfl
    go_enter Tryz.func46, Tryz.ntmps46
    go_wp2_with (first | (go_at_call 103; refine Calls.mono (Ans.eqb (c_l4Fine _ _ _ _ _ _ (hR.keep hb)) hf) ?_; rintro e w1 ⟨rfl, hbn⟩; replace a0 := cell_keep a0 hbn; replace a1 := cell_keep a1 hbn; replace d0 := cell_keep d0 hbn; replace d1 := cell_keep d1 hbn; replace hb := bel_to (w := w) (by first | exact hb | exact hb.alloc hb.size _ | exact (hb.alloc hb.size _).alloc (Nat.le_trans hb.size (by simp)) _ | exact hb.setCell (by simp [hb.size]) _) hbn; clear hbn))
    go_ret
    exact ⟨ret_bool HM.out.symm, hb⟩
  · cases hd : isDepF n l r
    · have HM : Hid (isMinF n R m l r = false) := by show isMinF n R m l r = false; unfold isMinF askF; rw [hf, hd]; rfl
      go_enter Tryz.func46, Tryz.ntmps46
      go_wp2_with (first | (go_at_call 103; refine Calls.mono (Ans.eqb (c_l4Fine _ _ _ _ _ _ (hR.keep hb)) hf) ?_; rintro e w1 ⟨rfl, hbn⟩; replace a0 := cell_keep a0 hbn; replace a1 := cell_keep a1 hbn; replace d0 := cell_keep d0 hbn; replace d1 := cell_keep d1 hbn; replace hb := bel_to (w := w) (by first | exact hb | exact hb.alloc hb.size _ | exact (hb.alloc hb.size _).alloc (Nat.le_trans hb.size (by simp)) _ | exact hb.setCell (by simp [hb.size]) _) hbn; clear hbn) | (go_at_call 133; refine Calls.mono (Ans.eqb (c_specIsDep _ _ _ _) hd) ?_; rintro e w1 ⟨rfl, hbn⟩; replace a0 := cell_keep a0 hbn; replace a1 := cell_keep a1 hbn; replace d0 := cell_keep d0 hbn; replace d1 := cell_keep d1 hbn; replace hb := bel_to (w := w) (by first | exact hb | exact hb.alloc hb.size _ | exact (hb.alloc hb.size _).alloc (Nat.le_trans hb.size (by simp)) _ | exact hb.setCell (by simp [hb.size]) _) hbn; clear hbn))
      go_ret
      exact ⟨ret_bool HM.out.symm, hb⟩
    · have ht : isTabF n R = true := by have := hf; simp only [Bool.and_eq_true] at this; exact this.1
      have HM : Hid (isMinF n R m l r = l7F n R m l r) := isMin_l7 (by unfold askF; rw [hf, hd]; rfl)
      have hS := dep_of hd (isTab_of ht).2.1
      have HW : Hid (∀ w' : World, RowsAt w' oa R → Ans Tryz.prog 109 #[.agg #[.int .i64 n, .slice oa R.length cap], .int .i64 m, .agg #[.int .i64 l, .int .i64 r]] w' (.bool (l7F n R m l r))) := fun w' h => c_l7Minimal n oa cap R m l r w' h ht hS.1 hS.2
      clear ht hS
      go_enter Tryz.func46, Tryz.ntmps46
      go_wp2_with (first | (go_at_call 103; refine Calls.mono (Ans.eqb (c_l4Fine _ _ _ _ _ _ (hR.keep hb)) hf) ?_; rintro e w1 ⟨rfl, hbn⟩; replace a0 := cell_keep a0 hbn; replace a1 := cell_keep a1 hbn; replace d0 := cell_keep d0 hbn; replace d1 := cell_keep d1 hbn; replace hb := bel_to (w := w) (by first | exact hb | exact hb.alloc hb.size _ | exact (hb.alloc hb.size _).alloc (Nat.le_trans hb.size (by simp)) _ | exact hb.setCell (by simp [hb.size]) _) hbn; clear hbn) | (go_at_call 133; refine Calls.mono (Ans.eqb (c_specIsDep _ _ _ _) hd) ?_; rintro e w1 ⟨rfl, hbn⟩; replace a0 := cell_keep a0 hbn; replace a1 := cell_keep a1 hbn; replace d0 := cell_keep d0 hbn; replace d1 := cell_keep d1 hbn; replace hb := bel_to (w := w) (by first | exact hb | exact hb.alloc hb.size _ | exact (hb.alloc hb.size _).alloc (Nat.le_trans hb.size (by simp)) _ | exact hb.setCell (by simp [hb.size]) _) hbn; clear hbn) | (go_at_call 109; refine Calls.mono (HW.out _ (hR.keep hb)) ?_; rintro e w1 ⟨rfl, hbn⟩; replace a0 := cell_keep a0 hbn; replace a1 := cell_keep a1 hbn; replace d0 := cell_keep d0 hbn; replace d1 := cell_keep d1 hbn; replace hb := bel_to (w := w) (by first | exact hb | exact hb.alloc hb.size _ | exact (hb.alloc hb.size _).alloc (Nat.le_trans hb.size (by simp)) _ | exact hb.setCell (by simp [hb.size]) _) hbn; clear hbn))
      go_ret
      exact ⟨ret_bool HM.out.symm, hb⟩
end Go.Proofs.YtjbmpnbfiahdhaaGreat
namespace Go.Proofs.YtjbmpnbfiahdhaaGreat
open Go.RowKit
set_option linter.unusedVariables false
set_option maxRecDepth 100000

def keyI (x : Int) : Int := (card x : Int) * 32 + x
theorem keyI_fin : ∀ x : Fin 32, keyI (x.val : Int) = keyS x := by decide +kernel
theorem parts_up {N : Nat} (hN : N ≤ 5) : Up ((partsF N).map keyI) := by
  unfold partsF
  rw [if_pos ⟨by omega, by omega⟩, Int.toNat_natCast]
  have h := sortS_up (finsB_nodup N (by omega))
  unfold valS
  rw [List.map_map]
  have e : (keyI ∘ fun (x : Fin 32) => (x.val : Int)) = keyS := funext keyI_fin
  rw [e]
  exact h
theorem up_index {P : List Int} {f : Int → Int} (h : Up (P.map f)) {k : Nat} (hk : k < P.length) : (∀ z ∈ P, f z < f (nth P k) → z ∈ P.take k) ∧ ∀ y ∈ P.take k, f y < f (nth P k) := by
  unfold Up at h
  rw [List.pairwise_map, List.pairwise_iff_getElem] at h
  have ek : P[k] = nth P k := by have := nth_eq hk; rw [List.getElem?_eq_getElem hk] at this; injection this
  constructor
  · intro z hz hlt
    obtain ⟨j, hj, e⟩ := List.mem_iff_getElem.1 hz
    rcases Nat.lt_or_ge j k with h' | h'
    · exact List.mem_iff_getElem.2 ⟨j, by rw [List.length_take]; omega, by rw [List.getElem_take]; exact e⟩
    · exfalso
      rcases Nat.lt_or_ge k j with h'' | h''
      · have := h k j hk hj h''
        rw [ek, e] at this
        omega
      · have : j = k := by omega
        subst this
        rw [ek] at e
        rw [e] at hlt
        omega
  · intro y hy
    obtain ⟨j, hj, e⟩ := List.mem_iff_getElem.1 hy
    rw [List.length_take] at hj
    rw [List.getElem_take] at e
    have := h j k (by omega) hk (by omega)
    rw [e, ek] at this
    exact this
theorem viol_down {R : List (List Int)} {m r x y : Int} {i k : Nat} (hx : St x) (hy : St y) (hA : (row R i).length ≤ 5) (hi : ins x y = true) (h : violF R m y r i k = true) : violF R m x r i k = true := by
  unfold violF at h ⊢
  simp only [Bool.and_eq_true] at h ⊢
  exact ⟨ins_trans hx hy (agreeF_st hA) hi h.1, h.2⟩
theorem holds_up {R : List (List Int)} {m r x y : Int} (hR : ∀ i, i < R.length → (row R i).length ≤ 5) (hx : St x) (hy : St y) (hi : ins x y = true) (h : holdsF R m x r = true) : holdsF R m y r = true := by
  unfold holdsF at h ⊢
  rw [decide_eq_true_eq] at h ⊢
  intro i hil k hk hik
  cases hv : violF R m y r i k
  · rfl
  · have := viol_down (k := k) hx hy (hR i hil) hi hv
    rw [h i hil k hk hik] at this
    cases this
theorem le_of_ins {x y : Int} (hx : St x) (hy : St y) (h : ins x y = true) : x ≤ y := by
  obtain ⟨n, hn, rfl⟩ := st_nat hx; obtain ⟨k, hk, rfl⟩ := st_nat hy
  have h' : ∀ n < 32, ∀ k < 32, ins ((n : Nat) : Int) ((k : Nat) : Int) = true → n ≤ k := by decide +kernel
  have := h' n hn k hk h
  omega
theorem ins_dif {y x c : Int} (hy : St y) (hx : St x) (hc : Co c) (h : ins y x = true) (hn : hasc y c = false) : ins y (dif x (one c)) = true :=
  (ins_iff hy (dif_st hx (one_st hc))).2 fun d hd hyd => by
    rw [hasc_dif hx (one_st hc) hd, hasc_one hc hd, (ins_iff hy hx).1 h d hd hyd]
    have : c ≠ d := fun e => by subst e; rw [hn] at hyd; cases hyd
    simp [this]
theorem dif_ins {x c : Int} (hx : St x) (hc : Co c) : ins (dif x (one c)) x = true :=
  (ins_iff (dif_st hx (one_st hc)) hx).2 fun d hd h => by
    rw [hasc_dif hx (one_st hc) hd] at h
    simp only [Bool.and_eq_true] at h
    exact h.1
theorem dif_not {x c : Int} (hx : St x) (hc : Co c) : hasc (dif x (one c)) c = false := by
  rw [hasc_dif hx (one_st hc) hc, hasc_one hc hc]; simp
theorem lacks {x y : Int} (hx : St x) (hy : St y) (h : ins y x = true) (hne : y ≠ x) : ∃ c, Co c ∧ hasc x c = true ∧ hasc y c = false := by
  refine Classical.byContradiction fun hn => hne (set_ext hy hx fun c hc => ?_)
  cases e : hasc x c
  · cases e' : hasc y c
    · rfl
    · rw [(ins_iff hy hx).1 h c hc e'] at e; cases e
  · cases e' : hasc y c
    · exact absurd ⟨c, hc, e, e'⟩ hn
    · rfl
theorem taken_filter {N : Nat} {R : List (List Int)} {m r : Int} (hN : N ≤ 5) (hR : ∀ i, i < R.length → (row R i).length ≤ 5) (hr : 0 ≤ r ∧ r < 5) :
    ∀ k, k ≤ (partsF N).length → takenF (fun x r => holdsF R m x r) r ((partsF N).take k) = ((partsF N).take k).filter fun x => l7F N R m x r
  | 0, _ => by simp [takenF]
  | k + 1, hk => by
    have hlt : k < (partsF N).length := by omega
    rw [taken_succ _ _ hlt, taken_filter hN hR hr k (by omega), filter_take_succ _ _ _ hlt]
    have hup := up_index (parts_up hN) hlt
    have hxm : nth (partsF N) k ∈ partsF N := List.mem_iff_getElem?.2 ⟨k, nth_eq hlt⟩
    generalize nth (partsF N) k = x at *
    have hpm : ∀ z, z ∈ partsF N ↔ 0 ≤ z ∧ z < 2 ^ N := fun z => by
      have := partsF_mem (n := (N : Int)) (by omega) (by omega) (x := z)
      rw [Int.toNat_natCast] at this
      exact this
    have h32 := (pow_wrap (n := (N : Int)) (by omega) (by omega)).2.1
    rw [Int.toNat_natCast] at h32
    have hxr := (hpm x).1 hxm
    have sx : St x := ⟨hxr.1, by omega⟩
    have key : ((!hasc x r && !anyIns (((partsF N).take k).filter fun x => l7F N R m x r) x) && holdsF R m x r) = l7F N R m x r := by
      have hmb : membersUpTo x N = membersF x := by
        have := members_below (n := (N : Int)) (by omega) (by omega) hxr.1 (by rw [Int.toNat_natCast]; exact hxr.2)
        rw [Int.toNat_natCast] at this
        exact this
      rw [Bool.eq_iff_iff]
      generalize hTl : ((partsF N).take k).filter (fun x => l7F N R m x r) = Tl
      unfold l7F
      rw [Int.toNat_natCast, hmb]
      simp only [Bool.and_eq_true, Bool.not_eq_true', List.all_eq_true]
      constructor
      · rintro ⟨⟨h1, h2⟩, h3⟩
        refine ⟨h1, h3, fun c hc => ?_⟩
        obtain ⟨cc, ch⟩ := members_co c hc
        cases hd : holdsF R m (dif x (one c)) r
        · rfl
        · exfalso
          have sd := dif_st sx (one_st cc)
          obtain ⟨z, hz, hzi⟩ := exists_min (p := fun y => holdsF R m y r) (card (dif x (one c))) (dif x (one c)) (Nat.le_refl _) sd hd
          obtain ⟨sz, pz, mz⟩ := minL_mem.1 hz
          have hzx := ins_trans sz sd sx hzi (dif_ins sx cc)
          have hzr : hasc z r = false := by
            cases e : hasc z r
            · rfl
            · rw [(ins_iff sz sx).1 hzx r hr e] at h1; cases h1
          have hne : z ≠ x := fun e => by
            subst e
            have := (ins_iff sz sd).1 hzi c cc ch
            rw [dif_not sz cc] at this; cases this
          have hzl := le_of_ins sz sx hzx
          have hzm : z ∈ partsF N := (hpm z).2 ⟨sz.1, by omega⟩
          have hcard := card_lt sz sx hzx hne
          have hzt := hup.1 z hzm (by unfold keyI; omega)
          have hz7 : l7F N R m z r = true := by
            have hmz : membersUpTo z N = membersF z := by
              have := members_below (n := (N : Int)) (by omega) (by omega) sz.1 (by rw [Int.toNat_natCast]; omega)
              rw [Int.toNat_natCast] at this
              exact this
            unfold l7F
            rw [Int.toNat_natCast, hmz]
            simp only [Bool.and_eq_true, Bool.not_eq_true', List.all_eq_true]
            refine ⟨hzr, pz, fun c' hc' => ?_⟩
            obtain ⟨cc', ch'⟩ := members_co c' hc'
            cases hd' : holdsF R m (dif z (one c')) r
            · rfl
            · exfalso
              have := mz _ (dif_st sz (one_st cc')) hd' (dif_ins sz cc')
              have h4 := dif_not sz cc'
              rw [this, ch'] at h4; cases h4
          have : anyIns Tl x = true := List.any_eq_true.2 ⟨z, by rw [← hTl]; exact List.mem_filter.2 ⟨hzt, hz7⟩, hzx⟩
          rw [this] at h2; cases h2
      · rintro ⟨h1, h3, h4⟩
        refine ⟨⟨h1, ?_⟩, h3⟩
        cases ha : anyIns Tl x
        · rfl
        · exfalso
          obtain ⟨y, hy, hyx⟩ := List.any_eq_true.1 ha
          rw [← hTl] at hy
          obtain ⟨hyt, hy7⟩ := List.mem_filter.1 hy
          have hyr := (hpm y).1 (List.mem_of_mem_take hyt)
          have sy : St y := ⟨hyr.1, by omega⟩
          have hlt2 := hup.2 y hyt
          have hne : y ≠ x := fun e => by subst e; omega
          obtain ⟨c, cc, cx, cy⟩ := lacks sx sy hyx hne
          have hpy : holdsF R m y r = true := by
            unfold l7F at hy7
            simp only [Bool.and_eq_true] at hy7
            exact hy7.2.1
          have := holds_up hR sy (dif_st sx (one_st cc)) (ins_dif sy sx cc hyx cy) hpy
          rw [h4 c (membersT_mem sx cc cx)] at this
          cases this
    unfold stepM
    rw [key]
    split
    · rfl
    · simp
def minDepsF (n : Int) (R : List (List Int)) (m : Int) : List (Int × Int) := if isTabF n R && modeF m then colsF (fun x r => holdsF R m x r) (partsF n) n.toNat else []
def colG (n : Int) (R : List (List Int)) (m : Int) (L : List Int) (r : Int) : List (Int × Int) := (L.filter fun x => l7F n R m x r).map fun x => (x, r)
def colsG (n : Int) (R : List (List Int)) (m : Int) (k : Nat) : List (Int × Int) := (List.range k).flatMap fun (r : Nat) => colG n R m (partsF n) (r : Int)
theorem colsG_succ (n : Int) (R : List (List Int)) (m : Int) (k : Nat) : colsG n R m (k + 1) = colsG n R m k ++ colG n R m (partsF n) k := by unfold colsG; rw [List.range_succ, List.flatMap_append]; simp
theorem cols_same {N : Nat} {R : List (List Int)} {m : Int} (hN : N ≤ 5) (hR : ∀ i, i < R.length → (row R i).length ≤ 5) : ∀ k, k ≤ N → colsF (fun x r => holdsF R m x r) (partsF N) k = colsG N R m k
  | 0, _ => by simp [colsF, colsG]
  | k + 1, hk => by
    rw [colsF_succ, colsG_succ, cols_same hN hR k (by omega)]
    congr 1
    unfold colF colG
    have h := taken_filter (m := m) (r := (k : Int)) hN hR (by omega) (partsF N).length (Nat.le_refl _)
    rw [List.take_length] at h
    rw [h]
theorem minDeps_len (n : Int) (R : List (List Int)) (m : Int) : (minDepsF n R m).length ≤ Room := by
  unfold minDepsF
  split
  · next h =>
    simp only [Bool.and_eq_true] at h
    obtain ⟨h1, h5, _, _⟩ := isTab_of h.1
    have a := colsF_len (fun x r => holdsF R m x r) (partsF n) n.toNat
    have b := partsF_len n
    have c : (partsF n).length * n.toNat ≤ 32 * 5 := Nat.mul_le_mul b (by omega)
    unfold Room; omega
  · simp
end Go.Proofs.YtjbmpnbfiahdhaaGreat
namespace Go.Proofs.YtjbmpnbfiahdhaaGreat
open Go.RowKit
set_option linter.unusedVariables false
set_option maxRecDepth 100000

def candF (N k : Nat) : Int × Int := (nth (partsF N) (k / N), ((k % N : Nat) : Int))
def covS (F : List (Int × Int)) (x r : Int) : Bool := F.any fun o => (o.2 == r) && ins o.1 x
def stepF (R : List (List Int)) (m : Int) (N k : Nat) (z : List (Int × Int) × Int) : List (Int × Int) × Int :=
  if hasc (candF N k).1 (candF N k).2 || covS z.1 (candF N k).1 (candF N k).2 then z else (if holdsF R m (candF N k).1 (candF N k).2 then z.1 ++ [((candF N k).1, (candF N k).2)] else z.1, z.2 + 1)
def repF (R : List (List Int)) (m : Int) (N : Nat) : Nat → List (Int × Int) × Int
  | 0 => ([], 0)
  | k + 1 => stepF R m N k (repF R m N k)
theorem parts_full {N : Nat} (hN : N ≤ 5) : (partsF N).length = 2 ^ N := by
  unfold partsF
  rw [if_pos ⟨by omega, by omega⟩, Int.toNat_natCast]
  unfold valS sortS finsB
  simp
theorem cand_ok {N k : Nat} (hN : N ≤ 5) (h1 : 1 ≤ N) (hk : k < N * 2 ^ N) : k / N < (partsF N).length ∧ St (candF N k).1 ∧ Co (candF N k).2 ∧ (candF N k).1 < 2 ^ N ∧ (candF N k).2 < N := by
  have h2 : k / N < (partsF N).length := by
    rw [parts_full hN]
    exact Nat.div_lt_of_lt_mul hk
  have hm := List.mem_iff_getElem?.2 ⟨k / N, nth_eq h2⟩
  have h3 := (partsF_mem (n := (N : Int)) (by omega) (by omega)).1 hm
  have h4 := (pow_wrap (n := (N : Int)) (by omega) (by omega)).2.1
  rw [Int.toNat_natCast] at h3 h4
  have h5 := Nat.mod_lt k (show 0 < N by omega)
  have e5 : St (candF N k).1 := ⟨h3.1, by show nth (partsF N) (k / N) < 32; omega⟩
  have e6 : Co (candF N k).2 := ⟨by show 0 ≤ ((k % N : Nat) : Int); omega, by show ((k % N : Nat) : Int) < 5; omega⟩
  exact ⟨h2, e5, e6, h3.2, by show ((k % N : Nat) : Int) < N; omega⟩
theorem rep_ok {R : List (List Int)} {m : Int} {N : Nat} (hN : N ≤ 5) (h1 : 1 ≤ N) : ∀ k, k ≤ N * 2 ^ N → (∀ o ∈ (repF R m N k).1, St o.1 ∧ Co o.2) ∧ (repF R m N k).1.length ≤ k ∧ 0 ≤ (repF R m N k).2 ∧ (repF R m N k).2 ≤ k
  | 0, _ => ⟨(fun o ho => by cases ho), Nat.le_refl _, Int.le_refl _, Int.le_refl _⟩
  | k + 1, hk => by
    obtain ⟨i1, i2, i3, i4⟩ := rep_ok (R := R) (m := m) hN h1 k (by omega)
    obtain ⟨_, c1, c2, _⟩ := cand_ok hN h1 (show k < N * 2 ^ N by omega)
    show (∀ o ∈ (stepF R m N k (repF R m N k)).1, St o.1 ∧ Co o.2) ∧ (stepF R m N k (repF R m N k)).1.length ≤ k + 1 ∧ 0 ≤ (stepF R m N k (repF R m N k)).2 ∧ (stepF R m N k (repF R m N k)).2 ≤ (k + 1 : Nat)
    unfold stepF
    split
    · exact ⟨i1, by omega, i3, by omega⟩
    · split
      · refine ⟨fun o ho => ?_, by rw [List.length_append]; simp; omega, by omega, by simp; omega⟩
        rcases List.mem_append.1 ho with h | h
        · exact i1 o h
        · rw [List.mem_singleton.1 h]; exact ⟨c1, c2⟩
      · exact ⟨i1, by show (repF R m N k).1.length ≤ k + 1; omega, by show 0 ≤ (repF R m N k).2 + 1; omega, by show (repF R m N k).2 + 1 ≤ ((k + 1 : Nat) : Int); omega⟩
theorem count_le {N : Nat} (hN : N ≤ 5) : N * 2 ^ N ≤ 160 := by
  have h : ∀ N < 6, N * 2 ^ N ≤ 160 := by decide
  exact h N (by omega)
theorem c_candidatesOf (N : Nat) (hN : N ≤ 5) (w : World) : Ans Tryz.prog 99 #[.int .i64 N] w (.int .i64 ((N * 2 ^ N : Nat) : Int)) := by
  unfold Ans
  have h : ∀ N < 6, wrap64 (((N : Nat) : Int) * 2 ^ N) = ((N * 2 ^ N : Nat) : Int) := by decide +kernel
  have h0 := h N (by omega)
  go_enter Tryz.func99, Tryz.ntmps99
  go_wp2
  go_ret
  exact ⟨ret_int (by simpa using h0), Below.refl _ _⟩
theorem c_l8Count (N : Nat) (hN : N ≤ 5) (w : World) : Ans Tryz.prog 101 #[.int .i64 N] w (.int .i64 ((N * 2 ^ N : Nat) : Int)) := by
  unfold Ans
  have h : ∀ N < 6, wrap64 (((N : Nat) : Int) * 2 ^ N) = ((N * 2 ^ N : Nat) : Int) := by decide +kernel
  have h0 := h N (by omega)
  go_enter Tryz.func101, Tryz.ntmps101
  go_wp2
  go_ret
  exact ⟨ret_int (by simpa using h0), Below.refl _ _⟩
set_option maxHeartbeats 800000 in
theorem c_candidate (N k : Nat) (hN : N ≤ 5) (h1 : 1 ≤ N) (hk : k < N * 2 ^ N) (w : World) :
    Ans Tryz.prog 106 #[.int .i64 N, .int .i64 k] w (.agg #[.int .i64 (candF N k).1, .int .i64 (candF N k).2]) := by
  unfold Ans
  obtain ⟨hlt, hst, hco, _, _⟩ := cand_ok hN h1 hk
  have hk160 := count_le hN
  have hpl := partsF_len N
  have hp0 : 0 < (partsF N).length := Nat.lt_of_le_of_lt (Nat.zero_le _) hlt
  obtain ⟨x, hx⟩ : ∃ x, x = (candF N k).1 := ⟨_, rfl⟩
  obtain ⟨r, hr⟩ : ∃ r, r = (candF N k).2 := ⟨_, rfl⟩
  rw [← hx, ← hr]
  obtain ⟨q, hq⟩ : ∃ q, q = k / N := ⟨_, rfl⟩
  have hx2 : x = nth (partsF N) q := by rw [hx, hq]; rfl
  have hr2 : r = (k : Int) % (N : Int) := by rw [hr]; show ((k % N : Nat) : Int) = _; exact Int.natCast_emod k N
  have hn0 : 0 < N := by omega
  have e1 : (k : Int).tdiv (N : Int) = (q : Int) := by rw [Int.tdiv_eq_ediv_of_nonneg (by omega), hq]; exact (Int.natCast_ediv k N).symm
  have e2 : (k : Int).tmod (N : Int) = r := by rw [Int.tmod_eq_emod_of_nonneg (by omega), hr2]
  have e3 : (k : Int) / (N : Int) = (q : Int) := by rw [hq]; exact (Int.natCast_ediv k N).symm
  rw [← hq] at hlt
  have hq160 : q ≤ 32 := by omega
  have hr1 : 0 ≤ r ∧ r < 5 := by rw [hr]; exact ⟨hco.1, hco.2⟩
  have hr5 := hr1.1
  have hr6 := hr1.2
  have HR2 : Hid (r = (k : Int) % (N : Int)) := hr2
  have HX2 : Hid (nth (partsF N) q = x) := hx2.symm
  have e4 : (k : Int) % (N : Int) = r := hr2.symm
  have e5 : IntKind.i64.wrap (q : Int) = (q : Int) := IntWalk.i64_in _ (by omega)
  have e6 : IntKind.i64.wrap r = r := IntWalk.i64_in _ (by omega)
  have e7 : ((N : Int) == 0) = false := by simp; omega
  have e8 : ¬ N = 0 := by omega
  clear hx hr hx2 hr2 hst hco hr1 hq
  have hb := (Below.refl w.heap.size w).alloc (Nat.le_refl _) (.cells #[.int .i64 0, .int .i64 0] 46)
  have kR := Blk.new w #[.int .i64 0, .int .i64 0] 46
  go_enter Tryz.func106, Tryz.ntmps106
  go_wp2_with fail
  go_region_with ((refine (c_PartsBySize (N : Int) _).mono ?_; rintro e w1 ⟨v, rfl, hP, hbn⟩; obtain ⟨o1, c1, rfl⟩ := hP.shape; obtain ⟨b2, off2, rfl, hbs2, hca⟩ := (hP.ints rfl (by unfold Room; omega)).at_ hp0; have hc2 := hca _ hlt; rw [HX2.out] at hc2; have kR1 := kR.drew.keep hbn; have r0 := kR1.cell 0 (.int .i64 0) rfl; have r1 := kR1.cell 1 (.int .i64 0) rfl; have q0 := kR1.free 0; have q1 := kR1.free 1; clear hca kR1))
  have hb1 := bel_to hb.drew hbn
  clear hbn hP hb kR
  go_wp2
  exact bodyPost_ret (v := .agg #[.int .i64 x, .int .i64 r]) (by simp [results, Tryz.results106, go_sem, r0, r1]) rfl ⟨rfl, Below.setCell (p := (⟨w.heap.size, 1, none⟩ : Addr)) (Below.setCell (p := (⟨w.heap.size, 0, none⟩ : Addr)) hb1 (Nat.le_refl _) _) (Nat.le_refl _) _⟩
set_option maxHeartbeats 800000 in
theorem c_l8Dep (N k : Nat) (hN : N ≤ 5) (h1 : 1 ≤ N) (hk : k < N * 2 ^ N) (w : World) :
    Ans Tryz.prog 107 #[.int .i64 N, .int .i64 k] w (.agg #[.int .i64 (candF N k).1, .int .i64 (candF N k).2]) := by
  unfold Ans
  obtain ⟨hlt, hst, hco, _, _⟩ := cand_ok hN h1 hk
  have hk160 := count_le hN
  have hpl := partsF_len N
  have hp0 : 0 < (partsF N).length := Nat.lt_of_le_of_lt (Nat.zero_le _) hlt
  obtain ⟨x, hx⟩ : ∃ x, x = (candF N k).1 := ⟨_, rfl⟩
  obtain ⟨r, hr⟩ : ∃ r, r = (candF N k).2 := ⟨_, rfl⟩
  rw [← hx, ← hr]
  obtain ⟨q, hq⟩ : ∃ q, q = k / N := ⟨_, rfl⟩
  have hx2 : x = nth (partsF N) q := by rw [hx, hq]; rfl
  have hr2 : r = (k : Int) % (N : Int) := by rw [hr]; show ((k % N : Nat) : Int) = _; exact Int.natCast_emod k N
  have hn0 : 0 < N := by omega
  have e1 : (k : Int).tdiv (N : Int) = (q : Int) := by rw [Int.tdiv_eq_ediv_of_nonneg (by omega), hq]; exact (Int.natCast_ediv k N).symm
  have e2 : (k : Int).tmod (N : Int) = r := by rw [Int.tmod_eq_emod_of_nonneg (by omega), hr2]
  have e3 : (k : Int) / (N : Int) = (q : Int) := by rw [hq]; exact (Int.natCast_ediv k N).symm
  rw [← hq] at hlt
  have hq160 : q ≤ 32 := by omega
  have hr1 : 0 ≤ r ∧ r < 5 := by rw [hr]; exact ⟨hco.1, hco.2⟩
  have hr5 := hr1.1
  have hr6 := hr1.2
  have HR2 : Hid (r = (k : Int) % (N : Int)) := hr2
  have HX2 : Hid (nth (partsF N) q = x) := hx2.symm
  have e4 : (k : Int) % (N : Int) = r := hr2.symm
  have e5 : IntKind.i64.wrap (q : Int) = (q : Int) := IntWalk.i64_in _ (by omega)
  have e6 : IntKind.i64.wrap r = r := IntWalk.i64_in _ (by omega)
  have e7 : ((N : Int) == 0) = false := by simp; omega
  have e8 : ¬ N = 0 := by omega
  clear hx hr hx2 hr2 hst hco hr1 hq
  have hb := (Below.refl w.heap.size w).alloc (Nat.le_refl _) (.cells #[.int .i64 0, .int .i64 0] 46)
  have kR := Blk.new w #[.int .i64 0, .int .i64 0] 46
  go_enter Tryz.func107, Tryz.ntmps107
  go_wp2_with fail
  refine (c_specPartsBySize (N : Int) _).mono ?_
  rintro e w1 ⟨v, rfl, hP, hbn⟩
  obtain ⟨o1, c1, rfl⟩ := hP.shape
  obtain ⟨b2, off2, rfl, hbs2, hca⟩ := (hP.ints rfl (by unfold Room; omega)).at_ hp0
  have hc2 := hca _ hlt
  rw [HX2.out] at hc2
  have kR1 := kR.keep hbn
  have r0 := kR1.cell 0 (.int .i64 0) rfl
  have r1 := kR1.cell 1 (.int .i64 0) rfl
  have q0 := kR1.free 0
  have q1 := kR1.free 1
  have hb1 := bel_to hb hbn
  clear hca kR1 hbn hP hb kR
  go_wp2_with fail
  go_region_with (fail)
  go_wp2
  exact bodyPost_ret (v := .agg #[.int .i64 x, .int .i64 r]) (by simp [results, Tryz.results107, go_sem, r0, r1]) rfl ⟨rfl, Below.setCell (p := (⟨w.heap.size, 1, none⟩ : Addr)) (Below.setCell (p := (⟨w.heap.size, 0, none⟩ : Addr)) hb1.drew (Nat.le_refl _) _) (Nat.le_refl _) _⟩
end Go.Proofs.YtjbmpnbfiahdhaaGreat
namespace Go.Proofs.YtjbmpnbfiahdhaaGreat
open Go.RowKit
set_option linter.unusedVariables false
set_option maxRecDepth 100000
set_option maxHeartbeats 1600000

theorem step_append_own {P : Program} (w : World) {ops : Array Oper} {o : Oper} {a : Act} {K : Act → World → Prop} {Q : Exit → Act → World → Prop} {E : Prop} (hgd : o.guard = none) (s x : Operand) (t : TypeId)
    (ho : o.op = .call { callee := .builtin .append, args := #[s, x], argTypes := #[t, t] })
    (base : Nat) (e : TypeId) (i : TypeInfo) (z : Value) (size bytes : Nat) (ht : P.underlying t = some (.slice e)) (hi : P.info? e = some i) (hz : i.zero = some z)
    (hsize : i.size = size) (hby : i.bytes = bytes) (hzs : z.cells.size = size) (hsz : 0 < size)
    (v : Value) (n : Nat) (xs : List Value) (hs : a.eval s = v) (hown : w.ownsRow base e size v n xs)
    (ad : Addr) (m c : Nat) (news : List Value) (hx : a.eval x = .slice (some ad) m c) (hl : news.length = m * size) (hnews : ∀ j u, news[j]? = some u → w.cell? (ad.add j) = some u) (h1 : ∀ u ∈ news, u.oneCell' = true)
    (h63 : n + m ≤ maxLen) (hbytes : (n + m) * bytes ≤ 140737488355328) (hbase : base ≤ w.heap.size)
    (h : ∀ v' w', w'.ownsRow base e size v' (n + m) (xs ++ news) → w.grownBy w' v.ownBlock → K (a.put o.dst v') w') :
    if Region.wanted o (yielded ops a.tmps) = true then Oper.wp P o a w K Q else E := by
  have hw : Region.wanted o (yielded ops a.tmps) = true := by simp [Region.wanted, hgd]
  rw [if_pos hw]
  exact wp_append_own w s x t ho base e i z size bytes ht hi hz hsize hby hzs hsz v n xs hs hown ad m c news hx hl hnews h1 h63 hbytes hbase fun v' w' h2 h3 _ => h v' w' h2 h3

/-- An operation whose guard is shut, taken first. -/
theorem wpAnyH_skip {P : Program} {ops : Array Oper} {Q : Exit → Act → World → Prop} {md : Region.Mode} {S : World → Prop} {i : Nat} {oi : Oper} (d : Option Nat) {fuel : Nat} {listed : Array Bool} {a : Act} {w : World} (hi : ops[i]? = some oi) (hd : oi.dst = d)
    (hs : Region.noSelect ops = true) (hf : Region.free md ops listed i = true) (hr : (Region.ready md ops listed).contains i = true)
    (hQ : ∀ c a w, Q (.panic c) (a.put d undef) w → Q (.panic c) a w) (hy : Region.wanted oi (yielded ops a.tmps) = false) (hS : S w)
    (h : wpAnyH P md ops Q S fuel (listed.setIfInBounds i true) (a.put d undef) w) : wpAnyH P md ops Q S (fuel + 1) listed a w := by
  subst hd
  exact wpAnyH_take hi hs hf hr hQ (Or.inr ⟨hy, rfl⟩) hS h
/-- An operation that yields a value whatever the world, taken first. -/
theorem wpAnyH_val {P : Program} {ops : Array Oper} {Q : Exit → Act → World → Prop} {md : Region.Mode} {S : World → Prop} {i : Nat} {oi : Oper} (d : Option Nat) (v : Value) {fuel : Nat} {listed : Array Bool} {a : Act} {w : World} (hi : ops[i]? = some oi) (hd : oi.dst = d)
    (hs : Region.noSelect ops = true) (hf : Region.free md ops listed i = true) (hr : (Region.ready md ops listed).contains i = true)
    (hQ : ∀ c a w, Q (.panic c) (a.put d v) w → Q (.panic c) a w) (hw : Region.wanted oi (yielded ops a.tmps) = true) (hS : S w) (hy : ∀ w, S w → (execOp a.eval oi).run P w = .ok (.value v) w)
    (h : wpAnyH P md ops Q S fuel (listed.setIfInBounds i true) (a.put d v) w) : wpAnyH P md ops Q S (fuel + 1) listed a w := by
  subst hd
  exact wpAnyH_take hi hs hf hr hQ (Or.inl ⟨hw, hy⟩) hS h
theorem nl_take {D : List (Int × Int)} {i k : Nat} (h : k < i) : nl (D.take i) k = nl D k := by unfold nl; simp [List.getD, h]
theorem nr_take {D : List (Int × Int)} {i k : Nat} (h : k < i) : nr (D.take i) k = nr D k := by unfold nr; simp [List.getD, h]
theorem DepsAt.take {w : World} {oa : Option Addr} {D : List (Int × Int)} (h : DepsAt w oa D) (i : Nat) : DepsAt w oa (D.take i) := by
  refine ⟨by have := h.len; rw [List.length_take]; omega, fun h0 => ?_⟩
  rw [List.length_take] at h0
  obtain ⟨b, off, e, hlt, hc⟩ := h.at_ (by omega)
  refine ⟨b, off, e, hlt, fun k hk => ?_⟩
  rw [List.length_take] at hk
  rw [nl_take (by omega), nr_take (by omega)]
  exact hc k (by omega)
theorem c_copyTake (a : Addr) (cap i : Nat) (D : List (Int × Int)) (w : World) (hD : DepsAt w (some a) D) (hi : i ≤ D.length) :
    Calls Tryz.prog 176 #[.slice (some a) i cap] w fun e w' => ∃ v, e = .returned v ∧ OwnD w' w.heap.size v (D.take i) ∧ Below w.heap.size w w' := by
  have h := c_copyDeps (some a) cap (D.take i) w (hD.take i) (by intro h; cases h)
  rwa [List.length_take, Nat.min_eq_left hi] at h
theorem OwnD.row {w : World} {base : Nat} {v : Value} {i : Nat} {D : List (Int × Int)} (hi : i ≤ D.length) (h : OwnD w base v (D.take i)) : w.ownsRow base 46 2 v i (dcells (D.take i)) := by
  unfold OwnD at h; rwa [List.length_take, Nat.min_eq_left hi] at h

theorem no_news {w : World} {ad : Addr} : ∀ (j : Nat) (u : Value), ([] : List Value)[j]? = some u → w.cell? (ad.add j) = some u := by intro j u hj; cases hj
theorem no_one : ∀ u ∈ ([] : List Value), u.oneCell' = true := by intro u hu; cases hu
theorem c_without (oa) (cap : Nat) (D : List (Int × Int)) (i : Nat) (w : World) (hD : DepsAt w oa D) (hcap : D.length ≤ cap) (hil : i < D.length) :
    Calls Tryz.prog 157 #[.slice oa D.length cap, .int .i64 i] w fun e w' => ∃ v, e = .returned v ∧ OwnD w' w.heap.size v (eraD D i) ∧ Below w.heap.size w w' := by
  obtain ⟨i0, hi, hz0, hz1, hz2⟩ := info_parts info_dep
  have hn : D.length ≤ 1073741824 := hD.len
  obtain ⟨b, off, rfl, hbs, hc⟩ := hD.at_ (by omega)
  have hb := Below.refl w.heap.size w
  have q1 : i ≤ cap := by omega
  have q2 : (0 : Int) ≤ (i : Int) := by omega
  have q3 : (i : Int) ≤ (cap : Int) := by omega
  have q4 : (0 : Int) ≤ (i : Int) + 1 := by omega
  have q5 : (i : Int) + 1 ≤ (D.length : Int) := by omega
  have q6 : IntKind.i64.wrap ((i : Int) + 1) = (i : Int) + 1 := by simp [IntKind.wrap, IntKind.bits, IntKind.signed, wrap64]; omega
  have q7 : ((i : Int) + 1).toNat = i + 1 := by omega
  have e2 : (dcells (D.drop (i + 1))).length = (D.length - (i + 1)) * 2 := by rw [dcells_length, List.length_drop]
  have HC : Hid (∀ (w1 : World), Below w.heap.size w w1 → ∀ j u, (dcells (D.drop (i + 1)))[j]? = some u → w1.cell? ((⟨b, off + (i + 1) * 2, none⟩ : Addr).add j) = some u) := by
    intro w1 h j u hu
    rw [dcells_drop, List.getElem?_drop] at hu
    have h0 := (hD.keep h).cellsAny _ u hu
    have e : (⟨b, off + (i + 1) * 2, none⟩ : Addr).add j = (⟨b, off, none⟩ : Addr).add ((i + 1) * 2 + j) := by
      unfold Addr.add; (split <;> simp_all) <;> omega
    rw [e]; exact h0
  have hle : i ≤ D.length := by omega
  clear hc
  by_cases hcp : cap = i + 1
  · subst hcp
    have hdl : D.length = i + 1 := by omega
    have q8 : (i : Int) ≤ ((i + 1 : Nat) : Int) := by omega
    have q9 : (i : Int) ≤ (i : Int) + 1 := by omega
    have h63 : i + 0 ≤ maxLen := by unfold maxLen; omega
    have h64 : (i + 0) * 16 ≤ 140737488355328 := by omega
    go_enter Tryz.func157, Tryz.ntmps157
    go_wp2_with fail
    go_region_held3 (fun w' => Below w.heap.size w w') (first | exact hb2 | exact hb1 | exact hb.drew)
      (first
        | (go_at_call 176; rename_i hS _ _; refine (c_copyTake _ _ _ _ _ (hD.keep hS) hle).mono ?_; rintro e w1 ⟨v1, rfl, hI, hbn⟩; replace hI := (hI.based hS.size).row hle; have hb1 := bel_to hS hbn)
        | (refine step_append_own _ (by rfl) _ _ 30 (by rfl) w.heap.size 46 i0 (.agg #[.int .i64 0, .int .i64 0]) 2 16 Tryz.underlying30 hi hz0 hz1 hz2 rfl (by decide) v1 _ _ (by rfl) hI _ 0 _ [] (by rfl) rfl no_news no_one (show _ from h63) (show _ from h64) hb1.size ?_; intro v2 w2 hown hgrow; have hb2 := hb1.grown hgrow hb1.size (fun g hg => (World.ownsRow.lt hI g hg).1); have hO := ownsLast hdl hown; obtain ⟨o2, c2, rfl⟩ := hO.shape; clear hown hgrow)
        | fail)
    go_wp2
    go_ret
    exact ⟨_, rfl, hO, hb2⟩
  · have h63 : i + (D.length - (i + 1)) ≤ maxLen := by unfold maxLen; omega
    have h64 : (i + (D.length - (i + 1))) * 16 ≤ 140737488355328 := by omega
    go_enter Tryz.func157, Tryz.ntmps157
    go_wp2_with fail
    go_region_held3 (fun w' => Below w.heap.size w w') (first | exact hb2 | exact hb1 | exact hb.drew)
      (first
        | (go_at_call 176; rename_i hS _ _; refine (c_copyTake _ _ _ _ _ (hD.keep hS) hle).mono ?_; rintro e w1 ⟨v1, rfl, hI, hbn⟩; replace hI := (hI.based hS.size).row hle; have hb1 := bel_to hS hbn)
        | (refine step_append_own _ (by rfl) _ _ 30 (by rfl) w.heap.size 46 i0 (.agg #[.int .i64 0, .int .i64 0]) 2 16 Tryz.underlying30 hi hz0 hz1 hz2 rfl (by decide) v1 _ _ (by rfl) hI _ (D.length - (i + 1)) _ (dcells (D.drop (i + 1))) (by rfl) e2 (HC.out _ hb1) (dcells_one _) (show _ from h63) (show _ from h64) hb1.size ?_; intro v2 w2 hown hgrow; have hb2 := hb1.grown hgrow hb1.size (fun g hg => (World.ownsRow.lt hI g hg).1); have hO := ownsErase hil hown; obtain ⟨o2, c2, rfl⟩ := hO.shape; clear hown hgrow)
        | fail)
    go_wp2
    go_ret
    exact ⟨_, rfl, hO, hb2⟩
end Go.Proofs.YtjbmpnbfiahdhaaGreat
namespace Go.Proofs.YtjbmpnbfiahdhaaGreat
open Go.RowKit
set_option linter.unusedVariables false
set_option maxRecDepth 100000

def set6 (w : World) (k : Nat) (b0 b1 b2 b3 b4 b5 : Value) : World := (((((w.setCell ⟨k, 0, none⟩ b0).setCell ⟨k, 1, none⟩ b1).setCell ⟨k, 2, none⟩ b2).setCell ⟨k, 3, none⟩ b3).setCell ⟨k, 4, none⟩ b4).setCell ⟨k, 5, none⟩ b5
theorem OwnD.set_ne {w : World} {B g : Nat} {v : Value} {D : List (Int × Int)} (h : OwnD w B v D) (j : Nat) (u : Value) (hg : v.ownBlock ≠ some g) : OwnD (w.setCell ⟨g, j, none⟩ u) B v D := ownsRow_setCell_other h (a := ⟨g, j, none⟩) hg u
theorem OwnD.set6 {w : World} {B k : Nat} {v : Value} {D : List (Int × Int)} (h : OwnD w B v D) (hk : v.ownBlock ≠ some k) (b0 b1 b2 b3 b4 b5 : Value) : OwnD (set6 w k b0 b1 b2 b3 b4 b5) B v D :=
  (((((h.set_ne 0 b0 hk).set_ne 1 b1 hk).set_ne 2 b2 hk).set_ne 3 b3 hk).set_ne 4 b4 hk).set_ne 5 b5 hk
theorem bel_set6 {w0 w : World} {B : Nat} (h : Below B w0 w) {k : Nat} (hk : B ≤ k) (b0 b1 b2 b3 b4 b5 : Value) : Below B w0 (set6 w k b0 b1 b2 b3 b4 b5) :=
  Below.setCell (p := ⟨k, 5, none⟩) (Below.setCell (p := ⟨k, 4, none⟩) (Below.setCell (p := ⟨k, 3, none⟩) (Below.setCell (p := ⟨k, 2, none⟩) (Below.setCell (p := ⟨k, 1, none⟩) (Below.setCell (p := ⟨k, 0, none⟩) h hk b0) hk b1) hk b2) hk b3) hk b4) hk b5
theorem OwnD.nilcap {w : World} {B n c : Nat} {oa : Option Addr} {D : List (Int × Int)} (h : OwnD w B (.slice oa n c) D) : oa = none → c = 0 := by
  intro e
  subst e
  rcases h.2 with ⟨hv, _⟩ | ⟨g, c', cur, hv, _⟩
  · cases hv; rfl
  · cases hv
theorem OwnD.not_new {w : World} {B : Nat} {v : Value} {D : List (Int × Int)} (h : OwnD w B v D) {g : Nat} (hg : w.heap.size ≤ g) : v.ownBlock ≠ some g := fun e => by
  have := (World.ownsRow.lt h g e).2
  omega
theorem Fresh.self (w : World) (v : Value) : Fresh w v v := .inl rfl
theorem covS_take {F : List (Int × Int)} {x r : Int} {j : Nat} (hj : j < F.length) : covS (F.take (j + 1)) x r = (covS (F.take j) x r || ((nr F j == r) && ins (nl F j) x)) := by
  unfold covS
  rw [List.take_add_one, dnth_eq hj, List.any_append]; simp
theorem covS_at {F : List (Int × Int)} {x r : Int} {j : Nat} (hj : j < F.length) (h : ((nr F j == r) && ins (nl F j) x) = true) : covS F x r = true := List.any_eq_true.2 ⟨(nl F j, nr F j), List.mem_iff_getElem?.2 ⟨j, dnth_eq hj⟩, h⟩
theorem ask_cand {N k : Nat} {R : List (List Int)} {m : Int} (ht : isTabF N R = true) (hm : modeF m = true) (hk : k < N * 2 ^ N) : askF N R m (candF N k).1 (candF N k).2 = true := by
  obtain ⟨h1, h5, _, _⟩ := isTab_of ht
  obtain ⟨_, c1, c2, c3, c4⟩ := cand_ok (by omega) (by omega) hk
  unfold askF isDepF isAttr
  rw [ht, hm]
  simp only [Bool.and_self, Bool.true_and, Bool.and_eq_true, decide_eq_true_eq, Int.toNat_natCast]
  exact ⟨⟨⟨h1, ⟨⟨⟨by omega, h5⟩, c1.1⟩, c3⟩⟩, c2.1⟩, c4⟩
theorem Blk.grown {a b : World} {g : Nat} {c : Array Value} {T : TypeId} {row : Option Nat} (h : Blk a g c T) (hg : a.grownBy b row) (hne : some g ≠ row) : Blk b g c T := (hg.block g h.lt hne).trans h
theorem lit_keep {w w' : World} {n : Nat} {c : Array Value} {T : TypeId} (h : Below n (w.alloc (.cells c T)) w') (hn : n = w.heap.size + 1) : w'.heap[w.heap.size]? = some (.cells c T (0, 0)) := (h.block w.heap.size (by omega)).trans (heap_alloc_new w _)
theorem lit_keep_drew {w w' : World} {n : Nat} {c : Array Value} {T : TypeId} (h : Below n (w.alloc (.cells c T)).drew w') (hn : n = w.heap.size + 1) : w'.heap[w.heap.size]? = some (.cells c T (0, 0)) := (h.block w.heap.size (by omega)).trans (heap_alloc_new w _)
theorem own_snocD' {w : World} {base : Nat} {v : Value} {A : List (Int × Int)} {l r : Int} (h : w.ownsRow base 46 2 v (A.length + 1) (dcells A ++ [.int .i64 l, .int .i64 r])) : OwnD w base v (A ++ [(l, r)]) := OwnD.joined (B := [(l, r)]) h
theorem snoc_shape {w : World} {base : Nat} {v : Value} {A : List (Int × Int)} {d : Int × Int} (h : OwnD w base v (A ++ [d])) : ∃ o c, v = .slice o (A.length + 1) c := by
  obtain ⟨o, c, e⟩ := h.shape
  exact ⟨o, c, by rw [e]; simp⟩
set_option maxHeartbeats 3200000 in
theorem c_step (N k : Nat) (oa fo) (cap fc : Nat) (R : List (List Int)) (m t : Int) (F : List (Int × Int)) (B : Nat) (w : World) (hR : RowsAt w oa R) (ht : isTabF N R = true) (hm : modeF m = true) (hk : k < N * 2 ^ N)
    (hF : OwnD w B (.slice fo F.length fc) F) (hB : B ≤ w.heap.size) (hFl : F.length ≤ 160) (ht0 : 0 ≤ t) (ht1 : t ≤ 160) :
    Calls Tryz.prog 89 #[.agg #[.int .i64 N, .slice oa R.length cap, .int .i64 m, .int .i64 k, .slice fo F.length fc, .int .i64 t]] w fun e w' => ∃ fo' fc', e = .returned (.agg #[.int .i64 N, .slice oa R.length cap, .int .i64 m, .int .i64 ((k : Int) + 1), .slice fo' (stepF R m N k (F, t)).1.length fc', .int .i64 (stepF R m N k (F, t)).2]) ∧ OwnD w' B (.slice fo' (stepF R m N k (F, t)).1.length fc') (stepF R m N k (F, t)).1 ∧ Fresh w (.slice fo F.length fc) (.slice fo' (stepF R m N k (F, t)).1.length fc') ∧ Below w.heap.size w w' := by
  obtain ⟨i0, hi, hz0, hz1, hz2⟩ := info_parts info_dep
  obtain ⟨hn1, hn5, _, _⟩ := isTab_of ht
  have hN5 : N ≤ 5 := by omega
  have hN1 : 1 ≤ N := by omega
  have hk160 := count_le hN5
  obtain ⟨_, hst, hco, _, _⟩ := cand_ok hN5 hN1 hk
  have hask := ask_cand (R := R) (m := m) ht hm hk
  have HZ : Hid (stepF R m N k (F, t) = if hasc (candF N k).1 (candF N k).2 || covS F (candF N k).1 (candF N k).2 then (F, t) else (if holdsF R m (candF N k).1 (candF N k).2 then F ++ [((candF N k).1, (candF N k).2)] else F, t + 1)) := rfl
  have HCD : Hid (∀ w', Ans Tryz.prog 106 #[.int .i64 N, .int .i64 k] w' (.agg #[.int .i64 (candF N k).1, .int .i64 (candF N k).2])) := fun w' => c_candidate N k hN5 hN1 hk w'
  generalize hz : stepF R m N k (F, t) = z at *
  clear hz
  generalize (candF N k).1 = x at *
  generalize (candF N k).2 = r at *
  have hr64 : 0 ≤ r ∧ r < 64 := ⟨hco.1, by have := hco.2; omega⟩
  have hR0 := hR
  have hFn : (Value.slice fo F.length fc).ownBlock ≠ some w.heap.size ∧ (Value.slice fo F.length fc).ownBlock ≠ some (w.heap.size + 1) := ⟨hF.not_new (Nat.le_refl _), hF.not_new (Nat.le_succ _)⟩
  have HNC : Hid (fo = none → fc = 0) := hF.nilcap
  have HST : Hid (St x ∧ Co r) := ⟨hst, hco⟩
  have hb := bel2 w (.cells #[.int .i64 N, .slice oa R.length cap, .int .i64 m, .int .i64 k, .slice fo F.length fc, .int .i64 t] 32) (.cells srZ 32)
  have kS := (Blk.new w #[.int .i64 N, .slice oa R.length cap, .int .i64 m, .int .i64 k, .slice fo F.length fc, .int .i64 t] 32).alloc (.cells srZ 32)
  have kZ := Blk.new (w.alloc (.cells #[.int .i64 N, .slice oa R.length cap, .int .i64 m, .int .i64 k, .slice fo F.length fc, .int .i64 t] 32)) srZ 32
  simp only [World.size_alloc] at kZ
  have hF0 := hF.keep hb
  unfold srZ at hb kS kZ hF0
  have s0 := kS.cell 0 (.int .i64 N) rfl
  have s3 := kS.cell 3 (.int .i64 k) rfl
  clear hst hco ht hm hF
  go_enter Tryz.func89, Tryz.ntmps89
  go_wp2_with fail
  refine Calls.mono (HCD.out _) ?_
  rintro e w1 ⟨rfl, hbn⟩
  replace kS := kS.keep hbn
  replace kZ := kZ.keep hbn
  replace hF := hF0.keep hbn
  replace hb := bel_to hb hbn
  have hs1 : w.heap.size + 1 < w1.heap.size := kZ.lt
  clear hbn s0 s3 hF0
  have s3 := kS.cell 3 (.int .i64 k) rfl
  have kS1 := kS.alloc (.cells #[.int .i64 x, .int .i64 r] 46)
  have kZ1 := kZ.alloc (.cells #[.int .i64 x, .int .i64 r] 46)
  have kD1 := Blk.new w1 #[.int .i64 x, .int .i64 r] 46
  have hb1 := hb.alloc hb.size (.cells #[.int .i64 x, .int .i64 r] 46)
  have hF1 := hF.keep ((Below.refl w1.heap.size w1).alloc (Nat.le_refl _) (.cells #[.int .i64 x, .int .i64 r] 46))
  have hFd : (Value.slice fo F.length fc).ownBlock ≠ some w1.heap.size := hF.not_new (Nat.le_refl _)
  have s3' := kS1.cell 3 (.int .i64 k) rfl
  have f3' := kS1.free 3
  have kS2 : Blk _ w.heap.size #[.int .i64 N, .slice oa R.length cap, .int .i64 m, .int .i64 ((k : Int) + 1), .slice fo F.length fc, .int .i64 t] 32 := kS1.set 3 (.int .i64 ((k : Int) + 1))
  have kZ2 := kZ1.far ⟨w.heap.size, 3, none⟩ (.int .i64 ((k : Int) + 1)) (by simp)
  have kD2 := kD1.far ⟨w.heap.size, 3, none⟩ (.int .i64 ((k : Int) + 1)) (by simp; omega)
  have hb2 := Below.setCell (p := (⟨w.heap.size, 3, none⟩ : Addr)) hb1 (Nat.le_refl _) (.int .i64 ((k : Int) + 1))
  have hF2 := hF1.set_ne 3 (.int .i64 ((k : Int) + 1)) hFn.1
  have d0 := kD2.cell 0 (.int .i64 x) rfl
  have d1 := kD2.cell 1 (.int .i64 r) rfl
  have hs2 : w1.heap.size < ((w1.alloc (.cells #[.int .i64 x, .int .i64 r] 46)).setCell ⟨w.heap.size, 3, none⟩ (.int .i64 ((k : Int) + 1))).heap.size := by simp
  clear kS kZ hb kS1 kZ1 kD1 hb1 hF hF1
  go_wp2_with fail
  cases h1 : hasc x r
  · refine Calls.mono (Ans.eqb (c_has _ _ hr64 _) h1) ?_
    rintro e w3 ⟨rfl, hbn⟩
    replace kS2 := kS2.keep hbn
    replace kZ2 := kZ2.keep hbn
    replace kD2 := kD2.keep hbn
    replace hF2 := hF2.keep hbn
    replace hb2 := bel_to hb2 hbn
    clear hbn d0 d1 s3 s3' f3'
    have s4 := kS2.cell 4 (.slice fo F.length fc) rfl
    generalize hd9 : w1.heap.size = d at *
    have hsd : w.heap.size + 1 < d := hs1
    clear hd9 hs2 hs1
    have hFr : F.length ≤ Room := by unfold Room; omega
    go_wp2
    go_loopw [25] (fun i wr => ∃ j : Nat, i = .int .i64 j ∧ j ≤ F.length ∧ covS (F.take j) x r = false ∧ Blk wr w.heap.size #[.int .i64 N, .slice oa R.length cap, .int .i64 m, .int .i64 ((k : Int) + 1), .slice fo F.length fc, .int .i64 t] 32 ∧ Blk wr (w.heap.size + 1) srZ 32 ∧ Blk wr d #[.int .i64 x, .int .i64 r] 46 ∧ OwnD wr B (.slice fo F.length fc) F ∧ Below w.heap.size w wr) (fun i _ => F.length - (intOf i).toNat)
    case atStart => exact ⟨0, rfl, Nat.zero_le _, rfl, kS2, kZ2, kD2, hF2, hb2⟩
    case round =>
      clear kS2 kZ2 kD2 hF2 hb2 s4
      obtain ⟨j, rfl, hj, hcov, kS, kZ, kD, hF, hb⟩ := hrel
      have HC : Hid (covS (F.take j) x r = false) := hcov
      clear hcov
      by_cases hlt : j < F.length
      · obtain ⟨b, off, rfl, hbs, hc⟩ := (hF.deps rfl hFr).at_ (by omega)
        have hc1 := (hc j hlt).1
        have hc2 := (hc j hlt).2
        have HT : Hid (covS (F.take (j + 1)) x r = (covS (F.take j) x r || ((nr F j == r) && ins (nl F j) x))) := covS_take hlt
        have HA : Hid (((nr F j == r) && ins (nl F j) x) = true → covS F x r = true) := covS_at hlt
        clear hc
        generalize nl F j = a at *
        generalize nr F j = q at *
        have hba := (Below.refl wr.heap.size wr).alloc (Nat.le_refl _) (.cells #[.int .i64 a, .int .i64 q] 46)
        replace kS := kS.keep hba
        replace kZ := kZ.keep hba
        replace kD := kD.keep hba
        replace hF := hF.keep hba
        replace hb := bel_to hb hba
        have g0 := box_at wr #[.int .i64 a, .int .i64 q] 46 0 _ rfl
        have g1 := box_at wr #[.int .i64 a, .int .i64 q] 46 1 _ rfl
        have d0 := kD.cell 0 (.int .i64 x) rfl
        have d1 := kD.cell 1 (.int .i64 r) rfl
        clear hba
        cases hq : (q == r)
        · go_wp2
          go_roundw
          case rel => exact ⟨j + 1, by go_num, by omega, by rw [HT.out, HC.out, hq]; rfl, kS, kZ, kD, hF, hb⟩
          case measure => simp [intOf]; omega
        · cases hi3 : ins a x
          · go_wp2_with fail
            refine Calls.mono (Ans.eqb (c_inside _ _ _) hi3) ?_
            rintro e w4 ⟨rfl, hbn⟩
            replace kS := kS.keep hbn
            replace kZ := kZ.keep hbn
            replace kD := kD.keep hbn
            replace hF := hF.keep hbn
            replace hb := bel_to hb hbn
            clear hbn g0 g1 d0 d1
            go_wp2
            go_roundw
            case rel => exact ⟨j + 1, by go_num, by omega, by rw [HT.out, HC.out, hq, hi3]; rfl, kS, kZ, kD, hF, hb⟩
            case measure => simp [intOf]; omega
          · have HV : Hid (z = (F, t)) := by show z = (F, t); rw [HZ.out, h1, HA.out (by rw [hq, hi3]; rfl)]; rfl
            go_wp2_with fail
            refine Calls.mono (Ans.eqb (c_inside _ _ _) hi3) ?_
            rintro e w4 ⟨rfl, hbn⟩
            replace kS := kS.keep hbn
            replace kZ := kZ.keep hbn
            replace hF := hF.keep hbn
            replace hb := bel_to hb hbn
            clear hbn g0 g1 d0 d1 kD
            have s0 := kS.cell 0 (.int .i64 N) rfl
            have s1 := kS.cell 1 (.slice oa R.length cap) rfl
            have s2 := kS.cell 2 (.int .i64 m) rfl
            have s3 := kS.cell 3 (.int .i64 ((k : Int) + 1)) rfl
            have s4 := kS.cell 4 (.slice (some ⟨b, off, none⟩) F.length fc) rfl
            have s5 := kS.cell 5 (.int .i64 t) rfl
            have z0 := kZ.cell 0 (.int .i64 0) rfl
            have z1 := kZ.cell 1 (.slice none 0 0) rfl
            have z2 := kZ.cell 2 (.int .i64 0) rfl
            have z3 := kZ.cell 3 (.int .i64 0) rfl
            have z4 := kZ.cell 4 (.slice none 0 0) rfl
            have z5 := kZ.cell 5 (.int .i64 0) rfl
            have f0 := kZ.free 0
            have f1 := kZ.free 1
            have f2 := kZ.free 2
            have f3 := kZ.free 3
            have f4 := kZ.free 4
            have f5 := kZ.free 5
            go_wp2
            refine bodyPost_ret (v := .agg #[.int .i64 N, .slice oa R.length cap, .int .i64 m, .int .i64 ((k : Int) + 1), .slice (some ⟨b, off, none⟩) F.length fc, .int .i64 t]) (by simp [results, Tryz.results89, go_sem, z0, z1, z2, z3, z4, z5]) rfl ?_
            rw [HV.out]
            exact ⟨_, fc, rfl, OwnD.set6 hF hFn.2 _ _ _ _ _ _, Fresh.self _ _, bel_set6 hb (Nat.le_succ _) _ _ _ _ _ _⟩
      · have hjj : j = F.length := by omega
        have HCF : Hid (covS F x r = false) := by have h := HC.out; rw [hjj, List.take_length] at h; exact h
        clear hjj
        have s5 := kS.cell 5 (.int .i64 t) rfl
        have f5 := kS.free 5
        have kS2 : Blk _ w.heap.size #[.int .i64 N, .slice oa R.length cap, .int .i64 m, .int .i64 ((k : Int) + 1), .slice fo F.length fc, .int .i64 (t + 1)] 32 := kS.set 5 (.int .i64 (t + 1))
        have kZ2 := kZ.far ⟨w.heap.size, 5, none⟩ (.int .i64 (t + 1)) (by simp)
        have kD2 := kD.far ⟨w.heap.size, 5, none⟩ (.int .i64 (t + 1)) (by simp; omega)
        have hb2 := Below.setCell (p := (⟨w.heap.size, 5, none⟩ : Addr)) hb (Nat.le_refl _) (.int .i64 (t + 1))
        have hF2 := hF.set_ne 5 (.int .i64 (t + 1)) hFn.1
        have s0 := kS2.cell 0 (.int .i64 N) rfl
        have s1 := kS2.cell 1 (.slice oa R.length cap) rfl
        have s2 := kS2.cell 2 (.int .i64 m) rfl
        have d0 := kD2.cell 0 (.int .i64 x) rfl
        have d1 := kD2.cell 1 (.int .i64 r) rfl
        clear kS kZ kD hb hF
        go_wp2_with fail
        cases h2 : holdsF R m x r
        · have HV : Hid (z = (F, t + 1)) := by show z = (F, t + 1); rw [HZ.out, h1, HCF.out, h2]; rfl
          refine Calls.mono (Ans.eqb (b' := false) (c_HoldsDep N oa cap R m x r _ (hR0.keep hb2)) (by rw [h2]; simp)) ?_
          rintro e w5 ⟨rfl, hbn⟩
          replace kS2 := kS2.keep hbn
          replace kZ2 := kZ2.keep hbn
          replace hF2 := hF2.keep hbn
          replace hb2 := bel_to hb2 hbn
          clear hbn d0 d1 s0 s1 s2 s5 f5 kD2
          have s0 := kS2.cell 0 (.int .i64 N) rfl
          have s1 := kS2.cell 1 (.slice oa R.length cap) rfl
          have s2 := kS2.cell 2 (.int .i64 m) rfl
          have s3 := kS2.cell 3 (.int .i64 ((k : Int) + 1)) rfl
          have s4 := kS2.cell 4 (.slice fo F.length fc) rfl
          have s5 := kS2.cell 5 (.int .i64 (t + 1)) rfl
          have z0 := kZ2.cell 0 (.int .i64 0) rfl
          have z1 := kZ2.cell 1 (.slice none 0 0) rfl
          have z2 := kZ2.cell 2 (.int .i64 0) rfl
          have z3 := kZ2.cell 3 (.int .i64 0) rfl
          have z4 := kZ2.cell 4 (.slice none 0 0) rfl
          have z5 := kZ2.cell 5 (.int .i64 0) rfl
          have f0 := kZ2.free 0
          have f1 := kZ2.free 1
          have f2 := kZ2.free 2
          have f3 := kZ2.free 3
          have f4 := kZ2.free 4
          have f5 := kZ2.free 5
          go_wp2
          refine bodyPost_ret (v := .agg #[.int .i64 N, .slice oa R.length cap, .int .i64 m, .int .i64 ((k : Int) + 1), .slice fo F.length fc, .int .i64 (t + 1)]) (by simp [results, Tryz.results89, go_sem, z0, z1, z2, z3, z4, z5]) rfl ?_
          rw [HV.out]
          exact ⟨fo, fc, rfl, OwnD.set6 hF2 hFn.2 _ _ _ _ _ _, Fresh.self _ _, bel_set6 hb2 (Nat.le_succ _) _ _ _ _ _ _⟩
        · have HV : Hid (z = (F ++ [(x, r)], t + 1)) := by show z = _; rw [HZ.out, h1, HCF.out, h2]; rfl
          refine Calls.mono (Ans.eqb (b' := true) (c_HoldsDep N oa cap R m x r _ (hR0.keep hb2)) (by rw [h2, hask]; rfl)) ?_
          rintro e w5 ⟨rfl, hbn⟩
          replace kS2 := kS2.keep hbn
          replace kZ2 := kZ2.keep hbn
          replace kD2 := kD2.keep hbn
          replace hF2 := hF2.keep hbn
          replace hb2 := bel_to hb2 hbn
          clear hbn d0 d1 s0 s1 s2 s5 f5
          have s4 := kS2.cell 4 (.slice fo F.length fc) rfl
          have f4 := kS2.free 4
          have d0 := kD2.cell 0 (.int .i64 x) rfl
          have d1 := kD2.cell 1 (.int .i64 r) rfl
          have s4b : (w5.alloc (.cells #[.int .i64 x, .int .i64 r] 46)).drew.cell? ⟨w.heap.size, 4, none⟩ = some (.slice fo F.length fc) := (kS2.alloc _).cell 4 _ rfl
          have hbase : B ≤ w5.heap.size := Nat.le_trans hB hb2.size
          have h63 : F.length + 1 ≤ maxLen := by unfold maxLen; omega
          have h64 : (F.length + 1) * 16 ≤ 140737488355328 := by omega
          go_wp2_with fail
          go_region_law (first
            | (go_simp; refine (c_copyDeps fo fc F _ ((hF2.keep (by first | exact (Below.refl _ _).drew | exact (Below.refl _ _).drew.alloc (Nat.le_refl _) _)).deps rfl hFr) HNC.out).mono ?_; rintro e w6 ⟨v6, rfl, hO, hbn⟩; have hb56 := bel_to (w := w5) (by first | exact (Below.refl _ _).drew | exact (Below.refl _ _).drew.alloc (Nat.le_refl _) _) hbn; replace hO := hO.based (show w5.heap.size ≤ _ by simp); have kS6 := kS2.keep hb56; have kZ6 := kZ2.keep hb56; have kD6 := kD2.keep hb56; have hb6 := bel_to hb2 hb56; have d0 := kD6.cell 0 (.int .i64 x) rfl; have d1 := kD6.cell 1 (.int .i64 r) rfl)
            | (refine step_append_own _ (by rfl) _ _ 30 (by rfl) w5.heap.size 46 i0 (.agg #[.int .i64 0, .int .i64 0]) 2 16 Tryz.underlying30 hi hz0 hz1 hz2 rfl (by decide) v6 _ _ (by rfl) (World.ownsRow.alloc hO _) _ 1 1 [.int .i64 x, .int .i64 r] (by rfl) rfl (World.news_of_block (cs := #[.int .i64 x, .int .i64 r]) (t := 46) (fr := (0, 0)) (heap_alloc_new _ _)) (by intro u hu; simp at hu; rcases hu with rfl | rfl <;> rfl) (show _ from h63) (show _ from h64) (by have := hb56.size; simp; omega) ?_; intro v7 w7 hown hgrow; have hne9 := fun (g : Nat) (hg : g < w5.heap.size) => (show some g ≠ v6.ownBlock from fun e => by have := (World.ownsRow.lt hO g e.symm).1; omega); have kS7 := (kS6.alloc _).grown hgrow (hne9 _ kS2.lt); have kZ7 := (kZ6.alloc _).grown hgrow (hne9 _ kZ2.lt); have hb7 := (hb6.alloc hb6.size _).grown hgrow (by have := hb6.size; simp; omega) (fun g hg => Nat.le_trans hb2.size (World.ownsRow.lt hO g hg).1); have hO7 := own_snocD' hown; clear hown hgrow; obtain ⟨o7, c7, rfl⟩ := snoc_shape hO7; have s4 := kS7.cell 4 (.slice fo F.length fc) rfl; have f4 := kS7.free 4)
            | (refine step_append_own _ (by rfl) _ _ 30 (by rfl) w5.heap.size 46 i0 (.agg #[.int .i64 0, .int .i64 0]) 2 16 Tryz.underlying30 hi hz0 hz1 hz2 rfl (by decide) v6 _ _ (by rfl) hO _ 1 1 [.int .i64 x, .int .i64 r] (by rfl) rfl (World.news_of_block (cs := #[.int .i64 x, .int .i64 r]) (t := 46) (fr := (0, 0)) (lit_keep_drew hbn (by simp))) (by intro u hu; simp at hu; rcases hu with rfl | rfl <;> rfl) (show _ from h63) (show _ from h64) hb56.size ?_; intro v7 w7 hown hgrow; have hne9 := fun (g : Nat) (hg : g < w5.heap.size) => (show some g ≠ v6.ownBlock from fun e => by have := (World.ownsRow.lt hO g e.symm).1; omega); have kS7 := (kS6).grown hgrow (hne9 _ kS2.lt); have kZ7 := (kZ6).grown hgrow (hne9 _ kZ2.lt); have hb7 := (hb6).grown hgrow (by have := hb6.size; simp; omega) (fun g hg => Nat.le_trans hb2.size (World.ownsRow.lt hO g hg).1); have hO7 := own_snocD' hown; clear hown hgrow; obtain ⟨o7, c7, rfl⟩ := snoc_shape hO7; have s4 := kS7.cell 4 (.slice fo F.length fc) rfl; have f4 := kS7.free 4)
            | fail)
          all_goals
            have kS8 : Blk _ w.heap.size #[.int .i64 N, .slice oa R.length cap, .int .i64 m, .int .i64 ((k : Int) + 1), .slice o7 (F.length + 1) c7, .int .i64 (t + 1)] 32 := kS7.set 4 (.slice o7 (F.length + 1) c7)
            have kZ8 := kZ7.far ⟨w.heap.size, 4, none⟩ (.slice o7 (F.length + 1) c7) (by simp)
            have hb8 := Below.setCell (p := (⟨w.heap.size, 4, none⟩ : Addr)) hb7 (Nat.le_refl _) (.slice o7 (F.length + 1) c7)
            have hn7 : ∀ g, g < w5.heap.size → (Value.slice o7 (F.length + 1) c7).ownBlock ≠ some g := fun g hg e => by have := (World.ownsRow.lt hO7 g e).1; omega
            have hs5 := kS2.lt
            have hz5 := kZ2.lt
            have hO8 := hO7.set_ne 4 (.slice o7 (F.length + 1) c7) (hn7 _ hs5)
            have s0 := kS8.cell 0 (.int .i64 N) rfl
            have s1 := kS8.cell 1 (.slice oa R.length cap) rfl
            have s2 := kS8.cell 2 (.int .i64 m) rfl
            have s3 := kS8.cell 3 (.int .i64 ((k : Int) + 1)) rfl
            have s4 := kS8.cell 4 (.slice o7 (F.length + 1) c7) rfl
            have s5 := kS8.cell 5 (.int .i64 (t + 1)) rfl
            have z0 := kZ8.cell 0 (.int .i64 0) rfl
            have z1 := kZ8.cell 1 (.slice none 0 0) rfl
            have z2 := kZ8.cell 2 (.int .i64 0) rfl
            have z3 := kZ8.cell 3 (.int .i64 0) rfl
            have z4 := kZ8.cell 4 (.slice none 0 0) rfl
            have z5 := kZ8.cell 5 (.int .i64 0) rfl
            have f0 := kZ8.free 0
            have f1 := kZ8.free 1
            have f2 := kZ8.free 2
            have f3 := kZ8.free 3
            have f4 := kZ8.free 4
            have f5 := kZ8.free 5
            go_wp2
            refine bodyPost_ret (v := .agg #[.int .i64 N, .slice oa R.length cap, .int .i64 m, .int .i64 ((k : Int) + 1), .slice o7 (F.length + 1) c7, .int .i64 (t + 1)]) (by simp [results, Tryz.results89, go_sem, z0, z1, z2, z3, z4, z5]) rfl ?_
            rw [HV.out]
            have hl9 : (F ++ [(x, r)]).length = F.length + 1 := by simp
            refine ⟨o7, c7, ?_, ?_, ?_, bel_set6 hb8 (Nat.le_succ _) _ _ _ _ _ _⟩
            · show Ending.returned _ = Ending.returned (.agg #[.int .i64 N, .slice oa R.length cap, .int .i64 m, .int .i64 ((k : Int) + 1), .slice o7 (F ++ [(x, r)]).length c7, .int .i64 (t + 1)])
              rw [hl9]
            · show OwnD _ B (.slice o7 (F ++ [(x, r)]).length c7) (F ++ [(x, r)])
              rw [hl9]
              exact OwnD.set6 (hO8.based hbase) (hn7 _ hz5) _ _ _ _ _ _
            · show Fresh w _ (.slice o7 (F ++ [(x, r)]).length c7)
              rw [hl9]
              exact .inr (fun g hg => Nat.le_trans hb2.size (World.ownsRow.lt hO7 g hg).1)
  · refine Calls.mono (Ans.eqb (c_has _ _ hr64 _) h1) ?_
    rintro e w3 ⟨rfl, hbn⟩
    replace kS2 := kS2.keep hbn
    replace kZ2 := kZ2.keep hbn
    replace hF2 := hF2.keep hbn
    replace hb2 := bel_to hb2 hbn
    have HV : Hid (z = (F, t)) := by show z = (F, t); rw [HZ.out, h1]; rfl
    clear hbn d0 d1 s3 s3' f3' kD2
    have s0 := kS2.cell 0 (.int .i64 N) rfl
    have s1 := kS2.cell 1 (.slice oa R.length cap) rfl
    have s2 := kS2.cell 2 (.int .i64 m) rfl
    have s3 := kS2.cell 3 (.int .i64 ((k : Int) + 1)) rfl
    have s4 := kS2.cell 4 (.slice fo F.length fc) rfl
    have s5 := kS2.cell 5 (.int .i64 t) rfl
    have z0 := kZ2.cell 0 (.int .i64 0) rfl
    have z1 := kZ2.cell 1 (.slice none 0 0) rfl
    have z2 := kZ2.cell 2 (.int .i64 0) rfl
    have z3 := kZ2.cell 3 (.int .i64 0) rfl
    have z4 := kZ2.cell 4 (.slice none 0 0) rfl
    have z5 := kZ2.cell 5 (.int .i64 0) rfl
    have f0 := kZ2.free 0
    have f1 := kZ2.free 1
    have f2 := kZ2.free 2
    have f3 := kZ2.free 3
    have f4 := kZ2.free 4
    have f5 := kZ2.free 5
    go_wp2
    refine bodyPost_ret (v := .agg #[.int .i64 N, .slice oa R.length cap, .int .i64 m, .int .i64 ((k : Int) + 1), .slice fo F.length fc, .int .i64 t]) (by simp [results, Tryz.results89, go_sem, z0, z1, z2, z3, z4, z5]) rfl ?_
    rw [HV.out]
    exact ⟨fo, fc, rfl, OwnD.set6 hF2 hFn.2 _ _ _ _ _ _, Fresh.self _ _, bel_set6 hb2 (Nat.le_succ _) _ _ _ _ _ _⟩
end Go.Proofs.YtjbmpnbfiahdhaaGreat
