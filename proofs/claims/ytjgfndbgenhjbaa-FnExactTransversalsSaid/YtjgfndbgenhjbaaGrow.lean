/- GrowTransversals: what it computes, and the program's walk. -/
import Derived.Test.YtjgfndbgenhjbaaMin4
namespace Go.Proofs.Ytjgfndbgenhjbaa
open Go.RowKit
set_option linter.unusedVariables false
set_option maxRecDepth 100000

def growOne (e x : Int) : List Int := if apart x e then (membersF e).map (fun c => uni x (one c)) else [x]
def grownF (L : List Int) (e : Int) : List Int := L.flatMap (growOne e)
def growOk (L : List Int) (e : Int) : Bool := (setsF L && decide (L.length ≤ 100)) && stB e
def growF (L : List Int) (e : Int) : List Int := if growOk L e then minF (distinctF (grownF L e)) else []
theorem members_co {x : Int} : ∀ c ∈ membersF x, Co c ∧ hasc x c = true := by
  intro c hc
  unfold membersF at hc
  split at hc
  · unfold membersUpTo at hc
    obtain ⟨h1, h2⟩ := List.mem_filter.1 hc
    obtain ⟨k, hk, rfl⟩ := List.mem_map.1 h1
    have := List.mem_range.1 hk
    exact ⟨⟨by omega, by omega⟩, h2⟩
  · cases hc
theorem members_len (x : Int) : (membersF x).length ≤ 5 := by
  unfold membersF
  split
  · exact membersUpTo_le x 5
  · simp
theorem growOne_len (e x : Int) : (growOne e x).length ≤ 5 := by
  unfold growOne
  split
  · rw [List.length_map]; exact members_len e
  · simp
theorem grown_succ {L : List Int} (e : Int) {k : Nat} (hk : k < L.length) : grownF (L.take (k + 1)) e = grownF (L.take k) e ++ growOne e (nth L k) := by
  unfold grownF
  rw [List.take_add_one, nth_eq hk, List.flatMap_append]
  simp
theorem grown_len (e : Int) : ∀ L : List Int, (grownF L e).length ≤ 5 * L.length
  | [] => by simp [grownF]
  | x :: L => by
    have h1 := growOne_len e x
    have h2 := grown_len e L
    have : grownF (x :: L) e = growOne e x ++ grownF L e := rfl
    rw [this, List.length_append, List.length_cons]
    omega
theorem growOne_st {e x : Int} (hx : St x) : ∀ y ∈ growOne e x, St y := by
  intro y hy
  unfold growOne at hy
  split at hy
  · obtain ⟨c, hc, rfl⟩ := List.mem_map.1 hy
    exact uni_st hx (one_st (members_co c hc).1)
  · simp at hy; subst hy; exact hx
theorem grown_st {L : List Int} {e : Int} (h : ∀ x ∈ L, St x) : ∀ y ∈ grownF L e, St y := by
  intro y hy
  obtain ⟨x, hx, hy⟩ := List.mem_flatMap.1 hy
  exact growOne_st (h x hx) y hy
theorem growF_len (L : List Int) (e : Int) : (growF L e).length ≤ Room := by
  unfold growF
  split
  · have := minF_len (distinctF (grownF L e)); unfold Room; omega
  · simp
theorem map_take_succ {f : Int → Int} {M : List Int} {j : Nat} (h : j < M.length) : (M.take (j + 1)).map f = (M.take j).map f ++ [f (nth M j)] := by
  rw [List.take_add_one, nth_eq h, List.map_append]; rfl

set_option maxHeartbeats 1600000 in
theorem c_GrowTransversals (oa) (cap : Nat) (L : List Int) (e : Int) (w : World) (hL : IntsAt w oa L) :
    Calls Try.prog 53 #[.slice oa L.length cap, .int .i64 e] w fun en w' => ∃ v, en = .returned v ∧ OwnI w' w.heap.size v (growF L e) ∧ Below w.heap.size w w' := by
  obtain ⟨i0, hi, hz0, hz1, hz2⟩ := info_parts info_int
  have hn : L.length ≤ 1073741824 := hL.len
  have hb := Below.refl w.heap.size w
  cases hs : (setsF L && decide (L.length ≤ 100))
  · have HM : Hid (growF L e = []) := by show growF L e = []; unfold growF growOk; rw [hs]; rfl
    go_enter Try.func53, Try.ntmps53
    go_wp2_with (first | (go_at_call 102; refine Calls.mono (Ans.eqb (c_areSets _ _ _ _ (hL.keep hb)) hs) ?_; rintro e w1 ⟨rfl, hbn⟩; replace hb := bel_to (w := w) (by first | exact hb | exact hb.alloc hb.size _ | exact (hb.alloc hb.size _).alloc (Nat.le_trans hb.size (by simp)) _ | exact hb.setCell (by simp [hb.size]) _) hbn; clear hbn))
    go_ret
    exact ⟨_, rfl, by rw [HM.out]; exact OwnI.nil _ _, hb⟩
  · cases he : stB e
    · have HM : Hid (growF L e = []) := by show growF L e = []; unfold growF growOk; rw [hs, he]; rfl
      go_enter Try.func53, Try.ntmps53
      go_wp2_with (first | (go_at_call 102; refine Calls.mono (Ans.eqb (c_areSets _ _ _ _ (hL.keep hb)) hs) ?_; rintro e w1 ⟨rfl, hbn⟩; replace hb := bel_to (w := w) (by first | exact hb | exact hb.alloc hb.size _ | exact (hb.alloc hb.size _).alloc (Nat.le_trans hb.size (by simp)) _ | exact hb.setCell (by simp [hb.size]) _) hbn; clear hbn) | (go_at_call 103; refine Calls.mono (Ans.eqb (c_isSet _ _) he) ?_; rintro e w1 ⟨rfl, hbn⟩; replace hb := bel_to (w := w) (by first | exact hb | exact hb.alloc hb.size _ | exact (hb.alloc hb.size _).alloc (Nat.le_trans hb.size (by simp)) _ | exact hb.setCell (by simp [hb.size]) _) hbn; clear hbn))
      go_ret
      exact ⟨_, rfl, by rw [HM.out]; exact OwnI.nil _ _, hb⟩
    · have hs' : setsF L = true ∧ L.length ≤ 100 := by simpa using hs
      have HM : Hid (growF L e = minF (distinctF (grownF L e))) := by show growF L e = _; unfold growF growOk; rw [hs, he]; rfl
      go_enter Try.func53, Try.ntmps53
      go_wp2_with (first | (go_at_call 102; refine Calls.mono (Ans.eqb (c_areSets _ _ _ _ (hL.keep hb)) hs) ?_; rintro e w1 ⟨rfl, hbn⟩; replace hb := bel_to (w := w) (by first | exact hb | exact hb.alloc hb.size _ | exact (hb.alloc hb.size _).alloc (Nat.le_trans hb.size (by simp)) _ | exact hb.setCell (by simp [hb.size]) _) hbn; clear hbn) | (go_at_call 103; refine Calls.mono (Ans.eqb (c_isSet _ _) he) ?_; rintro e w1 ⟨rfl, hbn⟩; replace hb := bel_to (w := w) (by first | exact hb | exact hb.alloc hb.size _ | exact (hb.alloc hb.size _).alloc (Nat.le_trans hb.size (by simp)) _ | exact hb.setCell (by simp [hb.size]) _) hbn; clear hbn))
      go_loopw [5, 21] (fun v i wr => ∃ k : Nat, i = .int .i64 k ∧ k ≤ L.length ∧ OwnI wr w.heap.size v (grownF (L.take k) e) ∧ Below w.heap.size w wr) (fun _ i _ => L.length - (intOf i).toNat)
      case atStart => exact ⟨0, rfl, Nat.zero_le _, by simpa [grownF] using (OwnI.empty _ _ (Nat.le_refl _)).based hb.size, hb.alloc hb.size _⟩
      case round =>
        clear hb
        obtain ⟨k, rfl, hk, hI, hb⟩ := hrel
        by_cases hlt : k < L.length
        · have HS : Hid (grownF (L.take (k + 1)) e = grownF (L.take k) e ++ growOne e (nth L k)) := grown_succ e hlt
          have hfl : (grownF (L.take k) e).length ≤ 500 := by
            have := grown_len e (L.take k)
            rw [List.length_take] at this
            omega
          obtain ⟨b, off, rfl, hbs, hc⟩ := hL.at_ (by omega)
          have hc1 := cell_keep (hc k hlt) hb
          clear hc
          generalize nth L k = x at *
          generalize grownF (L.take k) e = F at *
          cases hap : (bits BinOp.and .i64 x e == 0)
          · have hap2 : (bits BinOp.and .i64 x e != 0) = true := by rw [bneI, hap]; rfl
            have HG : Hid (growOne e x = [x]) := by show growOne e x = [x]; unfold growOne apart; rw [hap]; rfl
            go_wp2_with (first | (at_builtin; refine wpList_append_own _ rfl _ _ 60 rfl w.heap.size 3 i0 (.int .i64 0) 1 8 Try.underlying60 hi hz0 hz1 hz2 rfl (by decide) _ _ _ rfl (World.ownsRow.alloc hI _) _ 1 1 [.int .i64 (x)] rfl rfl (by intro j u hj; match j, hj with | 0, hj => simp at hj; subst hj; simp [Addr.add]) (by intro u hu; simp at hu; subst hu; rfl) (by unfold maxLen; omega) (by omega) (by have := hb.size; simp; omega) ?_; intro v' w1 hown hgrow _; replace hb := (hb.alloc hb.size _).grown hgrow (by have := hb.size; simp; omega) (fun g hg => (World.ownsRow.lt hI g hg).1); replace hI := OwnI.snoc hown; clear hown hgrow) | fail)
            go_roundw
            case rel => exact ⟨k + 1, by go_num, by omega, by rw [HS.out, HG.out]; exact hI, hb⟩
            case measure => simp [intOf]; omega
          · have hap2 : (bits BinOp.and .i64 x e != 0) = false := by rw [bneI, hap]; rfl
            have HG : Hid (growOne e x = (membersF e).map (fun c => uni x (one c))) := by show growOne e x = _; unfold growOne apart; rw [hap]; rfl
            have hml := members_len e
            have HC : Hid (∀ c ∈ membersF e, Co c) := fun c hc => (members_co c hc).1
            go_wp2_with fail
            have old := hI
            refine (c_Members _ _).mono ?_
            rintro en w1 ⟨v1, rfl, hM, hbn⟩
            have ap_hM := (apart_old old hM).symm
            replace hI := hI.keep hbn
            replace hM := hM.based hb.size
            replace hb := bel_to hb hbn
            clear old hbn hc1
            generalize membersF e = M at *
            obtain ⟨o1, c1, rfl⟩ := hM.shape
            go_wp2
            go_loopw [5, 36] (fun v i wr => ∃ j : Nat, i = .int .i64 j ∧ j ≤ M.length ∧ OwnI wr w.heap.size v (F ++ (M.take j).map (fun c => uni x (one c))) ∧ OwnI wr w.heap.size (.slice o1 M.length c1) M ∧ Apart (.slice o1 M.length c1) v ∧ Below w.heap.size w wr) (fun _ i _ => M.length - (intOf i).toNat)
            case atStart => exact ⟨0, rfl, Nat.zero_le _, by simpa using hI, hM, ap_hM, hb⟩
            case round =>
              clear hI hM ap_hM hb
              obtain ⟨j, rfl, hj, hI, hM, ap_hM, hb⟩ := hrel
              by_cases hlj : j < M.length
              · obtain ⟨b2, off2, rfl, hbs2, hca⟩ := (hM.ints rfl (by unfold Room; omega)).at_ (by omega)
                have hc2 := hca j hlj
                have HT : Hid ((M.take (j + 1)).map (fun c => uni x (one c)) = (M.take j).map (fun c => uni x (one c)) ++ [uni x (one (nth M j))]) := map_take_succ (f := fun c => uni x (one c)) hlj
                have hco := HC.out _ (List.mem_iff_getElem?.2 ⟨j, nth_eq hlj⟩)
                have hfl2 : (F ++ (M.take j).map (fun c => uni x (one c))).length ≤ 505 := by rw [List.length_append, List.length_map, List.length_take]; omega
                have HA : Hid (F ++ (M.take j).map (fun c => uni x (one c)) ++ [uni x (one (nth M j))] = F ++ (M.take (j + 1)).map (fun c => uni x (one c))) := by
                  show F ++ (M.take j).map (fun c => uni x (one c)) ++ [uni x (one (nth M j))] = F ++ (M.take (j + 1)).map (fun c => uni x (one c))
                  rw [HT.out, List.append_assoc]
                clear hca HT
                generalize nth M j = c at *
                generalize F ++ (M.take j).map (fun c => uni x (one c)) = F2 at *
                have hco1 := hco.1
                have hco2 := hco.2
                clear hco
                go_wp2_with (first | (at_builtin; refine wpList_append_fresh rfl _ _ 60 rfl w.heap.size 3 i0 (.int .i64 0) 1 8 Try.underlying60 hi hz0 hz1 hz2 rfl (by decide) _ _ _ rfl (World.ownsRow.alloc hI _) _ 1 1 [.int .i64 ((bits BinOp.or .i64 x (wrap64 (2 ^ c.toNat))))] rfl rfl (by intro j u hj; match j, hj with | 0, hj => simp at hj; subst hj; simp [Addr.add]) (by intro u hu; simp at hu; subst hu; rfl) (by unfold maxLen; omega) (by omega) (by have := hb.size; simp; omega) ?_; intro v' w1 hown hgrow hfr; replace hb := (hb.alloc hb.size _).grown hgrow (by have := hb.size; simp; omega) (fun g hg => (World.ownsRow.lt hI g hg).1); obtain ⟨hM, ap_hM⟩ := OwnI.past hM hgrow ap_hM hfr; replace hI := OwnI.snoc hown; clear hown hgrow hfr) | fail)
                go_roundw
                case rel => exact ⟨j + 1, by go_num, by omega, by rw [← HA.out]; exact hI, hM, ap_hM, hb⟩
                case measure => simp [intOf]; omega
              · have hjj : j = M.length := by omega
                have HA : Hid (F ++ (M.take j).map (fun c => uni x (one c)) = F ++ M.map (fun c => uni x (one c))) := by
                  show F ++ (M.take j).map (fun c => uni x (one c)) = F ++ M.map (fun c => uni x (one c))
                  rw [hjj, List.take_length]
                clear hjj
                go_wp2
                go_roundw
                case rel => exact ⟨k + 1, by go_num, by omega, by rw [HS.out, HG.out, ← HA.out]; exact hI, hb⟩
                case measure => simp [intOf]; omega
        · have hkk : k = L.length := by omega
          have HF : Hid (grownF (L.take k) e = grownF L e) := by show grownF (L.take k) e = grownF L e; rw [hkk, List.take_length]
          have hfl : (grownF (L.take k) e).length ≤ Room := by
            have := grown_len e (L.take k)
            rw [List.length_take] at this
            unfold Room; omega
          clear hkk
          obtain ⟨oF, cF, rfl, hcF, hnF⟩ := hI.cap
          go_wp2_with fail
          refine (c_distinct _ _ _ _ (hI.ints rfl hfl) hnF).mono ?_
          rintro en w1 ⟨v1, rfl, hD, hbn⟩
          replace hb := bel_to hb hbn
          obtain ⟨oD, cD, rfl, hcD, hnD⟩ := hD.cap
          have hdl : (distinctF (grownF (L.take k) e)).length ≤ Room := by
            have h1 := compact_le (sortI (grownF (L.take k) e))
            rw [sortI_length] at h1
            exact Nat.le_trans h1 hfl
          go_wp2_with fail
          refine (c_MinimalSets _ _ _ _ (hD.ints rfl hdl) hnD).mono ?_
          rintro en w2 ⟨v2, rfl, hR, hbn2⟩
          replace hR := hR.based hb.size
          replace hb := bel_to hb hbn2
          go_wp2
          go_ret
          exact ⟨_, rfl, by rw [HM.out, ← HF.out]; exact hR, hb⟩
end Go.Proofs.Ytjgfndbgenhjbaa
