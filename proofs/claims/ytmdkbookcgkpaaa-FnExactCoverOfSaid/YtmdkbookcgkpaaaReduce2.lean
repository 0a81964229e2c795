/- ReduceLeft, of the program. -/
import Derived.Test.YtmdkbookcgkpaaaReduce
import Derived.BigRegion
import Derived.RegionTactic
import Derived.Outline
namespace Go.Proofs.Ytmdkbookcgkpaaa
open Go.RowKit
set_option linter.unusedVariables false

theorem members_mem {x c : Int} (hx : St x) : c ∈ membersF x ↔ Co c ∧ hasc x c = true := by
  have e : stB x = true := by simpa [stB] using hx
  unfold membersF membersUpTo
  rw [e, if_pos rfl, List.mem_filter, List.mem_map]
  constructor
  · rintro ⟨⟨k, hk, rfl⟩, h⟩
    exact ⟨⟨by omega, by have := List.mem_range.1 hk; omega⟩, h⟩
  · rintro ⟨hc, h⟩
    obtain ⟨k, hk, rfl⟩ := co_nat hc
    exact ⟨⟨k, List.mem_range.2 hk, rfl⟩, h⟩
theorem members_nodup (x : Int) : (membersF x).Nodup := by
  unfold membersF membersUpTo
  split
  · apply List.Pairwise.filter
    rw [show ((List.range 5).map fun (c : Nat) => (c : Int)) = fiveI from rfl]
    decide
  · exact List.Pairwise.nil
theorem members_len (x : Int) : (membersF x).length ≤ 5 := by
  unfold membersF; split
  · exact membersUpTo_le x 5
  · simp
theorem fold_filter {D : List (Int × Int)} {r l : Int} : ∀ (cs : List Int) (x : Int), St x → (∀ c ∈ cs, Co c) → cs.Nodup → (∀ c ∈ cs, hasc x c = hasc l c) →
    cs.foldl (redStep D r) x = (cs.filter (hasc l)).foldl (redStep D r) x
  | [], _, _, _, _, _ => rfl
  | c :: cs, x, hx, hco, hnd, h => by
    have hc := hco c (List.mem_cons_self ..)
    have hco' : ∀ d ∈ cs, Co d := fun d hd => hco d (List.mem_cons_of_mem _ hd)
    obtain ⟨hn1, hn2⟩ := List.nodup_cons.1 hnd
    have hst := redStep_st (D := D) (r := r) hx hc
    have hs : ∀ d ∈ cs, hasc (redStep D r x c) d = hasc l d := fun d hd => by
      rw [redStep_other hx hc (hco' d hd) (fun e => hn1 (e ▸ hd))]
      exact h d (List.mem_cons_of_mem _ hd)
    have ih := fold_filter (D := D) (r := r) (l := l) cs _ hst hco' hn2 hs
    rw [List.foldl_cons, List.filter_cons]
    cases hl : hasc l c
    · have e : redStep D r x c = x := redStep_no hx hc (by rw [h c (List.mem_cons_self ..), hl])
      rw [e] at ih ⊢
      exact ih
    · simp only [if_true, List.foldl_cons]
      exact ih
theorem redF_members {D : List (Int × Int)} {l r : Int} (hl : St l) : redF D l r = (membersF l).foldl (redStep D r) l := by
  have e : stB l = true := by simpa [stB] using hl
  have hm : membersF l = fiveI.filter (hasc l) := by unfold membersF membersUpTo; rw [e, if_pos rfl]; rfl
  rw [hm]
  exact fold_filter fiveI l hl (by decide) (by decide) (fun _ _ => rfl)
theorem nth_drop {L : List Int} {k : Nat} (hk : k < L.length) : L.drop k = nth L k :: L.drop (k + 1) := by
  rw [List.drop_eq_getElem_cons hk]
  congr 1
  have := nth_eq hk
  rw [List.getElem?_eq_getElem hk] at this
  exact Option.some.inj this

set_option maxHeartbeats 800000 in
theorem c_ReduceLeft (n : Int) (oa) (cap : Nat) (D : List (Int × Int)) (l r : Int) (w : World) (hD : DepsAt w oa D) :
    Ans Try.prog 30 #[.int .i64 n, .slice oa D.length cap, .agg #[.int .i64 l, .int .i64 r]] w (.agg #[.int .i64 (reduceF n D l r), .int .i64 r]) := by
  unfold Ans
  have hb := ((Below.refl w.heap.size w).alloc (Nat.le_refl _) (.cells #[.int .i64 l, .int .i64 r] 36)).alloc (by simp) (.cells #[.int .i64 0, .int .i64 0] 36)
  have k0 := (Blk.new w #[.int .i64 l, .int .i64 r] 36).alloc (.cells #[.int .i64 0, .int .i64 0] 36)
  have k1 := Blk.new (w.alloc (.cells #[.int .i64 l, .int .i64 r] 36)) #[.int .i64 0, .int .i64 0] 36
  have es : (w.alloc (.cells #[.int .i64 l, .int .i64 r] 36)).heap.size = w.heap.size + 1 := by simp
  rw [es] at k1
  have hrun := (c_ImpliesDep n oa cap D l r _ (hD.keep hb))
  cases hi : impliesDepF n D l r
  · have HV : Hid (reduceF n D l r = l) := by unfold reduceF; rw [hi]; rfl
    go_enter Try.func30, Try.ntmps30
    go_wp2_with fail
    refine Calls.mono hrun ?_
    rintro e w1 ⟨rfl, hbn⟩
    replace k0 := k0.keep hbn
    replace k1 := k1.keep hbn
    have a0 := k0.cell 0 _ rfl
    have a1 := k0.cell 1 _ rfl
    have d0 := k1.cell 0 _ rfl
    have d1 := k1.cell 1 _ rfl
    have f0 := k1.free 0
    have f1 := k1.free 1
    replace hb := bel_to (w := w) hb hbn
    have m0 := ((k1.set 0 (.int .i64 l)).set 1 (.int .i64 r))
    have g0 := m0.cell 0 _ rfl
    have g1 := m0.cell 1 _ rfl
    clear hbn k0 k1 m0 hrun
    go_wp2
    exact bodyPost_ret (v := .agg #[.int .i64 l, .int .i64 r]) (by simp [results, Try.results30, go_sem, g0, g1]) rfl ⟨by rw [HV.out], (hb.setCell (by simp) _).setCell (by simp) _⟩
  · obtain ⟨hv, hl, hr⟩ := impliesDepF_val hi
    have HV : Hid (reduceF n D l r = (membersF l).foldl (redStep D r) l) := by unfold reduceF; rw [hi, ← redF_members hl]; rfl
    have hml := members_len l
    have hmm := fun c => members_mem (c := c) hl
    have HMM : Hid (∀ c, c ∈ membersF l ↔ Co c ∧ hasc l c = true) := hmm
    have HND : Hid ((membersF l).Nodup) := members_nodup l
    generalize hM : membersF l = M at *
    have HME : Hid (membersF l = M) := hM
    clear hmm hM
    have hr0 : 0 ≤ r := hr.1
    have hr1 : r < 5 := hr.2
    go_enter Try.func30, Try.ntmps30
    go_wp2_with fail
    refine Calls.mono hrun ?_
    rintro e w1 ⟨rfl, hbn⟩
    replace k0 := k0.keep hbn
    replace k1 := k1.keep hbn
    replace hb := bel_to (w := w) hb hbn
    have a0 := k0.cell 0 _ rfl
    have hlt1 : w.heap.size + 1 < w1.heap.size := k1.lt
    clear hbn hrun es
    go_wp2_with fail
    refine (c_Members _ _).mono ?_
    rintro e w2 ⟨v2, rfl, h2, hbn⟩
    rw [HME.out] at h2
    replace k0 := k0.keep hbn
    replace k1 := k1.keep hbn
    replace hb := bel_to (w := w) hb hbn
    obtain ⟨o2, c2, rfl, hL2⟩ := h2.reads (by unfold Room; omega)
    have hO2 : ∀ a, o2 = some a → w.heap.size + 1 < a.block := fun a ha => Nat.lt_of_lt_of_le hlt1 (owns_block h2 a ha)
    have HO : Hid (∀ a, o2 = some a → w.heap.size + 1 < a.block) := hO2
    clear hO2
    have hM0 : M.foldl (redStep D r) l = M.foldl (redStep D r) l := rfl
    clear a0 h2 hbn
    go_wp2_with fail
    obtain ⟨wo, rfl⟩ : ∃ wo : World, wo = w2 := ⟨_, rfl⟩
    go_loopw [20] (fun i wr => ∃ (k : Nat) (x : Int), i = .int .i64 k ∧ k ≤ M.length ∧ St x ∧ (M.drop k).foldl (redStep D r) x = M.foldl (redStep D r) l ∧ (∀ c, c ∈ M.drop k → hasc x c = true) ∧
      Blk wr w.heap.size #[.int .i64 x, .int .i64 r] 36 ∧ Blk wr (w.heap.size + 1) #[.int .i64 0, .int .i64 0] 36 ∧ IntsAt wr o2 M ∧ Below w.heap.size w wr) (fun i _ => M.length - (intOf i).toNat)
    case atStart => exact ⟨0, l, rfl, Nat.zero_le _, hl, rfl, fun c hc => ((HMM.out c).1 hc).2, k0, k1, hL2, hb⟩
    case round =>
      clear k0 k1 hb hL2 hM0
      obtain ⟨k, x, rfl, hk, hx, hfold, hall, k0, k1, hL, hb⟩ := hrel
      have HF : Hid ((M.drop k).foldl (redStep D r) x = M.foldl (redStep D r) l) := hfold
      have HA : Hid (∀ c, c ∈ M.drop k → hasc x c = true) := hall
      clear hfold hall
      have a0 := k0.cell 0 _ rfl
      have a1 := k0.cell 1 _ rfl
      by_cases hlt : k < M.length
      · obtain ⟨b, off, rfl, hbs, hc⟩ := hL.at_ (by omega)
        have hc1 := hc k hlt
        have hdr := nth_drop hlt
        have hmem : nth M k ∈ M := List.mem_iff_getElem?.2 ⟨k, nth_eq hlt⟩
        have hco : Co (nth M k) := ((HMM.out _).1 hmem).1
        have hhas : hasc x (nth M k) = true := HA.out _ (by rw [hdr]; exact List.mem_cons_self ..)
        have hnot : nth M k ∉ M.drop (k + 1) := by
          have h := (List.drop_sublist k M).nodup HND.out
          rw [hdr] at h
          exact (List.nodup_cons.1 h).1
        have HF2 : Hid ((M.drop (k + 1)).foldl (redStep D r) (redStep D r x (nth M k)) = M.foldl (redStep D r) l) := by
          have := HF.out; rw [hdr] at this; exact this
        have HA2 : Hid (∀ c, c ∈ M.drop (k + 1) → hasc (redStep D r x (nth M k)) c = true) := fun c hc => by
          have h1 : c ∈ M.drop k := by rw [hdr]; exact List.mem_cons_of_mem _ hc
          have h2 : Co c := ((HMM.out c).1 (List.mem_of_mem_drop h1)).1
          rw [redStep_other hx hco h2 (fun e => hnot (e ▸ hc))]
          exact HA.out c h1
        have hsy := dif_st hx (one_st hco)
        have HST : Hid (St (redStep D r x (nth M k))) := redStep_st hx hco
        have hn0 : 0 ≤ nth M k := hco.1
        have hn1 : nth M k < 5 := hco.2
        have HH : Hid (hasc x (nth M k) = true) := hhas
        have hz := k0.lt
        clear hc hdr hmem hnot hhas HF HA
        go_wp2_with fail
        go_region
        have k2 : Blk (World.drew (wr.alloc (.cells #[.int .i64 (bits BinOp.andNot IntKind.i64 x (wrap64 (2 ^ (nth M k).toNat))), .int .i64 r] 36))) wr.heap.size #[.int .i64 (bits BinOp.andNot IntKind.i64 x (wrap64 (2 ^ (nth M k).toNat))), .int .i64 r] 36 := Blk.new _ _ _
        have hbx : Below wr.heap.size wr (World.drew (wr.alloc (.cells #[.int .i64 (bits BinOp.andNot IntKind.i64 x (wrap64 (2 ^ (nth M k).toNat))), .int .i64 r] 36))) := ((Below.refl _ wr).alloc (Nat.le_refl _) _).drew
        generalize World.drew (wr.alloc (.cells #[.int .i64 (bits BinOp.andNot IntKind.i64 x (wrap64 (2 ^ (nth M k).toNat))), .int .i64 r] 36)) = w3 at *
        replace k0 := k0.keep hbx
        replace k1 := k1.keep hbx
        replace hL := hL.keep hbx
        replace hb := bel_to (w := w) hb hbx
        clear hbx a0 a1 hc1 hz
        have e0 := k2.cell 0 _ rfl
        have e1 := k2.cell 1 _ rfl
        have hrun2 := c_implies oa cap D (dif x (one (nth M k))) r w3 (hD.keep hb) hv hsy hr
        cases hh : impF D (dif x (one (nth M k))) r
        · have e : redStep D r x (nth M k) = x := by
            unfold redStep
            have : hasc (cloF D (dif x (one (nth M k)))) r = false := hh
            rw [this]; simp
          rw [e] at HF2 HA2 HST
          clear e
          go_wp2_with fail
          refine Calls.mono hrun2 ?_
          rintro e w4 ⟨rfl, hbn⟩
          replace k0 := k0.keep hbn
          replace k1 := k1.keep hbn
          replace hL := hL.keep hbn
          replace hb := bel_to (w := w) hb hbn
          clear hbn e0 e1 k2 hrun2
          go_wp2
          go_roundw
          case rel => exact ⟨k + 1, x, by go_num, by omega, hx, HF2.out, HA2.out, k0, k1, hL, hb⟩
          case measure => simp [intOf]; omega
        · have e : redStep D r x (nth M k) = dif x (one (nth M k)) := by
            unfold redStep
            have : hasc (cloF D (dif x (one (nth M k)))) r = true := hh
            rw [this, dif_one_same hx hco, HH.out]; simp
          rw [e] at HF2 HA2 HST
          clear e
          go_wp2_with fail
          refine Calls.mono hrun2 ?_
          rintro e w4 ⟨rfl, hbn⟩
          replace k0 := k0.keep hbn
          replace k1 := k1.keep hbn
          replace k2 := k2.keep hbn
          replace hL := hL.keep hbn
          replace hb := bel_to (w := w) hb hbn
          clear hbn e0 e1 hrun2
          have a0 := k0.cell 0 _ rfl
          have a1 := k0.cell 1 _ rfl
          have f0 := k0.free 0
          have f1 := k0.free 1
          have e0 := k2.cell 0 _ rfl
          have e1 := k2.cell 1 _ rfl
          have hz := k2.lt
          have K0 := (show Hid _ from (k0.set 0 (.int .i64 (dif x (one (nth M k))))).set 1 (.int .i64 r))
          have K1 := (show Hid _ from (k1.far ⟨w.heap.size, 0, none⟩ (.int .i64 (dif x (one (nth M k)))) (by simp)).far ⟨w.heap.size, 1, none⟩ (.int .i64 r) (by simp))
          have KL := (show Hid _ from (hL.set ⟨w.heap.size, 0, none⟩ (.int .i64 (dif x (one (nth M k)))) (fun a ha => by have := HO.out a ha; simp only; omega)).set ⟨w.heap.size, 1, none⟩ (.int .i64 r) (fun a ha => by have := HO.out a ha; simp only; omega))
          clear k0 k1 k2
          go_wp2
          go_roundw
          case rel => exact ⟨k + 1, dif x (one (nth M k)), by go_num, by omega, HST.out, HF2.out, HA2.out, K0.out, K1.out, KL.out, (hb.setCell (by simp) _).setCell (by simp) _⟩
          case measure => simp [intOf]; omega
      · have hkk : k = M.length := by omega
        have HX : Hid (x = M.foldl (redStep D r) l) := by have := HF.out; rw [hkk, List.drop_length] at this; exact this
        clear hkk
        have d0 := k1.cell 0 _ rfl
        have d1 := k1.cell 1 _ rfl
        have f0 := k1.free 0
        have f1 := k1.free 1
        have m0 := ((k1.set 0 (.int .i64 x)).set 1 (.int .i64 r))
        have g0 := m0.cell 0 _ rfl
        have g1 := m0.cell 1 _ rfl
        clear k0 k1 m0
        go_wp2
        exact bodyPost_ret (v := .agg #[.int .i64 x, .int .i64 r]) (by simp [results, Try.results30, go_sem, g0, g1]) rfl ⟨by rw [HV.out, HX.out], (hb.setCell (by simp) _).setCell (by simp) _⟩
end Go.Proofs.Ytmdkbookcgkpaaa
