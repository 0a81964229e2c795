/- What the exact laws do with a slice that is theirs: writing marks into it, and looking whether they are still there. -/
import Derived.Test.YtkanbnbofoabeaaOwn
import Derived.Test.YtkanbnbofoabeaaOwnD
namespace Go.Proofs.Ytkanbnbofoabeaa
open Go.RowKit
set_option linter.unusedVariables false
set_option maxRecDepth 100000

def seqI (k : Int) (n : Nat) : List Int := (List.range n).map fun (i : Nat) => k + i
theorem seqI_length (k : Int) (n : Nat) : (seqI k n).length = n := by simp [seqI]
theorem seqI_nth (k : Int) (n j : Nat) (h : j < n) : nth (seqI k n) j = k + j := by simp [nth, seqI, List.getD, h]
def seqD (k : Int) (n : Nat) : List (Int × Int) := (List.range n).map fun (i : Nat) => (k + 2 * i, k + 2 * i + 1)
theorem seqD_length (k : Int) (n : Nat) : (seqD k n).length = n := by simp [seqD]
theorem seqD_nl (k : Int) (n j : Nat) (h : j < n) : nl (seqD k n) j = k + 2 * j := by simp [nl, seqD, List.getD, h]
theorem seqD_nr (k : Int) (n j : Nat) (h : j < n) : nr (seqD k n) j = k + 2 * j + 1 := by simp [nr, seqD, List.getD, h]

theorem OwnI.ints {w : World} {base : Nat} {oa : Option Addr} {n cap : Nat} {L : List Int} (h : OwnI w base (.slice oa n cap) L) (hn : n = L.length) (hl : L.length ≤ Room) : IntsAt w oa L := by
  obtain ⟨oa', cap', hv, hI⟩ := h.reads hl
  simp only [Value.slice.injEq] at hv
  rw [hv.1]; exact hI
theorem OwnD.deps {w : World} {base : Nat} {oa : Option Addr} {n cap : Nat} {L : List (Int × Int)} (h : OwnD w base (.slice oa n cap) L) (hn : n = L.length) (hl : L.length ≤ Room) : DepsAt w oa L := by
  obtain ⟨oa', cap', hv, hI⟩ := h.reads hl
  simp only [Value.slice.injEq] at hv
  rw [hv.1]; exact hI
theorem OwnI.shape {w : World} {base : Nat} {v : Value} {L : List Int} (h : OwnI w base v L) : ∃ oa cap, v = .slice oa L.length cap := by
  obtain ⟨oa, cap, hv, _⟩ := owns_cells h; exact ⟨oa, cap, hv⟩
theorem OwnD.shape {w : World} {base : Nat} {v : Value} {L : List (Int × Int)} (h : OwnD w base v L) : ∃ oa cap, v = .slice oa L.length cap := by
  obtain ⟨oa, cap, hv, _⟩ := owns_cells h; exact ⟨oa, cap, hv⟩
/-- Two slices of the call's own, made one behind the other, lie in different blocks. -/
def Apart (v v' : Value) : Prop := v.ownBlock = none ∨ v.ownBlock ≠ v'.ownBlock
theorem apart_old {w w' : World} {base e e' size size' n n' : Nat} {v v' : Value} {xs xs' : List Value} (h : w.ownsRow base e size v n xs) (h' : w'.ownsRow w.heap.size e' size' v' n' xs') : Apart v v' := by
  cases hv : v.ownBlock with
  | none => exact .inl hv
  | some k =>
    refine .inr fun e => ?_
    have h1 := (World.ownsRow.lt h k hv).2
    have h2 := (World.ownsRow.lt h' k (by rw [← e]; exact hv)).1
    omega
theorem Apart.symm {v v' : Value} (h : Apart v v') : Apart v' v := by
  unfold Apart at *
  cases hv : v'.ownBlock with
  | none => exact .inl rfl
  | some k =>
    right
    rcases h with h | h
    · rw [h]; simp
    · intro e; exact h (by rw [hv]; exact e.symm)
theorem OwnI.based {w : World} {base base' : Nat} {v : Value} {L : List Int} (h : OwnI w base v L) (hb : base' ≤ base) : OwnI w base' v L := owns_base h hb
theorem OwnD.based {w : World} {base base' : Nat} {v : Value} {L : List (Int × Int)} (h : OwnD w base v L) (hb : base' ≤ base) : OwnD w base' v L := owns_base h hb
theorem OwnI.far {w w' : World} {base : Nat} {v v' : Value} {L : List Int} (h : OwnI w base v L) (hg : w.grownBy w' v'.ownBlock) (ha : Apart v v') : OwnI w' base v L := World.ownsRow.kept h hg ha
theorem OwnD.far {w w' : World} {base : Nat} {v v' : Value} {L : List (Int × Int)} (h : OwnD w base v L) (hg : w.grownBy w' v'.ownBlock) (ha : Apart v v') : OwnD w' base v L := World.ownsRow.kept h hg ha
theorem below_mark {w a b : World} {e size n : Nat} {v : Value} {xs : List Value} (hb : Below w.heap.size w a) (h : a.ownsRow w.heap.size e size v n xs) (hg : a.grownBy b v.ownBlock) : Below w.heap.size w b :=
  hb.grown hg hb.size fun k hk => (World.ownsRow.lt h k hk).1

theorem grown_refl (w : World) (row : Option Nat) : w.grownBy w row := ⟨rfl, rfl, rfl, Nat.le_refl _, fun _ _ _ => rfl⟩
theorem grown_trans {a b c : World} {row : Option Nat} (h : a.grownBy b row) (k : b.grownBy c row) : a.grownBy c row :=
  ⟨k.os.trans h.os, k.tape.trans h.tape, k.output.trans h.output, Nat.le_trans h.size k.size, fun i hi hr => (k.block i (Nat.lt_of_lt_of_le hi h.size) hr).trans (h.block i hi hr)⟩
theorem grown_of_below {w w' : World} (h : Below w.heap.size w w') (row : Option Nat) : w.grownBy w' row := ⟨h.os, h.tape, h.output, h.size, fun k hk _ => h.block k hk⟩
theorem grown_set (w : World) (g j : Nat) (v : Value) : w.grownBy (w.setCell ⟨g, j, none⟩ v) (some g) :=
  ⟨rfl, rfl, rfl, by simp [World.setCell], fun k _ hk => Below.heap_setCell w ⟨g, j, none⟩ v k (fun e => hk (by simp [e]))⟩

set_option maxHeartbeats 400000 in
theorem c_markIntS (oa) (cap base : Nat) (L : List Int) (k0 : Int) (hk0 : 0 ≤ k0 ∧ k0 ≤ 1073741824) (w : World) (hL : L.length ≤ Room) (h : OwnI w base (.slice oa L.length cap) L) :
    Calls Try.prog 58 #[.slice oa L.length cap, .int .i64 k0] w fun e w' => e = .returned (.int .i64 (k0 + L.length)) ∧ OwnI w' base (.slice oa L.length cap) (seqI k0 L.length) ∧ w.grownBy w' (Value.slice oa L.length cap).ownBlock := by
  unfold Room at hL
  obtain ⟨h01, h02⟩ := hk0
  rcases oa with _ | ⟨g, off, sp⟩
  · have h0 : L.length = 0 := by
      rcases h.2 with ⟨hv, hn⟩ | ⟨g, c, cur, hv, _⟩
      · exact hn
      · cases hv
    have hnil : L = [] := List.eq_nil_of_length_eq_zero h0
    subst hnil
    go_enter Try.func58, Try.ntmps58
    go_wp2
    go_loop [1, 5] (fun k i => k = .int .i64 k0 ∧ i = .int .i64 0) (fun _ _ => 0)
    case atStart => exact ⟨rfl, rfl⟩
    case round =>
      obtain ⟨rfl, rfl⟩ := hrel
      go_wp2
      go_ret
      exact ⟨rfl, by simpa [seqI] using h, grown_refl _ _⟩
  · have hsh : off = 0 ∧ sp = none := by
      rcases h.2 with ⟨hv, _⟩ | ⟨g', c, cur, hv, _⟩
      · cases hv
      · simp only [Value.slice.injEq, Option.some.injEq, Addr.mk.injEq] at hv; exact ⟨hv.1.2.1, hv.1.2.2⟩
    obtain ⟨rfl, rfl⟩ := hsh
    go_enter Try.func58, Try.ntmps58
    go_wp2
    go_loopw [1, 5] (fun k i wr => ∃ (j : Nat) (M : List Int), k = .int .i64 (k0 + j) ∧ i = .int .i64 j ∧ j ≤ L.length ∧ M.length = L.length ∧ (∀ t, t < j → nth M t = k0 + t) ∧
      OwnI wr base (.slice (some ⟨g, 0, none⟩) L.length cap) M ∧ w.grownBy wr (some g)) (fun _ i _ => L.length - (intOf i).toNat)
    case atStart => exact ⟨0, L, by simp, rfl, Nat.zero_le _, rfl, fun t ht => absurd ht (by omega), h, grown_refl _ _⟩
    case round =>
      obtain ⟨j, M, rfl, rfl, hj, hM, hall, hI, hg⟩ := hrel
      have HM : Hid (M.length = L.length) := hM
      have HA : Hid (∀ t, t < j → nth M t = k0 + t) := hall
      clear hM hall
      by_cases hlt : j < L.length
      · obtain ⟨hg1, hg2⟩ := hI.cell HM.out.symm j hlt
        have HI2 := (show Hid _ from hI.store HM.out.symm j (k0 + j))
        have HG2 := (show Hid _ from grown_trans hg (grown_set _ g j (.int .i64 (k0 + j))))
        clear hI hg h
        go_wp2
        go_roundw
        case rel =>
          refine ⟨j + 1, M.set j (k0 + j), by go_num, by go_num, by omega, by rw [List.length_set]; exact HM.out, ?_, HI2.out, HG2.out⟩
          intro t ht
          rw [nth_set (by have := HM.out; omega)]
          by_cases e : t = j
          · subst e; simp
          · rw [if_neg e]; exact HA.out t (by omega)
        case measure => simp [intOf]; omega
      · have hjj : j = L.length := by omega
        have HJ : Hid (j = L.length) := hjj
        have HV : Hid (M = seqI k0 L.length) := by
          refine list_ext (by rw [seqI_length]; exact HM.out) fun t ht => ?_
          have := HM.out
          rw [seqI_nth k0 L.length t (by omega)]
          exact HA.out t (by omega)
        clear hjj
        go_wp2
        go_ret
        exact ⟨ret_int (by have := HJ.out; omega), by rw [← HV.out]; exact hI, hg⟩

theorem c_heldIntS (oa) (cap : Nat) (n : Nat) (k0 : Int) (hk0 : 0 ≤ k0 ∧ k0 ≤ 1073741824) (w : World) (h : IntsAt w oa (seqI k0 n)) :
    Ans Try.prog 59 #[.slice oa n cap, .int .i64 k0] w (.int .i64 (k0 + n)) := by
  unfold Ans
  obtain ⟨h01, h02⟩ := hk0
  have hn : n ≤ 1073741824 := by have := h.len; rw [seqI_length] at this; exact this
  go_enter Try.func59, Try.ntmps59
  go_wp2
  go_loop [1, 5] (fun k i => ∃ j : Nat, k = .int .i64 (k0 + j) ∧ i = .int .i64 j ∧ j ≤ n) (fun _ i => n - (intOf i).toNat)
  case atStart => exact ⟨0, by simp, rfl, Nat.zero_le _⟩
  case round =>
    obtain ⟨j, rfl, rfl, hj⟩ := hrel
    by_cases hlt : j < n
    · obtain ⟨b, off, rfl, hbs, hc⟩ := h.at_ (by rw [seqI_length]; omega)
      have hc1 := hc j (by rw [seqI_length]; omega)
      rw [seqI_nth k0 n j hlt] at hc1
      have hne : (k0 + (j : Int) != k0 + j) = false := by simp
      clear hc h
      go_wp2
      go_round
      case rel => exact ⟨j + 1, by go_num, by go_num, by omega⟩
      case measure => simp [intOf]; omega
    · have hjj : j = n := by omega
      have HJ : Hid (j = n) := hjj
      clear hjj
      go_wp2
      go_ret
      exact ⟨ret_int (by rw [HJ.out]), Below.refl _ _⟩

set_option maxHeartbeats 400000 in
theorem c_markDepS (oa) (cap base : Nat) (L : List (Int × Int)) (k0 : Int) (hk0 : 0 ≤ k0 ∧ k0 ≤ 1073741824) (w : World) (hL : L.length ≤ Room) (h : OwnD w base (.slice oa L.length cap) L) :
    Calls Try.prog 23 #[.slice oa L.length cap, .int .i64 k0] w fun e w' => e = .returned (.int .i64 (k0 + 2 * L.length)) ∧ OwnD w' base (.slice oa L.length cap) (seqD k0 L.length) ∧ w.grownBy w' (Value.slice oa L.length cap).ownBlock := by
  unfold Room at hL
  obtain ⟨h01, h02⟩ := hk0
  rcases oa with _ | ⟨g, off, sp⟩
  · have h0 : L.length = 0 := by
      rcases h.2 with ⟨hv, hn⟩ | ⟨g, c, cur, hv, _⟩
      · exact hn
      · cases hv
    have hnil : L = [] := List.eq_nil_of_length_eq_zero h0
    subst hnil
    go_enter Try.func23, Try.ntmps23
    go_wp2
    go_loop [1, 5] (fun k i => k = .int .i64 k0 ∧ i = .int .i64 0) (fun _ _ => 0)
    case atStart => exact ⟨rfl, rfl⟩
    case round =>
      obtain ⟨rfl, rfl⟩ := hrel
      go_wp2
      go_ret
      exact ⟨ret_int (by simp), by simpa [seqD] using h, grown_refl _ _⟩
  · have hsh : off = 0 ∧ sp = none := by
      rcases h.2 with ⟨hv, _⟩ | ⟨g', c, cur, hv, _⟩
      · cases hv
      · simp only [Value.slice.injEq, Option.some.injEq, Addr.mk.injEq] at hv; exact ⟨hv.1.2.1, hv.1.2.2⟩
    obtain ⟨rfl, rfl⟩ := hsh
    go_enter Try.func23, Try.ntmps23
    go_wp2
    go_loopw [1, 5] (fun k i wr => ∃ (j : Nat) (M : List (Int × Int)), k = .int .i64 (k0 + 2 * j) ∧ i = .int .i64 j ∧ j ≤ L.length ∧ M.length = L.length ∧ (∀ t, t < j → nl M t = k0 + 2 * t ∧ nr M t = k0 + 2 * t + 1) ∧
      OwnD wr base (.slice (some ⟨g, 0, none⟩) L.length cap) M ∧ w.grownBy wr (some g)) (fun _ i _ => L.length - (intOf i).toNat)
    case atStart => exact ⟨0, L, by simp, rfl, Nat.zero_le _, rfl, fun t ht => absurd ht (by omega), h, grown_refl _ _⟩
    case round =>
      obtain ⟨j, M, rfl, rfl, hj, hM, hall, hI, hg⟩ := hrel
      have HM : Hid (M.length = L.length) := hM
      have HA : Hid (∀ t, t < j → nl M t = k0 + 2 * t ∧ nr M t = k0 + 2 * t + 1) := hall
      clear hM hall
      by_cases hlt : j < L.length
      · obtain ⟨hg1, hg2, hg3, hg4⟩ := hI.cell HM.out.symm j hlt
        have HI2 := (show Hid _ from hI.store HM.out.symm j (k0 + 2 * j) (k0 + 2 * j + 1))
        have HG2 := (show Hid _ from grown_trans (grown_trans hg (grown_set _ g (j * 2) (.int .i64 (k0 + 2 * j)))) (grown_set _ g (j * 2 + 1) (.int .i64 (k0 + 2 * j + 1))))
        clear hI hg h
        go_wp2
        go_roundw
        case rel =>
          refine ⟨j + 1, M.set j (k0 + 2 * j, k0 + 2 * j + 1), by go_num, by go_num, by omega, by rw [List.length_set]; exact HM.out, ?_, HI2.out, HG2.out⟩
          intro t ht
          rw [nl_set (by have := HM.out; omega), nr_set (by have := HM.out; omega)]
          by_cases e : t = j
          · subst e; simp
          · rw [if_neg e, if_neg e]; exact HA.out t (by omega)
        case measure => simp [intOf]; omega
      · have hjj : j = L.length := by omega
        have HJ : Hid (j = L.length) := hjj
        have HV : Hid (M = seqD k0 L.length) := by
          have hd : ∀ {A B : List (Int × Int)}, A.length = B.length → (∀ k, k < A.length → nl A k = nl B k ∧ nr A k = nr B k) → A = B := fun {A B} hl h => by
            apply List.ext_getElem?
            intro k
            by_cases hk : k < A.length
            · rw [dnth_eq hk, dnth_eq (by omega), (h k hk).1, (h k hk).2]
            · rw [List.getElem?_eq_none (by omega), List.getElem?_eq_none (by omega)]
          refine hd (by rw [seqD_length]; exact HM.out) fun t ht => ?_
          have := HM.out
          rw [seqD_nl k0 L.length t (by omega), seqD_nr k0 L.length t (by omega)]
          exact HA.out t (by omega)
        clear hjj
        go_wp2
        go_ret
        exact ⟨ret_int (by have := HJ.out; omega), by rw [← HV.out]; exact hI, hg⟩

theorem c_heldDepS (oa) (cap : Nat) (n : Nat) (k0 : Int) (hk0 : 0 ≤ k0 ∧ k0 ≤ 1073741824) (w : World) (h : DepsAt w oa (seqD k0 n)) :
    Ans Try.prog 52 #[.slice oa n cap, .int .i64 k0] w (.int .i64 (k0 + 2 * n)) := by
  unfold Ans
  obtain ⟨h01, h02⟩ := hk0
  have hn : n ≤ 1073741824 := by have := h.len; rw [seqD_length] at this; exact this
  go_enter Try.func52, Try.ntmps52
  go_wp2
  go_loop [1, 5] (fun k i => ∃ j : Nat, k = .int .i64 (k0 + 2 * j) ∧ i = .int .i64 j ∧ j ≤ n) (fun _ i => n - (intOf i).toNat)
  case atStart => exact ⟨0, by simp, rfl, Nat.zero_le _⟩
  case round =>
    obtain ⟨j, rfl, rfl, hj⟩ := hrel
    by_cases hlt : j < n
    · obtain ⟨b, off, rfl, hbs, hc⟩ := h.at_ (by rw [seqD_length]; omega)
      obtain ⟨hc1, hc2⟩ := hc j (by rw [seqD_length]; omega)
      rw [seqD_nl k0 n j hlt] at hc1
      rw [seqD_nr k0 n j hlt] at hc2
      have hne : (k0 + 2 * (j : Int) != k0 + 2 * j) = false := by simp
      have hne2 : (k0 + 2 * (j : Int) + 1 != k0 + 2 * j + 1) = false := by simp
      clear hc h
      go_wp2
      go_round
      case rel => exact ⟨j + 1, by go_num, by go_num, by omega⟩
      case measure => simp [intOf]; omega
    · have hjj : j = n := by omega
      have HJ : Hid (j = n) := hjj
      clear hjj
      go_wp2
      go_ret
      exact ⟨ret_int (by rw [HJ.out]), Below.refl _ _⟩
end Go.Proofs.Ytkanbnbofoabeaa
