/- Lists of lists of ints: how they read, their size, their copy, their comparison. -/
import Derived.Test.YtkanbnbofoabeaaEqInt
import Derived.Test.YtkanbnbofoabeaaMark
namespace Go.Proofs.Ytkanbnbofoabeaa
open Go.RowKit
set_option linter.unusedVariables false
set_option maxRecDepth 100000

def row (R : List (List Int)) (k : Nat) : List Int := R.getD k []
theorem row_eq {R : List (List Int)} {k : Nat} (h : k < R.length) : R[k]? = some (row R k) := by simp [row, List.getD, h]
theorem row_mem {R : List (List Int)} {k : Nat} (h : k < R.length) : row R k ∈ R := List.mem_iff_getElem?.2 ⟨k, row_eq h⟩
structure RowsAt (w : World) (oa : Option Addr) (R : List (List Int)) : Prop where
  len : R.length ≤ Room
  at_ : 0 < R.length → ∃ b off, oa = some ⟨b, off, none⟩ ∧ b < w.heap.size ∧ ∀ k, k < R.length → ∃ o c, w.cell? ⟨b, off + k, none⟩ = some (.slice o (row R k).length c) ∧ IntsAt w o (row R k)
theorem RowsAt.keep {w w' : World} {oa : Option Addr} {R : List (List Int)} (h : RowsAt w oa R) (hb : Below w.heap.size w w') : RowsAt w' oa R :=
  ⟨h.len, fun h0 => by
    obtain ⟨b, off, e, hlt, hc⟩ := h.at_ h0
    exact ⟨b, off, e, Nat.lt_of_lt_of_le hlt hb.size, fun k hk => by
      obtain ⟨o, c, h1, h2⟩ := hc k hk
      exact ⟨o, c, cell_keep h1 hb, h2.keep hb⟩⟩⟩
/-- An argument that came in: its length, the lengths of its lists. -/
structure RowsIn (w : World) (oa : Option Addr) (n : Nat) (Ln : Nat → Nat) : Prop where
  len : n ≤ maxLen
  rows : 0 < n → ∃ b off, oa = some ⟨b, off, none⟩ ∧ b < w.heap.size ∧ ∀ r, r < n → Ln r ≤ maxLen ∧ ∃ o c, w.cell? ⟨b, off + r, none⟩ = some (.slice o (Ln r) c) ∧ (Ln r ≤ Room → ∃ L : List Int, L.length = Ln r ∧ IntsAt w o L)
theorem RowsIn.read {w : World} {oa : Option Addr} {n : Nat} {Ln : Nat → Nat} (h : RowsIn w oa n Ln) (hn : n ≤ Room) (hL : ∀ r, r < n → Ln r ≤ Room) : ∃ R : List (List Int), R.length = n ∧ RowsAt w oa R := by
  rcases Nat.eq_zero_or_pos n with h0 | h0
  · exact ⟨[], by simp [h0], by simp, fun h => absurd h (by simp)⟩
  · obtain ⟨b, off, e, hb, hr⟩ := h.rows h0
    have each : ∀ r, r < n → ∃ L : List Int, L.length = Ln r ∧ ∃ o c, w.cell? ⟨b, off + r, none⟩ = some (.slice o (Ln r) c) ∧ IntsAt w o L := fun r hrn => by
      obtain ⟨_, o, c, h1, h2⟩ := hr r hrn
      obtain ⟨L, h3, h4⟩ := h2 (hL r hrn)
      exact ⟨L, h3, o, c, h1, h4⟩
    have hch : ∃ f : Nat → List Int, ∀ r, r < n → (f r).length = Ln r ∧ ∃ o c, w.cell? ⟨b, off + r, none⟩ = some (.slice o (Ln r) c) ∧ IntsAt w o (f r) :=
      ⟨fun r => if hr : r < n then Classical.choose (each r hr) else [], fun r hr => by simp only [hr, dif_pos]; exact Classical.choose_spec (each r hr)⟩
    obtain ⟨f, hf⟩ := hch
    refine ⟨(List.range n).map f, by simp, by simpa using hn, fun _ => ⟨b, off, e, hb, fun k hk => ?_⟩⟩
    have hk : k < n := by simpa using hk
    have er : row ((List.range n).map f) k = f k := by simp [row, List.getD, hk]
    obtain ⟨h1, o, c, h2, h3⟩ := hf k hk
    exact ⟨o, c, by rw [er, h1]; exact h2, by rw [er]; exact h3⟩

theorem c_szIntS (oa) (n cap : Nat) (left : Int) (h0 : 0 ≤ left ∧ left ≤ 1048576) (hn : n ≤ maxLen) (w : World) :
    Ans Try.prog 120 #[.slice oa n cap, .int .i64 left] w (.int .i64 (if (n : Int) ≤ left then left - n else -1)) := by
  unfold Ans
  obtain ⟨h1, h2⟩ := h0
  unfold maxLen at hn
  by_cases h : (n : Int) ≤ left
  · have e : (if (n : Int) ≤ left then left - n else -1) = left - n := if_pos h
    rw [e]
    go_enter Try.func120, Try.ntmps120
    go_wp2
    go_ret
    exact ⟨rfl, Below.refl _ _⟩
  · have e : (if (n : Int) ≤ left then left - n else -1) = -1 := if_neg h
    rw [e]
    go_enter Try.func120, Try.ntmps120
    go_wp2
    go_ret
    exact ⟨rfl, Below.refl _ _⟩
theorem c_szIntSS (oa) (n cap : Nat) (Ln : Nat → Nat) (w : World) (h : RowsIn w oa n Ln) :
    Calls Try.prog 74 #[.slice oa n cap, .int .i64 1048576] w fun e w' => (∃ x : Int, e = .returned (.int .i64 x) ∧ (x = -1 ∨ (0 ≤ x ∧ x ≤ 1048576 ∧ n ≤ 1048576 ∧ ∀ r, r < n → Ln r ≤ 1048576))) ∧ Below w.heap.size w w' := by
  have hn := h.len
  unfold maxLen at hn
  by_cases hbig : (1048576 : Int) < n
  · go_enter Try.func74, Try.ntmps74
    go_wp2
    go_ret
    exact ⟨⟨_, rfl, .inl rfl⟩, Below.refl _ _⟩
  go_enter Try.func74, Try.ntmps74
  go_wp2
  go_loopw [1, 5] (fun l i wr => ∃ (x : Int) (k : Nat), l = .int .i64 x ∧ i = .int .i64 k ∧ k ≤ n ∧ 0 ≤ x ∧ x ≤ 1048576 ∧ (∀ r, r < k → Ln r ≤ 1048576) ∧ Below w.heap.size w wr) (fun _ i _ => n - (intOf i).toNat)
  case atStart => exact ⟨_, 0, rfl, rfl, Nat.zero_le _, by omega, by omega, fun r hr => absurd hr (by omega), Below.refl _ _⟩
  case round =>
    obtain ⟨x, k, rfl, rfl, hk, hx0, hx1, hall, hb⟩ := hrel
    have HA : Hid (∀ r, r < k → Ln r ≤ 1048576) := hall
    clear hall
    by_cases hlt : k < n
    · obtain ⟨b, off, rfl, hbs, hc⟩ := h.rows (by omega)
      obtain ⟨hm, o, c, hc0, _⟩ := hc k hlt
      have hc1 := cell_keep hc0 hb
      clear hc hc0
      by_cases hle : (Ln k : Int) ≤ x
      · have e : (if (Ln k : Int) ≤ x then x - Ln k else -1) = x - Ln k := if_pos hle
        go_wp2_with fail
        refine (show Ans _ _ _ _ (.int .i64 (x - Ln k)) from e ▸ c_szIntS _ _ _ _ ⟨hx0, hx1⟩ hm _).mono ?_
        rintro en w1 ⟨rfl, hbn⟩
        replace hb := bel_to hb hbn
        clear hbn e
        go_wp2
        go_roundw
        case rel => exact ⟨x - Ln k, k + 1, rfl, by go_num, by omega, by omega, by omega, lt_step HA.out (by omega), hb⟩
        case measure => simp [intOf]; omega
      · have e : (if (Ln k : Int) ≤ x then x - Ln k else -1) = -1 := if_neg hle
        go_wp2_with fail
        refine (show Ans _ _ _ _ (.int .i64 (-1)) from e ▸ c_szIntS _ _ _ _ ⟨hx0, hx1⟩ hm _).mono ?_
        rintro en w1 ⟨rfl, hbn⟩
        replace hb := bel_to hb hbn
        clear hbn e
        go_wp2
        go_ret
        exact ⟨⟨_, rfl, .inl rfl⟩, hb⟩
    · have hkk : k = n := by omega
      have HK : Hid (k = n) := hkk
      clear hkk
      go_wp2
      go_ret
      exact ⟨⟨_, rfl, .inr ⟨hx0, hx1, by omega, by rw [← HK.out]; exact HA.out⟩⟩, hb⟩

def OwnV (w : World) (base : Nat) (v : Value) (xs : List Value) : Prop := w.ownsRow base 69 1 v xs.length xs
theorem OwnV.keep {w w' : World} {base : Nat} {v : Value} {xs : List Value} (h : OwnV w base v xs) (hb : Below w.heap.size w w') : OwnV w' base v xs := owns_keep h hb
theorem ownV_made {w : World} {base : Nat} {v : Value} {n : Nat} (h : w.ownsRow base 69 1 v n (madeCells (Value.cells (.slice none 0 0)) (n * 1)).toList) : OwnV w base v (List.replicate n (.slice none 0 0)) := by
  have e : (madeCells (Value.cells (.slice none 0 0)) (n * 1)).toList = List.replicate n (.slice none 0 0) := by
    rw [Nat.mul_one]
    have : (Value.cells (.slice none 0 0)) = #[Value.slice none 0 0] := rfl
    rw [this, toList_madeCells_one]
  rw [e] at h
  unfold OwnV
  rw [List.length_replicate]
  exact h
theorem OwnV.cell {w : World} {base g n cap : Nat} {xs : List Value} (h : OwnV w base (.slice (some ⟨g, 0, none⟩) n cap) xs) (hn : n = xs.length) (j : Nat) (hj : j < n) :
    w.cell? ⟨g, j, none⟩ = xs[j]? ∧ w.frozen? ⟨g, j, none⟩ = false := by
  subst hn
  exact ⟨h.cellAt j (by omega), h.frozenAt j⟩
theorem OwnV.store {w : World} {base g n cap : Nat} {xs : List Value} (h : OwnV w base (.slice (some ⟨g, 0, none⟩) n cap) xs) (hn : n = xs.length) (j : Nat) (u : Value) (hu : u.oneCell' = true) :
    OwnV (w.setCell ⟨g, j, none⟩ u) base (.slice (some ⟨g, 0, none⟩) n cap) (xs.set j u) := by
  subst hn
  unfold OwnV
  rw [List.length_set]
  exact (h.stored j u).1
theorem info_ints : (Try.prog.info? 69).map (fun i => (i.zero, i.size, i.bytes)) = some (some (.slice none 0 0), 1, 24) := by kernel_rfl
def Off (o : Option Addr) (g : Nat) : Prop := ∀ b off s, o = some ⟨b, off, s⟩ → g < b
theorem cell_far {w : World} {a a' : Addr} {u v : Value} (h : w.cell? a = some v) (hne : a.block ≠ a'.block) : (w.setCell a' u).cell? a = some v :=
  (World.cell?_of_block (Below.heap_setCell w a' u a.block hne)).trans h
theorem IntsAt.far {w : World} {o : Option Addr} {L : List Int} {g j : Nat} {u : Value} (h : IntsAt w o L) (ho : Off o g) : IntsAt (w.setCell ⟨g, j, none⟩ u) o L :=
  ⟨h.len, fun h0 => by
    obtain ⟨b, off, e, hlt, hc⟩ := h.at_ h0
    exact ⟨b, off, e, Nat.lt_of_lt_of_le hlt (grown_set w g j u).size, fun k hk => cell_far (hc k hk) (by have := ho b off none e; simp; omega)⟩⟩
theorem off_new {w : World} {base g n c : Nat} {o : Option Addr} {e : TypeId} {xs : List Value} (h : w.ownsRow base e 1 (.slice o n c) n xs) (hg : g < base) : Off o g := by
  intro b off s e
  subst e
  have := (World.ownsRow.lt h b rfl).1
  omega

/-- A list of lists whose blocks all lie from block B on. -/
structure RowsNew (w : World) (B : Nat) (oa : Option Addr) (R : List (List Int)) : Prop where
  len : R.length ≤ Room
  at_ : 0 < R.length → ∃ b off, oa = some ⟨b, off, none⟩ ∧ B ≤ b ∧ b < w.heap.size ∧ ∀ k, k < R.length → ∃ o c, w.cell? ⟨b, off + k, none⟩ = some (.slice o (row R k).length c) ∧ IntsAt w o (row R k) ∧ Off o B
theorem RowsNew.rows {w : World} {B : Nat} {oa : Option Addr} {R : List (List Int)} (h : RowsNew w B oa R) : RowsAt w oa R :=
  ⟨h.len, fun h0 => by
    obtain ⟨b, off, e, _, hlt, hc⟩ := h.at_ h0
    exact ⟨b, off, e, hlt, fun k hk => by
      obtain ⟨o, c, h1, h2, _⟩ := hc k hk
      exact ⟨o, c, h1, h2⟩⟩⟩
theorem RowsNew.far {w : World} {B : Nat} {oa : Option Addr} {R : List (List Int)} (h : RowsNew w B oa R) {g : Nat} (j : Nat) (u : Value) (hg : g < B) : RowsNew (w.setCell ⟨g, j, none⟩ u) B oa R :=
  ⟨h.len, fun h0 => by
    obtain ⟨b, off, e, hB, hlt, hc⟩ := h.at_ h0
    exact ⟨b, off, e, hB, Nat.lt_of_lt_of_le hlt (grown_set w g j u).size, fun k hk => by
      obtain ⟨o, c, h1, h2, h3⟩ := hc k hk
      exact ⟨o, c, cell_far h1 (by simp; omega), h2.far (fun b off s e => by have := h3 b off s e; omega), h3⟩⟩⟩
set_option maxHeartbeats 800000 in
theorem c_toIntSS (oa) (ca : Nat) (R : List (List Int)) (w : World) (hR : RowsAt w oa R) :
    Calls Try.prog 78 #[.slice oa R.length ca] w fun e w' => ∃ o c, e = .returned (.slice o R.length c) ∧ RowsNew w' w.heap.size o R ∧ Below w.heap.size w w' := by
  have hn : R.length ≤ 1073741824 := hR.len
  obtain ⟨i0, hi, hz0, hz1, hz2⟩ := info_parts info_ints
  go_enter Try.func78, Try.ntmps78
  go_wp2_with (first | (at_make; refine wpList_make_full _ rfl _ _ 26 rfl w.heap.size 69 i0 (.slice none 0 0) 1 Try.underlying26 hi hz0 hz1 .i64 .i64 _ _ R.length rfl rfl rfl rfl (by rw [hz2]; omega) (by unfold maxLen; omega) (Nat.le_refl _) ?_; intro w1 hown hgrow))
  have hI := ownV_made hown
  have hb1 : Below w.heap.size w w1 := below_grown hgrow (Nat.le_refl _) (by simp)
  clear hown hgrow hi hz0 hz1 hz2 i0
  go_loopw [4] (fun i wr => ∃ (k : Nat) (xs : List Value), i = .int .i64 k ∧ k ≤ R.length ∧ xs.length = R.length ∧ (∀ j, j < k → ∃ o c, xs[j]? = some (.slice o (row R j).length c) ∧ IntsAt wr o (row R j) ∧ Off o w.heap.size) ∧
      OwnV wr w.heap.size (.slice (some ⟨w.heap.size, 0, none⟩) R.length R.length) xs ∧ Below w.heap.size w wr) (fun i _ => R.length - (intOf i).toNat)
  case atStart => exact ⟨0, _, rfl, Nat.zero_le _, by simp, fun j hj => absurd hj (by omega), hI, hb1⟩
  case round =>
    clear hI hb1
    obtain ⟨k, xs, rfl, hk, hM, hall, hI, hb⟩ := hrel
    have HM : Hid (xs.length = R.length) := hM
    have HA : Hid (∀ j, j < k → ∃ o c, xs[j]? = some (.slice o (row R j).length c) ∧ IntsAt wr o (row R j) ∧ Off o w.heap.size) := hall
    clear hall hM
    by_cases hlt : k < R.length
    · obtain ⟨b, off, rfl, hbs, hc⟩ := hR.at_ (by omega)
      obtain ⟨o, c, hc0, hrow⟩ := hc k hlt
      have hc1 := cell_keep hc0 hb
      have hgl := (World.ownsRow.lt hI w.heap.size rfl).2
      clear hc hc0
      go_wp2_with fail
      refine (c_toIntS _ _ _ _ (hrow.keep hb)).mono ?_
      rintro en w1 ⟨v1, rfl, h1, hbn⟩
      obtain ⟨o1, c1, rfl⟩ := h1.shape
      have hoff := off_new h1 hgl
      have hr1 := h1.ints rfl hrow.len
      replace hI := hI.keep hbn
      replace hb := bel_to hb hbn
      obtain ⟨hg1, hg2⟩ := hI.cell HM.out.symm k hlt
      rw [List.getElem?_eq_getElem (by have := HM.out; omega)] at hg1
      have HI2 := (show Hid _ from hI.store HM.out.symm k (.slice o1 (row R k).length c1) rfl)
      have HB2 := (show Hid _ from Below.setCell (p := (⟨w.heap.size, k, none⟩ : Addr)) hb (Nat.le_refl _) (.slice o1 (row R k).length c1))
      have HR2 : Hid (IntsAt (w1.setCell ⟨w.heap.size, k, none⟩ (.slice o1 (row R k).length c1)) o1 (row R k)) := hr1.far hoff
      have HA2 : Hid (∀ j, j < k → ∃ o c, xs[j]? = some (.slice o (row R j).length c) ∧ IntsAt (w1.setCell ⟨w.heap.size, k, none⟩ (.slice o1 (row R k).length c1)) o (row R j) ∧ Off o w.heap.size) := fun j hj => by
        obtain ⟨o', c', h1', h2', h3'⟩ := HA.out j hj
        exact ⟨o', c', h1', (h2'.keep hbn).far h3', h3'⟩
      have HO : Hid (Off o1 w.heap.size) := hoff
      clear h1 hbn hr1 HA hI hb hoff
      generalize hxk : xs[k]'(by have := HM.out; omega) = xk at hg1
      go_wp2
      go_roundw
      case rel =>
        refine ⟨k + 1, xs.set k (.slice o1 (row R k).length c1), by go_num, by omega, by rw [List.length_set]; exact HM.out, ?_, HI2.out, HB2.out⟩
        refine lt_step (fun j hj => ?_) ⟨o1, c1, ?_, HR2.out, HO.out⟩
        · obtain ⟨o', c', h1', h2', h3'⟩ := HA2.out j hj
          exact ⟨o', c', by rw [List.getElem?_set_ne (by omega)]; exact h1', h2', h3'⟩
        · rw [List.getElem?_set_self (by have := HM.out; omega)]
      case measure => simp [intOf]; omega
    · have hkk : k = R.length := by omega
      have HK : Hid (k = R.length) := hkk
      clear hkk
      go_wp2
      go_ret
      refine ⟨_, _, rfl, ⟨hn, fun h0 => ⟨w.heap.size, 0, rfl, Nat.le_refl _, (World.ownsRow.lt hI w.heap.size rfl).2, fun j hj => ?_⟩⟩, hb⟩
      obtain ⟨o', c', h1', h2', h3'⟩ := HA.out j (by have := HK.out; omega)
      exact ⟨o', c', by rw [Nat.zero_add, (hI.cell HM.out.symm j hj).1]; exact h1', h2', h3'⟩
end Go.Proofs.Ytkanbnbofoabeaa
