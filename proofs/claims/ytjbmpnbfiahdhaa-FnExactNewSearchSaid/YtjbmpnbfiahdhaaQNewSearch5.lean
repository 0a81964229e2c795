/- Contracts and lemmas for FnExactNewSearch, part 5 of 5. -/
import Derived.Test.YtjbmpnbfiahdhaaQNewSearch1
import Derived.Test.YtjbmpnbfiahdhaaQNewSearch2
import Derived.Test.YtjbmpnbfiahdhaaQNewSearch3
import Derived.Test.YtjbmpnbfiahdhaaQNewSearch4
import Derived.Deep.RegionLaw
import Derived.Deep.CutRange
namespace Go.Proofs.Ytjbmpnbfiahdhaa
open Go.RowKit
set_option linter.unusedVariables false
set_option maxRecDepth 100000

/-- Neither the list nor a row of it lies in block k. -/
def Avoid (k : Nat) (v : Value) (xs : List Value) : Prop := ∀ y, y = v ∨ y ∈ xs → y.ownBlock ≠ some k
theorem set_apart {w : World} {B size n k j : Nat} {e : TypeId} {y u : Value} {ys : List Value} (h : w.ownsRow B e size y n ys) (hk : y.ownBlock ≠ some k) : (w.setCell ⟨k, j, none⟩ u).ownsRow B e size y n ys :=
  World.ownsRow.kept h (grown_set w k j _) (.inr hk)
theorem ownRows_setAvoid {w : World} {B k : Nat} {v : Value} {xs : List Value} {R : List (List Int)} (h : OwnRows w B v xs R) (ha : Avoid k v xs) (j : Nat) (u : Value) : OwnRows (w.setCell ⟨k, j, none⟩ u) B v xs R :=
  ⟨h.len, set_apart h.outer (ha v (.inl rfl)), fun t ht => by
    obtain ⟨o, c, h1, h2, h3⟩ := h.rows t ht
    exact ⟨o, c, h1, set_apart h2 (ha _ (.inr (List.mem_iff_getElem?.2 ⟨t, h1⟩))), h3⟩, h.pair⟩
/-- 't.Rows = append(t.Rows, r)' for a table that the call made. -/
theorem tab_snoc {w w5 w7 : World} {B k6 c c5 nC : Nat} {hd v' : Value} {T T2 : TypeId} {o o5 : Option Addr} {xs : List Value} {P : List (List Int)} {C : List Int} (hnC : C.length = nC)
    (hO : OwnRows w5 B (.slice o P.length c) xs P) (hC : OwnI w5 B (.slice o5 nC c5) C) (hap : ApartR (.slice o P.length c) xs (.slice o5 nC c5))
    (kb : Blk w5 k6 #[hd, .slice o P.length c] T) (av : Avoid k6 (.slice o P.length c) xs) (avC : (Value.slice o5 nC c5).ownBlock ≠ some k6) (hb : Below w.heap.size w w5) (hB : w.heap.size ≤ B) (hk6 : w.heap.size ≤ k6)
    (hown : w7.ownsRow B 68 1 v' (xs.length + 1) (xs ++ [.slice o5 nC c5])) (hgrow : (w5.alloc (.cells #[.slice o5 nC c5] T2)).grownBy w7 (Value.slice o P.length c).ownBlock) (hfr : Fresh (w5.alloc (.cells #[.slice o5 nC c5] T2)) (.slice o P.length c) v') :
    (∃ o' c', v' = .slice o' (P.length + 1) c') ∧ w7.cell? ⟨k6, 1, none⟩ = some (.slice o P.length c) ∧ w7.frozen? ⟨k6, 1, none⟩ = false ∧ Blk (w7.setCell ⟨k6, 1, none⟩ v') k6 #[hd, v'] T ∧
    OwnRows (w7.setCell ⟨k6, 1, none⟩ v') B v' (xs ++ [.slice o5 nC c5]) (P ++ [C]) ∧ Avoid k6 v' (xs ++ [.slice o5 nC c5]) ∧ Below w.heap.size w (w7.setCell ⟨k6, 1, none⟩ v') ∧
    (∀ (B' : Nat) (e : TypeId) (size : Nat) (u : Value) (n : Nat) (ys : List Value), w5.ownsRow B' e size u n ys → Apart u (.slice o P.length c) → u.ownBlock ≠ some k6 → (w7.setCell ⟨k6, 1, none⟩ v').ownsRow B' e size u n ys ∧ Apart u v') ∧
    (∀ (g : Nat) (cs : Array Value) (T' : TypeId), Blk w5 g cs T' → g ≠ k6 → (Value.slice o P.length c).ownBlock ≠ some g → Blk (w7.setCell ⟨k6, 1, none⟩ v') g cs T') := by
  subst hnC
  have hO2 := OwnRows.snoc hO hC hap hown hgrow hfr
  have hsh : ∃ o' c', v' = .slice o' (P.length + 1) c' := by
    obtain ⟨o', c', e⟩ := hO2.shape
    exact ⟨o', c', by rw [e]; simp⟩
  have hv : v'.ownBlock ≠ some k6 := by
    rcases hfr with h | h
    · rw [h]; exact av _ (.inl rfl)
    · intro e
      have h1 := h k6 e
      have h2 := kb.lt
      simp at h1; omega
  have av2 : Avoid k6 v' (xs ++ [.slice o5 C.length c5]) := by
    intro y hy
    rcases hy with rfl | hy
    · exact hv
    · rcases List.mem_append.1 hy with hy | hy
      · exact av y (.inr hy)
      · rw [List.mem_singleton] at hy; subst hy; exact avC
  have k7 : Blk w7 k6 #[hd, .slice o P.length c] T := (kb.alloc _).grown hgrow (fun e => av _ (.inl rfl) e.symm)
  have hb7 : Below w.heap.size w w7 := (hb.alloc hb.size _).grown hgrow (by have := hb.size; simp; omega) (fun g hg => Nat.le_trans hB (World.ownsRow.lt hO.outer g hg).1)
  refine ⟨hsh, k7.cell 1 _ rfl, k7.free 1, k7.set 1 v', ownRows_setAvoid hO2 av2 1 v', av2, Below.setCell (p := (⟨k6, 1, none⟩ : Addr)) hb7 hk6 v', ?_, ?_⟩
  · intro B' e size u n ys h ha hk
    have h1 := World.ownsRow.alloc h (.cells #[.slice o5 C.length c5] T2)
    exact ⟨set_apart (World.ownsRow.kept h1 hgrow ha) hk, Apart.next h1 ha hfr⟩
  · intro g cs T' h hg hne
    exact ((h.alloc _).grown hgrow (fun e => hne e.symm)).far ⟨k6, 1, none⟩ v' hg

def armO (n : Int) (D : List (Int × Int)) : List (List Int) := if areDepsF n D then armUpTo n.toNat (closedSetsF n D) (closedSetsF n D).length else []
def armN (n : Int) (D : List (Int × Int)) : Int := if areDepsF n D then n else 0
def ArmAns (f : FuncId) (n : Int) (oa : Option Addr) (cap : Nat) (D : List (Int × Int)) (w : World) : Prop :=
  Calls Try.prog f #[.int .i64 n, .slice oa D.length cap] w fun e w' => ∃ o c xs, e = .returned (.tuple #[.agg #[.int .i64 (armN n D), .slice o (armO n D).length c], .bool (areDepsF n D)]) ∧ OwnRows w' w.heap.size (.slice o (armO n D).length c) xs (armO n D) ∧ Below w.heap.size w w'
theorem closedSets_le (n : Int) (D : List (Int × Int)) : (closedSetsF n D).length ≤ 32 := by
  unfold closedSetsF
  split
  · next h =>
    have h1 := (areDepsF_val h).2
    have := flt_le (fun x => cloF D x == x) (2 ^ n.toNat)
    have := (pow_nat (n := n) (by omega) h1.2.1).2.1
    omega
  · simp
theorem closedSets_st {n : Int} {D : List (Int × Int)} : ∀ x ∈ closedSetsF n D, St x := by
  intro x hx
  unfold closedSetsF at hx
  split at hx
  · next h =>
    have h1 := (areDepsF_val h).2
    have := (pow_nat (n := n) (by omega) h1.2.1).2.1
    have := (flt_mem.1 hx).1
    exact ⟨this.1, by omega⟩
  · cases hx
theorem nthI_mem {L : List Int} {k : Nat} (h : k < L.length) : nth L k ∈ L := List.mem_iff_getElem?.2 ⟨k, nth_eq h⟩
/-- What holds before the closed set k of L is treated. -/
def ArmI (N : Nat) (L : List Int) (vL : Value) (k6 : Nat) (w : World) (k : Nat) (wr : World) : Prop := ∃ (o : Option Addr) (c : Nat) (xs : List Value), Blk wr k6 #[.int .i64 N, .slice o (armUpTo N L k).length c] 26 ∧ OwnRows wr (w.heap.size + 1) (.slice o (armUpTo N L k).length c) xs (armUpTo N L k) ∧ Avoid k6 (.slice o (armUpTo N L k).length c) xs ∧ OwnI wr (w.heap.size + 1) vL L ∧ Apart vL (.slice o (armUpTo N L k).length c) ∧ Blk wr w.heap.size #[.int .i64 0, .slice none 0 0] 26 ∧ Below w.heap.size w wr
theorem ArmI.next {N : Nat} {L : List Int} {vL : Value} {k6 : Nat} {w : World} {k : Nat} {wr : World} {P : List (List Int)} {C : List Int} {o : Option Addr} {c : Nat} {xs : List Value} (hS : armUpTo N L (k + 1) = P ++ [C]) (h1 : Blk wr k6 #[.int .i64 N, .slice o (P.length + 1) c] 26) (h2 : OwnRows wr (w.heap.size + 1) (.slice o (P.length + 1) c) xs (P ++ [C])) (h3 : Avoid k6 (.slice o (P.length + 1) c) xs) (h4 : OwnI wr (w.heap.size + 1) vL L) (h5 : Apart vL (.slice o (P.length + 1) c)) (h6 : Blk wr w.heap.size #[.int .i64 0, .slice none 0 0] 26) (h7 : Below w.heap.size w wr) : ArmI N L vL k6 w (k + 1) wr := by
  unfold ArmI
  have e : (P ++ [C]).length = P.length + 1 := by simp
  rw [hS, e]
  exact ⟨o, c, xs, h1, h2, h3, h4, h5, h6, h7⟩
theorem c_ArmstrongTable_no (n : Int) (oa) (cap : Nat) (D : List (Int × Int)) (w : World) (hD : DepsAt w oa D) (ha : areDepsF n D = false) :
    Ans Try.prog 13 #[.int .i64 n, .slice oa D.length cap] w (.tuple #[.agg #[.int .i64 0, .slice none 0 0], .bool false]) := by
  unfold Ans
  have hb := (Below.refl w.heap.size w).alloc (Nat.le_refl _) (.cells #[.int .i64 0, .slice none 0 0] 26)
  have kZ := Blk.new w #[.int .i64 0, .slice none 0 0] 26
  go_enter Try.func13, Try.ntmps13
  go_wp2_with fail
  refine Calls.mono (Ans.eqb (c_AreDeps _ _ _ _ _ (hD.keep hb)) ha) ?_
  rintro e w1 ⟨rfl, hbn⟩
  replace kZ := kZ.keep hbn
  replace hb := bel_to hb hbn
  clear hbn
  have z0 := kZ.cell 0 (.int .i64 0) rfl
  have z1 := kZ.cell 1 (.slice none 0 0) rfl
  have f0 := kZ.free 0
  have f1 := kZ.free 1
  go_wp2
  exact bodyPost_ret (v := .tuple #[.agg #[.int .i64 0, .slice none 0 0], .bool false]) (by simp [results, Try.results13, go_sem, z0, z1]) rfl ⟨rfl, bel_set2 hb (Nat.le_refl _) _ _⟩
theorem ownRows_litRow {w : World} {B g n c : Nat} {o : Option Addr} {L : List Int} (hI : OwnI w B (.slice o n c) L) (hl : L.length = n) (hO : w.ownsRow B 68 1 (.slice (some ⟨g, 0, none⟩) 1 1) 1 [.slice o n c]) (hne : (Value.slice o n c).ownBlock ≠ some g) : OwnRows w B (.slice (some ⟨g, 0, none⟩) 1 1) [.slice o n c] [L] := by
  subst hl
  refine ⟨rfl, hO, fun j hj => ?_, fun i j hij hj => ?_⟩
  · match j, hj with
    | 0, _ => exact ⟨o, c, rfl, hI, apart_lit hne⟩
  · simp at hj; omega
set_option maxHeartbeats 1600000 in
theorem c_ArmstrongTable_ok (N : Nat) (oa) (cap : Nat) (D : List (Int × Int)) (w : World) (hD : DepsAt w oa D) (ha : areDepsF N D = true) :
    Calls Try.prog 13 #[.int .i64 N, .slice oa D.length cap] w fun e w' => ∃ o c xs, e = .returned (.tuple #[.agg #[.int .i64 N, .slice o (armUpTo N (closedSetsF N D) (closedSetsF N D).length).length c], .bool true]) ∧ OwnRows w' w.heap.size (.slice o (armUpTo N (closedSetsF N D) (closedSetsF N D).length).length c) xs (armUpTo N (closedSetsF N D) (closedSetsF N D).length) ∧ Below w.heap.size w w' := by
  have hb := (Below.refl w.heap.size w).alloc (Nat.le_refl _) (.cells #[.int .i64 0, .slice none 0 0] 26)
  have kZ := Blk.new w #[.int .i64 0, .slice none 0 0] 26
  obtain ⟨hv, hn1, hn5, _⟩ := areDepsF_val ha
  have hN : N ≤ 5 := by omega
  obtain ⟨i0, hi, hz0, hz1, hz2⟩ := info_parts info_int
  obtain ⟨j0, hj, hy0, hy1, hy2⟩ := info_parts info_ints
  have hp := pow_wrap (n := (N : Int)) (by omega) hn5
  simp only [Int.toNat_natCast] at hp
  have hp1 := hp.1
  have hp2 := hp.2.1
  have hp3 := hp.2.2
  clear hp
  go_enter Try.func13, Try.ntmps13
  go_wp2_with fail
  refine Calls.mono (Ans.eqb (c_AreDeps _ _ _ _ _ (hD.keep hb)) ha) ?_
  rintro e w1 ⟨rfl, hbn⟩
  replace kZ := kZ.keep hbn
  replace hb := bel_to hb hbn
  clear hbn
  have hz := kZ.lt
  go_wp2_with (first | (at_make; refine wpList_make_full _ rfl _ _ 68 rfl w1.heap.size 3 i0 (.int .i64 0) 1 Try.underlying68 hi hz0 hz1 .i64 .i64 _ _ N rfl rfl rfl rfl (by rw [hz2]; omega) (by unfold maxLen; omega) (Nat.le_refl _) ?_; intro w2 hown hgrow) | fail)
  have hb2 := below_grown hgrow (Nat.le_refl _) (by simp)
  have hM := ownI_made hown
  replace kZ := kZ.keep hb2
  have hbw2 := bel_to hb hb2
  have hsz2 := hb2.size
  clear hown hgrow hb2
  have hba := (Below.refl w2.heap.size w2).alloc (Nat.le_refl _) (.cells #[.slice (some ⟨w1.heap.size, 0, none⟩) N N] 68)
  have hO := ownRows_litRow ((hM.keep hba).based (show w.heap.size + 1 ≤ w1.heap.size by omega)) (by simp) (World.ownsRow_lit w2 #[.slice (some ⟨w1.heap.size, 0, none⟩) N N] 1 (show w.heap.size + 1 ≤ w2.heap.size by omega) (by decide) rfl) (fun e => by have := (World.ownsRow.lt hM _ e).2; omega)
  have av : Avoid (w2.heap.size + 1) (.slice (some ⟨w2.heap.size, 0, none⟩) 1 1) [.slice (some ⟨w1.heap.size, 0, none⟩) N N] := fun y hy e => by
    rcases hy with rfl | hy
    · simp [Value.ownBlock] at e
    · rw [List.mem_singleton] at hy; subst hy; simp [Value.ownBlock] at e; omega
  have kT := Blk.new (w2.alloc (.cells #[.slice (some ⟨w1.heap.size, 0, none⟩) N N] 68)) #[.int .i64 N, .slice (some ⟨w2.heap.size, 0, none⟩) 1 1] 26
  simp only [World.size_alloc] at kT
  replace kZ := (kZ.keep hba).alloc (.cells #[.int .i64 N, .slice (some ⟨w2.heap.size, 0, none⟩) 1 1] 26)
  have hbb := (bel_to hbw2 hba).alloc (bel_to hbw2 hba).size (.cells #[.int .i64 N, .slice (some ⟨w2.heap.size, 0, none⟩) 1 1] 26)
  replace hO := hO.keep ((Below.refl _ _).alloc (Nat.le_refl _) (.cells #[.int .i64 N, .slice (some ⟨w2.heap.size, 0, none⟩) 1 1] 26))
  clear hM hbw2 hba hb
  go_wp2_with fail
  refine (c_ClosedSets N oa cap D _ (hD.keep hbb)).mono ?_
  rintro e w3 ⟨vL, rfl, hL, hbn⟩
  have hk6 : w.heap.size < w2.heap.size + 1 := by omega
  have avL : vL.ownBlock ≠ some (w2.heap.size + 1) := fun e => by have := (World.ownsRow.lt hL _ e).1; simp at this; omega
  have apL := (apart_old hO.outer hL).symm
  replace hL := hL.based (show w.heap.size + 1 ≤ _ by simp; omega)
  replace hO := hO.keep hbn
  replace kT := kT.keep hbn
  replace kZ := kZ.keep hbn
  replace hbb := bel_to hbb hbn
  obtain ⟨oL, cL, rfl⟩ := hL.shape
  have hLl := closedSets_le N D
  have HST : Hid (∀ x ∈ closedSetsF N D, St x) := closedSets_st
  clear hbn
  generalize hA : closedSetsF N D = L at *
  have HA : Hid (closedSetsF N D = L) := hA
  clear hA
  generalize w2.heap.size + 1 = k6 at *
  generalize w2.heap.size = k5 at *
  clear hsz2
  go_wp2_with fail
  go_loopw [23] (fun i wr => ∃ (k : Nat), i = .int .i64 k ∧ k ≤ L.length ∧ ArmI N L (.slice oL L.length cL) k6 w k wr) (fun i _ => L.length - (intOf i).toNat)
  case atStart => exact ⟨0, rfl, Nat.zero_le _, _, 1, _, kT, hO, av, hL, apL, kZ, hbb⟩
  case round =>
    clear kT hO av hL apL kZ hbb
    obtain ⟨k, rfl, hk, hArm⟩ := hrel
    have HSame : Hid ((nth L k == 2 ^ N - 1) = true → ArmI N L (.slice oL L.length cL) k6 w (k + 1) wr) := fun h => by
      have e := arm_succ N L k
      rw [h, if_pos rfl, List.append_nil] at e
      unfold ArmI at hArm ⊢
      rw [e]; exact hArm
    obtain ⟨o, c, xs, kT, hO, av, hL, apL, kZ, hb⟩ := hArm
    have HS : Hid (armUpTo N L (k + 1) = armUpTo N L k ++ (if (nth L k == 2 ^ N - 1) then [] else [rowForF N (nth L k) ((k : Int) + 1)])) := arm_succ N L k
    have hPl := arm_len N L k
    have HE : Hid (k = L.length → armUpTo N L k = armUpTo N L L.length) := fun e => by rw [e]
    have hxl := hO.len
    generalize armUpTo N L k = P at *
    have hkt := kT.lt
    by_cases hlt : k < L.length
    · obtain ⟨b, off, rfl, hbs, hcell⟩ := (hL.ints rfl (by unfold Room; omega)).at_ (by omega)
      have hc1 := hcell k hlt
      clear hcell
      generalize nth L k = x at *
      by_cases hx : x = 2 ^ N - 1
      · have hxd : (x == 2 ^ N - 1) = true := by simp [hx]
        have hxn : (x != 2 ^ N - 1) = false := by simp [hx]
        go_wp2_with fail
        go_roundw
        case rel => exact ⟨k + 1, by go_num, by omega, HSame.out hxd⟩
        case measure => simp [intOf]; omega
      · have hxd : (x == 2 ^ N - 1) = false := by simp [hx]
        have hxn : (x != 2 ^ N - 1) = true := by simp [hx]
        have q1 := kT.cell 1 (.slice o P.length c) rfl
        have q1d := kT.drew.cell 1 (.slice o P.length c) rfl
        have hk64 : IntKind.i64.wrap ((k : Int) + 1) = (k : Int) + 1 := by unfold IntKind.wrap; simp [IntKind.bits, IntKind.signed]; omega
        go_wp2_with fail
        go_region_law (first
          | ((try go_simp); refine (c_rowFor N hN x ((k : Int) + 1) _).mono ?_; rintro e w5 ⟨o5, c5, rfl, hI5, hbn⟩; have h45 := bel_to (w := wr) (by first | exact (Below.refl _ _).drew | exact Below.refl _ _) hbn; have kT5 := kT.keep h45; have hO5 := hO.keep h45; have q5 := kT5.cell 1 (.slice o P.length c) rfl; have q5b := fun cs T => (kT5.alloc (.cells cs T)).cell 1 (.slice o P.length c) rfl)
          | (refine step_append_held _ (by rfl) _ _ 24 (by rfl) (w.heap.size + 1) 68 j0 (.slice none 0 0) 1 24 Try.underlying24 hj hy0 hy1 hy2 rfl (by decide) (.slice o P.length c) _ _ (by rfl) (World.ownsRow.alloc hO5.outer _) _ 1 1 [.slice o5 N c5] (by rfl) rfl (World.news_of_block (cs := #[.slice o5 N c5]) (t := 68) (fr := (0, 0)) (heap_alloc_new _ _)) (by intro u hu; simp at hu; subst hu; rfl) (by unfold maxLen; omega) (by omega) (by have := h45.size; simp; omega) ?_; intro v7 w7 hown _ hgrow hfr; obtain ⟨⟨o7, c7, rfl⟩, s7, t7, kT7, hO7, av7, hb7, hoth, hblk⟩ := tab_snoc (w := w) (rowFor_len N x ((k : Int) + 1)) hO5 (hI5.based (show w.heap.size + 1 ≤ _ by simp; omega)) (OwnRows.fresh (w := wr) hO hI5) kT5 av (fun e => by have := (World.ownsRow.lt hI5 _ e).1; simp at this; omega) (bel_to hb h45) (Nat.le_succ _) (show w.heap.size ≤ k6 by omega) hown hgrow hfr; clear hown hgrow hfr)
          | fail)
        all_goals
          obtain ⟨hL7, apL7⟩ := hoth _ _ _ _ _ _ (hL.keep h45) apL avL
          have kZ7 := hblk _ _ _ (kZ.keep h45) (show w.heap.size ≠ k6 by omega) (fun e => by have := (World.ownsRow.lt hO.outer _ e).1; omega)
          have HR7 := (show Hid _ from ArmI.next (show armUpTo N L (k + 1) = P ++ [rowForF N x ((k : Int) + 1)] by rw [HS.out, hxd]; rfl) kT7 hO7 av7 hL7 apL7 kZ7 hb7)
          clear hL7 apL7 kZ7 kT7 hO7 av7 hoth hblk hb7
          go_wp2
          go_roundw
          case rel => exact ⟨k + 1, by go_num, by omega, HR7.out⟩
          case measure => simp [intOf]; omega
    · have hkk : k = L.length := by omega
      have HP := (show Hid _ from HE.out hkk)
      have r0 := kT.cell 0 (.int .i64 N) rfl
      have r1 := kT.cell 1 (.slice o P.length c) rfl
      have z0 := kZ.cell 0 (.int .i64 0) rfl
      have z1 := kZ.cell 1 (.slice none 0 0) rfl
      have f0 := kZ.free 0
      have f1 := kZ.free 1
      have k2 : Blk _ w.heap.size #[.int .i64 N, .slice o P.length c] 26 := (kZ.set 0 (.int .i64 N)).set 1 (.slice o P.length c)
      have q0 := k2.cell 0 (.int .i64 N) rfl
      have q1 := k2.cell 1 (.slice o P.length c) rfl
      clear hkk
      go_wp2
      refine bodyPost_ret (v := .tuple #[.agg #[.int .i64 N, .slice o P.length c], .bool true]) (by simp only [results, Try.results13]; simp [go_sem, q0, q1]) rfl ?_
      rw [HA.out, ← HP.out]
      exact ⟨o, c, xs, rfl, ((hO.far_set 0 (.int .i64 N) (Nat.lt_succ_self _)).far_set 1 (.slice o P.length c) (Nat.lt_succ_self _)).based (Nat.le_succ _), bel_set2 hb (Nat.le_refl _) _ _⟩
end Go.Proofs.Ytjbmpnbfiahdhaa
namespace Go.Proofs.Ytjbmpnbfiahdhaa
open Go.RowKit
theorem heap_two (w : World) (o1 o2 : Obj) : ((w.alloc o1).alloc o2).heap[w.heap.size + 1]? = some o2 := by
  have := heap_alloc_new (w.alloc o1) o2
  rwa [World.size_alloc] at this
end Go.Proofs.Ytjbmpnbfiahdhaa
namespace Go.Proofs.Ytjbmpnbfiahdhaa
open Go.RowKit
set_option linter.unusedVariables false
set_option maxRecDepth 100000

theorem ArmI.keep {N : Nat} {L : List Int} {vL : Value} {k6 : Nat} {w : World} {k : Nat} {wr w' : World} (h : ArmI N L vL k6 w k wr) (hb : Below wr.heap.size wr w') : ArmI N L vL k6 w k w' := by
  obtain ⟨o, c, xs, h1, h2, h3, h4, h5, h6, h7⟩ := h
  exact ⟨o, c, xs, h1.keep hb, h2.keep hb, h3, h4.keep hb, h5, h6.keep hb, bel_to h7 hb⟩
theorem Blk.world {w : World} {g : Nat} {c : Array Value} {T : TypeId} (h : Blk w g c T) : ∃ w', w' = w := ⟨w, rfl⟩
theorem drew_grown {w w' : World} {row : Option Nat} (h : w.drew.grownBy w' row) : w.grownBy w' row := ⟨h.os, h.tape, h.output, h.size, h.block⟩
theorem drew_fresh {w : World} {v v' : Value} (h : Fresh w.drew v v') : Fresh w v v' := h
theorem c_specArmstrongTable_no (n : Int) (oa) (cap : Nat) (D : List (Int × Int)) (w : World) (hD : DepsAt w oa D) (ha : areDepsF n D = false) :
    Ans Try.prog 11 #[.int .i64 n, .slice oa D.length cap] w (.tuple #[.agg #[.int .i64 0, .slice none 0 0], .bool false]) := by
  unfold Ans
  have hb := (Below.refl w.heap.size w).alloc (Nat.le_refl _) (.cells #[.int .i64 0, .slice none 0 0] 26)
  have kZ := Blk.new w #[.int .i64 0, .slice none 0 0] 26
  go_enter Try.func11, Try.ntmps11
  go_wp2_with fail
  refine Calls.mono (Ans.eqb (c_specAreDeps _ _ _ _ _ (hD.keep hb)) ha) ?_
  rintro e w1 ⟨rfl, hbn⟩
  replace kZ := kZ.keep hbn
  replace hb := bel_to hb hbn
  clear hbn
  have z0 := kZ.cell 0 (.int .i64 0) rfl
  have z1 := kZ.cell 1 (.slice none 0 0) rfl
  have f0 := kZ.free 0
  have f1 := kZ.free 1
  go_wp2
  exact bodyPost_ret (v := .tuple #[.agg #[.int .i64 0, .slice none 0 0], .bool false]) (by simp [results, Try.results11, go_sem, z0, z1]) rfl ⟨rfl, bel_set2 hb (Nat.le_refl _) _ _⟩
set_option maxHeartbeats 1600000 in
theorem c_specArmstrongTable_ok (N : Nat) (oa) (cap : Nat) (D : List (Int × Int)) (w : World) (hD : DepsAt w oa D) (ha : areDepsF N D = true) :
    Calls Try.prog 11 #[.int .i64 N, .slice oa D.length cap] w fun e w' => ∃ o c xs, e = .returned (.tuple #[.agg #[.int .i64 N, .slice o (armUpTo N (closedSetsF N D) (closedSetsF N D).length).length c], .bool true]) ∧ OwnRows w' w.heap.size (.slice o (armUpTo N (closedSetsF N D) (closedSetsF N D).length).length c) xs (armUpTo N (closedSetsF N D) (closedSetsF N D).length) ∧ Below w.heap.size w w' := by
  have hb := (Below.refl w.heap.size w).alloc (Nat.le_refl _) (.cells #[.int .i64 0, .slice none 0 0] 26)
  have kZ := Blk.new w #[.int .i64 0, .slice none 0 0] 26
  obtain ⟨hv, hn1, hn5, _⟩ := areDepsF_val ha
  have hN : N ≤ 5 := by omega
  obtain ⟨i0, hi, hz0, hz1, hz2⟩ := info_parts info_int
  obtain ⟨j0, hj, hy0, hy1, hy2⟩ := info_parts info_ints
  have hp := pow_wrap (n := (N : Int)) (by omega) hn5
  simp only [Int.toNat_natCast] at hp
  have hp1 := hp.1
  have hp2 := hp.2.1
  have hp3 := hp.2.2
  clear hp
  go_enter Try.func11, Try.ntmps11
  go_wp2_with fail
  refine Calls.mono (Ans.eqb (c_specAreDeps _ _ _ _ _ (hD.keep hb)) ha) ?_
  rintro e w1 ⟨rfl, hbn⟩
  replace kZ := kZ.keep hbn
  replace hb := bel_to hb hbn
  clear hbn
  have hz := kZ.lt
  have kT := Blk.new w1 #[.int .i64 N, .slice none 0 0] 26
  have hba := (Below.refl w1.heap.size w1).alloc (Nat.le_refl _) (.cells #[.int .i64 N, .slice none 0 0] 26)
  replace kZ := kZ.keep hba
  replace hb := bel_to hb hba
  clear hba
  have hmk : ∀ w' : World, (Instr.makeSlice 68 (.int .i64 N) (.int .i64 N)).run Try.prog w' = .ok (.slice (some ⟨w'.heap.size, 0, none⟩) N N) (w'.alloc (.cells (madeCells #[Value.int .i64 0] N) 3)) := fun w' => by
    have := run_make w' 68 3 i0 (.int .i64 0) Try.underlying68 hi hz0 .i64 .i64 N N (by omega) (by omega) (by rw [hz2]; omega) (by omega)
    rw [hz1] at this; simpa [Value.cells] using this
  go_upto_region 4 with fail
  generalize hwb : w1.alloc (.cells #[.int .i64 N, .slice none 0 0] 26) = wb at *
  have hkb : w1.heap.size < wb.heap.size := kT.lt
  clear hwb
  generalize w1.heap.size = k6 at *
  have q1 := kT.cell 1 (.slice none 0 0) rfl
  have q1d := kT.drew.cell 1 (.slice none 0 0) rfl
  have q1m := (kT.alloc (.cells (madeCells #[Value.int .i64 0] N) 3)).drew.cell 1 (.slice none 0 0) rfl
  have q1n := fun cs T => ((kT.alloc (.cells (madeCells #[Value.int .i64 0] N) 3)).alloc (.cells cs T)).drew.cell 1 (.slice none 0 0) rfl
  have hM := ctr_made wb N hN
  go_cut [] from 18 to 24 (fun wx => ∃ (o : Option Addr) (c : Nat) (xs : List Value), Blk wx k6 #[.int .i64 N, .slice o 1 c] 26 ∧ OwnRows wx (w.heap.size + 1) (.slice o 1 c) xs [List.replicate N 0] ∧ Avoid k6 (.slice o 1 c) xs ∧ Blk wx w.heap.size #[.int .i64 0, .slice none 0 0] 26 ∧ Below w.heap.size w wx)
  case first =>
    go_region_law (first
    | (refine step_append_held _ (by rfl) _ _ 24 (by rfl) (w.heap.size + 1) 68 j0 (.slice none 0 0) 1 24 Try.underlying24 hj hy0 hy1 hy2 rfl (by decide) (.slice none 0 0) 0 [] (by rfl) (World.ownsRow_nil _ _ _ _) _ 1 1 [.slice (some ⟨wb.heap.size, 0, none⟩) N N] (by rfl) rfl (World.news_of_block (cs := #[.slice (some ⟨wb.heap.size, 0, none⟩) N N]) (t := 68) (fr := (0, 0)) (by first | exact heap_two wb _ _ | exact heap_alloc_new _ _)) (by intro u hu; simp at hu; subst hu; rfl) (by unfold maxLen; omega) (by omega) (by simp; omega) ?_; intro v7 w7 hown _ hgrow hfr; obtain ⟨⟨o7, c7, rfl⟩, s7, t7, kT7, hO7, av7, hb7, hoth, hblk⟩ := tab_snoc (w := w) (w5 := wb.alloc (.cells (madeCells #[Value.int .i64 0] N) 3)) (P := []) (o := none) (c := 0) (xs := []) (C := List.replicate N 0) (nC := N) (by simp) (OwnRows.none _ _) (hM.based (show w.heap.size + 1 ≤ wb.heap.size by omega)) ⟨.inl rfl, fun y hy => absurd hy (by simp)⟩ (kT.alloc _) (fun y hy e => by rcases hy with rfl | hy; cases e; cases hy) (fun e => by simp [Value.ownBlock] at e; omega) (hb.alloc hb.size _) (Nat.le_succ _) (show w.heap.size ≤ k6 by omega) hown (drew_grown hgrow) (drew_fresh hfr); clear hown hgrow hfr)
    | fail)
    all_goals
      go_wp2_with fail
      go_meet
      exact ⟨o7, c7, _, kT7, hO7, av7, hblk _ _ _ (kZ.alloc _) (by omega) (by simp [Value.ownBlock]), hb7⟩
  case rest =>
    clear q1 q1d q1m q1n hM hmk kT kZ hb
    obtain ⟨o, c, xs, kT, hO, av, kZ, hb⟩ := hcut
    go_wp2_with fail
    refine (c_specClosedSets N oa cap D _ (hD.keep hb)).mono ?_
    rintro e w3 ⟨vL, rfl, hL, hbn⟩
    have hk6 : w.heap.size < k6 := by omega
    have avL : vL.ownBlock ≠ some k6 := fun e => by have := (World.ownsRow.lt hL _ e).1; have := kT.lt; omega
    have apL := (apart_old hO.outer hL).symm
    replace hL := hL.based (show w.heap.size + 1 ≤ _ by have := kT.lt; omega)
    replace hO := hO.keep hbn
    replace kT := kT.keep hbn
    replace kZ := kZ.keep hbn
    replace hb := bel_to hb hbn
    obtain ⟨oL, cL, rfl⟩ := hL.shape
    have hLl := closedSets_le N D
    have HST : Hid (∀ x ∈ closedSetsF N D, St x) := closedSets_st
    clear hbn
    generalize hA : closedSetsF N D = L at *
    have HA : Hid (closedSetsF N D = L) := hA
    clear hA
    go_wp2_with fail
    go_loopw [8] (fun i wr => ∃ (k : Nat), i = .int .i64 k ∧ k ≤ L.length ∧ ArmI N L (.slice oL L.length cL) k6 w k wr) (fun i _ => L.length - (intOf i).toNat)
    case atStart => exact ⟨0, rfl, Nat.zero_le _, _, c, _, kT, hO, av, hL, apL, kZ, hb⟩
    case round =>
      clear kT hO av hL apL kZ hb
      obtain ⟨k, rfl, hk, hArm⟩ := hrel
      have HSame : Hid ((nth L k == 2 ^ N - 1) = true → ArmI N L (.slice oL L.length cL) k6 w (k + 1) wr) := fun h => by
        have e := arm_succ N L k
        rw [h, if_pos rfl, List.append_nil] at e
        unfold ArmI at hArm ⊢
        rw [e]; exact hArm
      obtain ⟨o, c, xs, kT, hO, av, hL, apL, kZ, hb⟩ := hArm
      have HS : Hid (armUpTo N L (k + 1) = armUpTo N L k ++ (if (nth L k == 2 ^ N - 1) then [] else [rowForF N (nth L k) ((k : Int) + 1)])) := arm_succ N L k
      have hPl := arm_len N L k
      have HE : Hid (k = L.length → armUpTo N L k = armUpTo N L L.length) := fun e => by rw [e]
      have hxl := hO.len
      generalize armUpTo N L k = P at *
      have hkt := kT.lt
      by_cases hlt : k < L.length
      · have HX : Hid (St (nth L k)) := HST.out _ (nthI_mem hlt)
        obtain ⟨b, off, rfl, hbs, hcell⟩ := (hL.ints rfl (by unfold Room; omega)).at_ (by omega)
        have hc1 := hcell k hlt
        clear hcell
        generalize nth L k = x at *
        have hsx := HX.out
        by_cases hx : x = 2 ^ N - 1
        · have hxd : (x == 2 ^ N - 1) = true := by simp [hx]
          have hxe : (x == allM N) = true := by unfold allM; simpa using hx
          go_wp2_with fail
          have hA1 := (show Hid _ from HSame.out hxd)
          (refine wp_region_after (by kernel_rfl) (by kernel_rfl) ?_; have q_hc1 := fun (x : After _) => cell_keep hc1 x.bel; (repeat (go_big_quiet_step ((go_at_call 80; exact Ans.after (c_l2All N (by omega) _))))); clear q_hc1; refine wpQuiet_nil ?_; rintro _ ⟨⟨w1, hbn⟩, rfl⟩; (try simp only [After.w]); replace hc1 := cell_keep hc1 hbn; replace hA1 := (show Hid _ from ArmI.keep hA1.out hbn); replace hb := bel_to (w := w) (by first | exact hb | exact hb.alloc hb.size _ | exact (hb.alloc hb.size _).alloc (Nat.le_trans hb.size (by simp)) _ | exact hb.setCell (by simp [hb.size]) _) hbn; clear hbn)
          go_wp2
          go_roundw
          case rel => exact ⟨k + 1, by go_num, by omega, hA1.out⟩
          case measure => simp [intOf]; omega
        · have hxd : (x == 2 ^ N - 1) = false := by simp [hx]
          have hxe : (x == allM N) = false := by unfold allM; simpa using hx
          go_wp2_with fail
          (refine wp_region_after (by kernel_rfl) (by kernel_rfl) ?_; have q_hc1 := fun (x : After _) => cell_keep hc1 x.bel; (repeat (go_big_quiet_step ((go_at_call 80; exact Ans.after (c_l2All N (by omega) _))))); clear q_hc1; refine wpQuiet_nil ?_; rintro _ ⟨⟨w1, hbn⟩, rfl⟩; (try simp only [After.w]); replace hc1 := cell_keep hc1 hbn; replace kT := kT.keep hbn; replace hO := hO.keep hbn; replace hL := OwnI.keep hL hbn; replace kZ := kZ.keep hbn; replace hb := bel_to (w := w) (by first | exact hb | exact hb.alloc hb.size _ | exact (hb.alloc hb.size _).alloc (Nat.le_trans hb.size (by simp)) _ | exact hb.setCell (by simp [hb.size]) _) hbn; clear hbn)
          obtain ⟨wq, hwq⟩ := Blk.world kT
          subst hwq
          have hkq := kT.lt
          go_wp2_with fail
          go_loopw [9, 10] (fun v i wi => ∃ j : Nat, i = .int .i64 j ∧ j ≤ N ∧ OwnI wi wq.heap.size v (rowForF j x ((k : Int) + 1)) ∧ Below wq.heap.size wq wi) (fun _ i _ => N - (intOf i).toNat)
          case atStart => exact ⟨0, rfl, Nat.zero_le _, OwnI.empty _ _ (Nat.le_refl _), (Below.refl _ _).alloc (Nat.le_refl _) _⟩
          case round =>
            obtain ⟨j, rfl, hjN, hI, hbl⟩ := hrel
            have hc2 := cell_keep hc1 hbl
            by_cases hjlt : j < N
            · have HR : Hid (rowForF (j + 1) x ((k : Int) + 1) = rowForF j x ((k : Int) + 1) ++ [if hasc x j then 0 else (k : Int) + 1]) := rowFor_succ j x _
              have hk64 : 0 ≤ (j : Int) ∧ (j : Int) < 64 := by omega
              have hbt := row_bit hsx (show j < 5 by omega)
              have hle := rowFor_len j x ((k : Int) + 1)
              generalize rowForF j x ((k : Int) + 1) = M at *
              cases hh : hasc x j
              · have hbt0 : bits BinOp.and .i64 (x / 2 ^ j) 1 = 0 := by rw [hbt, hh]; rfl
                clear hbt
                go_wp2_with (first | (at_builtin; refine wpList_append_own _ rfl _ _ 68 rfl wq.heap.size 3 i0 (.int .i64 0) 1 8 Try.underlying68 hi hz0 hz1 hz2 rfl (by decide) _ _ _ rfl (World.ownsRow.alloc hI _) _ 1 1 [.int .i64 ((k : Int) + 1)] rfl rfl (by intro j u hj; match j, hj with | 0, hj => simp at hj; subst hj; simp [Addr.add]) (by intro u hu; simp at hu; subst hu; rfl) (by unfold maxLen; omega) (by omega) (by have := hbl.size; simp; omega) ?_; intro v' w1 hown hgrow _; replace hbl := (hbl.alloc hbl.size _).grown hgrow (by have := hbl.size; simp; omega) (fun g hg => (World.ownsRow.lt hI g hg).1); replace hI := OwnI.snoc hown; clear hown hgrow) | fail)
                go_roundw
                case rel => exact ⟨j + 1, by go_num, by omega, by rw [HR.out, hh]; exact hI, hbl⟩
                case measure => simp [intOf]; omega
              · have hbt0 : bits BinOp.and .i64 (x / 2 ^ j) 1 = 1 := by rw [hbt, hh]; rfl
                clear hbt
                go_wp2_with (first | (at_builtin; refine wpList_append_own _ rfl _ _ 68 rfl wq.heap.size 3 i0 (.int .i64 0) 1 8 Try.underlying68 hi hz0 hz1 hz2 rfl (by decide) _ _ _ rfl (World.ownsRow.alloc hI _) _ 1 1 [.int .i64 (0)] rfl rfl (by intro j u hj; match j, hj with | 0, hj => simp at hj; subst hj; simp [Addr.add]) (by intro u hu; simp at hu; subst hu; rfl) (by unfold maxLen; omega) (by omega) (by have := hbl.size; simp; omega) ?_; intro v' w1 hown hgrow _; replace hbl := (hbl.alloc hbl.size _).grown hgrow (by have := hbl.size; simp; omega) (fun g hg => (World.ownsRow.lt hI g hg).1); replace hI := OwnI.snoc hown; clear hown hgrow) | fail)
                go_roundw
                case rel => exact ⟨j + 1, by go_num, by omega, by rw [HR.out, hh]; exact hI, hbl⟩
                case measure => simp [intOf]; omega
            · obtain rfl : j = N := by omega
              obtain ⟨o5, c5, hv5⟩ := hI.shape
              rw [rowFor_len] at hv5
              subst hv5
              have hO5 := hO.keep hbl
              have kT5 := kT.keep hbl
              have q1 := kT5.cell 1 (.slice o P.length c) rfl
              go_wp2_with (first | (at_builtin; refine wpList_append_fresh rfl _ _ 24 rfl (w.heap.size + 1) 68 j0 (.slice none 0 0) 1 24 Try.underlying24 hj hy0 hy1 hy2 rfl (by decide) _ _ _ rfl (World.ownsRow.alloc hO5.outer _) _ 1 1 [.slice o5 j c5] rfl rfl (World.news_of_block (cs := #[.slice o5 j c5]) (t := 68) (fr := (0, 0)) (heap_alloc_new _ _)) (by intro u hu; simp at hu; subst hu; rfl) (by unfold maxLen; omega) (by omega) (by have := hbl.size; simp; omega) ?_; intro v7 w7 hown hgrow hfr; obtain ⟨⟨o7, c7, rfl⟩, s7, t7, kT7, hO7, av7, hb7, hoth, hblk⟩ := tab_snoc (w := w) (rowFor_len j x ((k : Int) + 1)) hO5 (hI.based (show w.heap.size + 1 ≤ wq.heap.size by omega)) (OwnRows.fresh (w := wq) hO hI) kT5 av (fun e => by have := (World.ownsRow.lt hI _ e).1; omega) (bel_to hb hbl) (Nat.le_succ _) (show w.heap.size ≤ k6 by omega) hown hgrow hfr; clear hown hgrow hfr; obtain ⟨hL7, apL7⟩ := hoth _ _ _ _ _ _ (hL.keep hbl) apL avL; have kZ7 := hblk _ _ _ (kZ.keep hbl) (show w.heap.size ≠ k6 by omega) (fun e => by have := (World.ownsRow.lt hO.outer _ e).1; omega); have HR7 := (show Hid _ from ArmI.next (show armUpTo j L (k + 1) = P ++ [rowForF j x ((k : Int) + 1)] by rw [HS.out, hxd]; rfl) kT7 hO7 av7 hL7 apL7 kZ7 hb7); clear hL7 apL7 kZ7 kT7 hO7 av7 hoth hblk hb7) | fail)
              go_roundw
              case rel => exact ⟨k + 1, by go_num, by omega, HR7.out⟩
              case measure => simp [intOf]; omega
      · have hkk : k = L.length := by omega
        have HP := (show Hid _ from HE.out hkk)
        have r0 := kT.cell 0 (.int .i64 N) rfl
        have r1 := kT.cell 1 (.slice o P.length c) rfl
        have z0 := kZ.cell 0 (.int .i64 0) rfl
        have z1 := kZ.cell 1 (.slice none 0 0) rfl
        have f0 := kZ.free 0
        have f1 := kZ.free 1
        have k2 : Blk _ w.heap.size #[.int .i64 N, .slice o P.length c] 26 := (kZ.set 0 (.int .i64 N)).set 1 (.slice o P.length c)
        have q0 := k2.cell 0 (.int .i64 N) rfl
        have q1 := k2.cell 1 (.slice o P.length c) rfl
        clear hkk
        go_wp2
        refine bodyPost_ret (v := .tuple #[.agg #[.int .i64 N, .slice o P.length c], .bool true]) (by simp only [results, Try.results11]; simp [go_sem, q0, q1]) rfl ?_
        rw [HA.out, ← HP.out]
        exact ⟨o, c, xs, rfl, ((hO.far_set 0 (.int .i64 N) (Nat.lt_succ_self _)).far_set 1 (.slice o P.length c) (Nat.lt_succ_self _)).based (Nat.le_succ _), bel_set2 hb (Nat.le_refl _) _ _⟩
end Go.Proofs.Ytjbmpnbfiahdhaa
namespace Go.Proofs.Ytjbmpnbfiahdhaa
open Go.RowKit
set_option linter.unusedVariables false
set_option maxRecDepth 100000

theorem step_append_none {P : Program} (w : World) {ops : Array Oper} {o : Oper} {a : Act} {K : Act → World → Prop} {Q : Exit → Act → World → Prop} {E : Prop} (hgd : o.guard = none) (s x : Operand) (t : TypeId)
    (ho : o.op = .call { callee := .builtin .append, args := #[s, x], argTypes := #[t, t] })
    (base : Nat) (e : TypeId) (i : TypeInfo) (size : Nat) (ht : P.underlying t = some (.slice e)) (hi : P.info? e = some i)
    (v : Value) (n : Nat) (xs : List Value) (hs : a.eval s = v) (hown : w.ownsRow base e size v n xs) (hx : a.eval x = .slice none 0 0)
    (h : K (a.put o.dst v) w) : if Region.wanted o (yielded ops a.tmps) = true then Oper.wp P o a w K Q else E := by
  have hw : Region.wanted o (yielded ops a.tmps) = true := by simp [Region.wanted, hgd]
  rw [if_pos hw]
  have hrun := run_append_owned_none (P := P) (w := w) base t o.type e i size ht hi v n xs hown
  unfold Oper.wp
  simp [execOp, ho, resolve, invoke, builtin, hs, hx, hrun, Result.andThen]
  exact h
theorem avoid_none (k : Nat) : Avoid k (.slice none 0 0) [] := fun y hy e => by
  rcases hy with rfl | hy
  · cases e
  · cases hy
/-- What holds before row k is copied. -/
def CpI (n : Int) (va : Value) (R : List (List Int)) (w : World) (k : Nat) (wr : World) : Prop := ∃ (o : Option Addr) (c : Nat) (xs : List Value), Blk wr (w.heap.size + 2) #[.int .i64 n, .slice o k c] 26 ∧ OwnRows wr (w.heap.size + 2) (.slice o k c) xs (R.take k) ∧ Avoid (w.heap.size + 2) (.slice o k c) xs ∧ Blk wr w.heap.size #[.int .i64 n, va] 26 ∧ Blk wr (w.heap.size + 1) #[.int .i64 0, .slice none 0 0] 26 ∧ Below w.heap.size w wr
theorem CpI.next {n : Int} {va : Value} {R : List (List Int)} {w wr : World} {k : Nat} {o : Option Addr} {c : Nat} {xs : List Value} {P : List (List Int)} {C : List Int} (hS : R.take (k + 1) = P ++ [C]) (hP : P.length = k) (h1 : Blk wr (w.heap.size + 2) #[.int .i64 n, .slice o (P.length + 1) c] 26) (h2 : OwnRows wr (w.heap.size + 2) (.slice o (P.length + 1) c) xs (P ++ [C])) (h3 : Avoid (w.heap.size + 2) (.slice o (P.length + 1) c) xs) (h4 : Blk wr w.heap.size #[.int .i64 n, va] 26) (h5 : Blk wr (w.heap.size + 1) #[.int .i64 0, .slice none 0 0] 26) (h6 : Below w.heap.size w wr) : CpI n va R w (k + 1) wr := by
  unfold CpI
  rw [hS]
  rw [hP] at h1 h2 h3
  exact ⟨o, c, xs, h1, h2, h3, h4, h5, h6⟩
set_option maxHeartbeats 3200000 in
theorem c_l3Copy (n : Int) (oa) (ca : Nat) (R : List (List Int)) (w : World) (hR : RowsC w oa R) (hRl : R.length ≤ 1048576) (hRr : ∀ j, j < R.length → (row R j).length ≤ 1048576) :
    Calls Try.prog 90 #[.agg #[.int .i64 n, .slice oa R.length ca]] w fun e w' => ∃ o c xs, e = .returned (.agg #[.int .i64 n, .slice o R.length c]) ∧ OwnRows w' w.heap.size (.slice o R.length c) xs R ∧ Below w.heap.size w w' := by
  obtain ⟨i0, hi, hz0, hz1, hz2⟩ := info_parts info_int
  obtain ⟨j0, hj, hy0, hy1, hy2⟩ := info_parts info_ints
  have hb := (bel2 w (.cells #[.int .i64 n, .slice oa R.length ca] 26) (.cells #[.int .i64 0, .slice none 0 0] 26)).alloc (by simp; omega) (.cells #[.int .i64 n, .slice none 0 0] 26)
  have kA := ((Blk.new w #[.int .i64 n, .slice oa R.length ca] 26).alloc (.cells #[.int .i64 0, .slice none 0 0] 26)).alloc (.cells #[.int .i64 n, .slice none 0 0] 26)
  have kZ := (Blk.new (w.alloc (.cells #[.int .i64 n, .slice oa R.length ca] 26)) #[.int .i64 0, .slice none 0 0] 26).alloc (.cells #[.int .i64 n, .slice none 0 0] 26)
  have kT := Blk.new ((w.alloc (.cells #[.int .i64 n, .slice oa R.length ca] 26)).alloc (.cells #[.int .i64 0, .slice none 0 0] 26)) #[.int .i64 n, .slice none 0 0] 26
  simp only [World.size_alloc] at kZ kT
  have HR : Hid (RowsC w oa R) := hR
  have HRr : Hid (∀ j, j < R.length → (row R j).length ≤ 1048576) := hRr
  clear hR hRr
  have a0 := two_a w #[.int .i64 n, .slice oa R.length ca] 26 #[.int .i64 0, .slice none 0 0] 26 0 (.int .i64 n) rfl
  go_enter Try.func90, Try.ntmps90
  go_wp2_with fail
  go_loopw [4] (fun i wr => ∃ k : Nat, i = .int .i64 k ∧ k ≤ R.length ∧ CpI n (.slice oa R.length ca) R w k wr) (fun i _ => R.length - (intOf i).toNat)
  case atStart => exact ⟨0, rfl, Nat.zero_le _, none, 0, [], kT, OwnRows.none _ _, avoid_none _, kA, kZ, hb⟩
  case round =>
    clear kT kA kZ hb a0
    obtain ⟨k, rfl, hk, o, c, xs, kT, hO, av, kA, kZ, hb⟩ := hrel
    have a1 := kA.cell 1 (.slice oa R.length ca) rfl
    by_cases hlt : k < R.length
    · obtain ⟨b, off, rfl, hbs, hc⟩ := HR.out.1.at_ (by omega)
      obtain ⟨ob, cb, h1, r1⟩ := hc k hlt
      have hnil := HR.out.2 b off rfl k hlt ob _ cb h1
      have HT : Hid (R.take (k + 1) = R.take k ++ [row R k]) := take_row hlt
      have hLl := HRr.out k hlt
      have hc1 := cell_keep h1 hb
      have hrow := r1.keep hb
      have hPl : (R.take k).length = k := by rw [List.length_take]; omega
      have hxl := hO.len
      rw [hPl] at hxl
      have HPl : Hid ((R.take k).length = k) := hPl
      clear hc h1 r1 hPl
      generalize row R k = L at *
      generalize R.take k = P at *
      go_upto_region 5 with fail
      have hkt := kT.lt
      have hbe := (Below.refl wr.heap.size wr).alloc (Nat.le_refl _) (.cells #[] 3)
      have a1d := kA.drew.cell 1 (.slice (some ⟨b, off, none⟩) R.length ca) rfl
      have a1e := (kA.keep hbe).drew.cell 1 (.slice (some ⟨b, off, none⟩) R.length ca) rfl
      have hc1d := cell_keep hc1 (Below.refl _ _).drew
      have hc1e := cell_keep hc1 hbe.drew
      have q1d := kT.drew.cell 1 (.slice o k c) rfl
      have q1e := (kT.keep hbe).drew.cell 1 (.slice o k c) rfl
      have hE := OwnI.empty wr wr.heap.size (Nat.le_refl _)
      rcases ob with _ | ⟨b', off', sp'⟩
      · have hcb : cb = 0 := hnil rfl
        have hL0 : L = [] := by
          rcases Nat.eq_zero_or_pos L.length with h | h
          · exact List.eq_nil_of_length_eq_zero h
          · obtain ⟨_, _, e, _⟩ := hrow.at_ h; cases e
        subst hcb hL0
        have kTe := kT.keep hbe
        have hOe := hO.keep hbe
        have q1f := fun cs T => (kTe.alloc (.cells cs T)).drew.cell 1 (.slice o k c) rfl
        go_region_law (first
          | (refine step_append_none _ (by rfl) _ _ 68 (by rfl) wr.heap.size 3 i0 1 Try.underlying68 hi (.slice (some ⟨wr.heap.size, 0, none⟩) 0 0) 0 [] (by rfl) hE (by rfl) ?_)
          | (rw [← HPl.out] at hOe kTe; refine step_append_held _ (by rfl) _ _ 24 (by rfl) (w.heap.size + 2) 68 j0 (.slice none 0 0) 1 24 Try.underlying24 hj hy0 hy1 hy2 rfl (by decide) (.slice o P.length c) _ _ (by first | rfl | (rw [HPl.out]; rfl)) (World.ownsRow.alloc hOe.outer _) _ 1 1 [.slice (some ⟨wr.heap.size, 0, none⟩) 0 0] (by rfl) rfl (World.news_of_block (cs := #[.slice (some ⟨wr.heap.size, 0, none⟩) 0 0]) (t := 68) (fr := (0, 0)) (by first | exact heap_two _ _ _ | exact heap_alloc_new _ _)) (by intro u hu; simp at hu; subst hu; rfl) (by unfold maxLen; omega) (by omega) (by have := hbe.size; simp; omega) ?_; intro v7 w7 hown _ hgrow hfr; obtain ⟨⟨o7, c7, rfl⟩, s7, t7, kT7, hO7, av7, hb7, hoth, hblk⟩ := tab_snoc (w := w) (C := []) (nC := 0) rfl hOe (hE.based (show w.heap.size + 2 ≤ _ by omega)) (by have hq := hO; rw [← HPl.out] at hq; exact hq.fresh hE) kTe (by rw [HPl.out]; exact av) (fun e => by have := (World.ownsRow.lt hE _ e).1; omega) (bel_to hb hbe) (show w.heap.size ≤ w.heap.size + 2 by omega) (show w.heap.size ≤ w.heap.size + 2 by omega) hown (drew_grown hgrow) (drew_fresh hfr); rw [HPl.out] at s7; clear hown hgrow hfr)
          | fail)
        all_goals
          have kA7 := hblk _ _ _ (kA.keep hbe) (show w.heap.size ≠ w.heap.size + 2 by omega) (fun e => by have := (World.ownsRow.lt hO.outer _ (by rw [← HPl.out]; exact e)).1; omega)
          have kZ7 := hblk _ _ _ (kZ.keep hbe) (show w.heap.size + 1 ≠ w.heap.size + 2 by omega) (fun e => by have := (World.ownsRow.lt hO.outer _ (by rw [← HPl.out]; exact e)).1; omega)
          have HN := (show Hid _ from CpI.next HT.out HPl.out kT7 hO7 av7 kA7 kZ7 hb7)
          clear kA7 kZ7 kT7 hO7 av7 hoth hblk hb7
          go_wp2
          go_roundw
          case rel => exact ⟨k + 1, by go_num, by omega, HN.out⟩
          case measure => simp [intOf]; omega
      · have HB : Hid (∀ j u, (L.map encI)[j]? = some u → (wr.alloc (.cells #[] 3)).drew.cell? ((⟨b', off', sp'⟩ : Addr).add j) = some u) := fun j u hu => (hrow.keep hbe.drew).cellsAny rfl j u hu
        go_region_law (first
          | (refine step_append_own _ (by rfl) _ _ 68 (by rfl) wr.heap.size 3 i0 (.int .i64 0) 1 8 Try.underlying68 hi hz0 hz1 hz2 rfl (by decide) (.slice (some ⟨wr.heap.size, 0, none⟩) 0 0) 0 [] (by rfl) hE ⟨b', off', sp'⟩ L.length _ (L.map encI) (by rfl) (by simp) HB.out (ones L) (by unfold maxLen; simp; omega) (by simp; omega) (by simp) ?_; intro v8 w8 hown hgrow; have hI8 : OwnI w8 wr.heap.size v8 L := (by unfold OwnI; simpa using hown); have hb8 := hbe.drew.grown hgrow (by simp) (fun g hg => (World.ownsRow.lt hE g hg).1); clear hown hgrow; obtain ⟨o8, c8, rfl⟩ := hI8.shape; have kT8 := kT.keep hb8; have hO8 := hO.keep hb8; have q8 := kT8.cell 1 (.slice o k c) rfl; have q8b := fun cs T => (kT8.alloc (.cells cs T)).cell 1 (.slice o k c) rfl)
          | (rw [← HPl.out] at hO8 kT8; refine step_append_held _ (by rfl) _ _ 24 (by rfl) (w.heap.size + 2) 68 j0 (.slice none 0 0) 1 24 Try.underlying24 hj hy0 hy1 hy2 rfl (by decide) (.slice o P.length c) _ _ (by first | rfl | (rw [HPl.out]; rfl)) (World.ownsRow.alloc hO8.outer _) _ 1 1 [.slice o8 L.length c8] (by rfl) rfl (World.news_of_block (cs := #[.slice o8 L.length c8]) (t := 68) (fr := (0, 0)) (by first | exact heap_two _ _ _ | exact heap_alloc_new _ _)) (by intro u hu; simp at hu; subst hu; rfl) (by unfold maxLen; omega) (by omega) (by have := hb8.size; simp; omega) ?_; intro v7 w7 hown _ hgrow hfr; obtain ⟨⟨o7, c7, rfl⟩, s7, t7, kT7, hO7, av7, hb7, hoth, hblk⟩ := tab_snoc (w := w) (C := L) (nC := L.length) rfl hO8 (hI8.based (show w.heap.size + 2 ≤ _ by omega)) (by have hq := hO; rw [← HPl.out] at hq; exact hq.fresh hI8) kT8 (by rw [HPl.out]; exact av) (fun e => by have := (World.ownsRow.lt hI8 _ e).1; omega) (bel_to hb hb8) (show w.heap.size ≤ w.heap.size + 2 by omega) (show w.heap.size ≤ w.heap.size + 2 by omega) hown (hgrow) (hfr); rw [HPl.out] at s7; clear hown hgrow hfr)
          | fail)
        all_goals
          have kA7 := hblk _ _ _ (kA.keep hb8) (show w.heap.size ≠ w.heap.size + 2 by omega) (fun e => by have := (World.ownsRow.lt hO.outer _ (by rw [← HPl.out]; exact e)).1; omega)
          have kZ7 := hblk _ _ _ (kZ.keep hb8) (show w.heap.size + 1 ≠ w.heap.size + 2 by omega) (fun e => by have := (World.ownsRow.lt hO.outer _ (by rw [← HPl.out]; exact e)).1; omega)
          have HN := (show Hid _ from CpI.next HT.out HPl.out kT7 hO7 av7 kA7 kZ7 hb7)
          clear kA7 kZ7 kT7 hO7 av7 hoth hblk hb7
          go_wp2
          go_roundw
          case rel => exact ⟨k + 1, by go_num, by omega, HN.out⟩
          case measure => simp [intOf]; omega
    · have hkk : k = R.length := by omega
      have HE : Hid (R.take k = R) := by show R.take k = R; rw [hkk, List.take_length]
      have HK : Hid (k = R.length) := hkk
      have r0 := kT.cell 0 (.int .i64 n) rfl
      have r1 := kT.cell 1 (.slice o k c) rfl
      have z0 := kZ.cell 0 (.int .i64 0) rfl
      have z1 := kZ.cell 1 (.slice none 0 0) rfl
      have f0 := kZ.free 0
      have f1 := kZ.free 1
      have k2 : Blk _ (w.heap.size + 1) #[.int .i64 n, .slice o k c] 26 := (kZ.set 0 (.int .i64 n)).set 1 (.slice o k c)
      have q0 := k2.cell 0 (.int .i64 n) rfl
      have q1 := k2.cell 1 (.slice o k c) rfl
      rw [HE.out] at hO
      clear hkk
      go_wp2
      refine bodyPost_ret (v := .agg #[.int .i64 n, .slice o k c]) (by simp only [results, Try.results90]; simp [go_sem, q0, q1]) rfl ?_
      rw [HK.out] at hO ⊢
      exact ⟨o, c, xs, rfl, ((hO.far_set 0 (.int .i64 n) (show w.heap.size + 1 < w.heap.size + 2 by omega)).far_set 1 (.slice o R.length c) (show w.heap.size + 1 < w.heap.size + 2 by omega)).based (by omega), bel_set2 hb (Nat.le_succ _) _ _⟩
set_option maxHeartbeats 800000 in
theorem c_specNewSearch_no (n : Int) (oa) (ca : Nat) (R : List (List Int)) (m : Int) (w : World) (hR : RowsAt w oa R) (h : (isTabF n R && modeF m) = false) :
    Ans Try.prog 20 #[.agg #[.int .i64 n, .slice oa R.length ca], .int .i64 m] w (.tuple #[.agg #[.int .i64 0, .slice none 0 0, .int .i64 0, .int .i64 0, .slice none 0 0, .int .i64 0], .bool false]) := by
  unfold Ans
  have hb := bel2 w (.cells #[.int .i64 n, .slice oa R.length ca] 26) (.cells #[.int .i64 0, .slice none 0 0, .int .i64 0, .int .i64 0, .slice none 0 0, .int .i64 0] 39)
  have kA := (Blk.new w #[.int .i64 n, .slice oa R.length ca] 26).alloc (.cells #[.int .i64 0, .slice none 0 0, .int .i64 0, .int .i64 0, .slice none 0 0, .int .i64 0] 39)
  have kZ := Blk.new (w.alloc (.cells #[.int .i64 n, .slice oa R.length ca] 26)) #[.int .i64 0, .slice none 0 0, .int .i64 0, .int .i64 0, .slice none 0 0, .int .i64 0] 39
  simp only [World.size_alloc] at kZ
  have a0 := kA.cell 0 (.int .i64 n) rfl
  have a1 := kA.cell 1 (.slice oa R.length ca) rfl
  go_enter Try.func20, Try.ntmps20
  go_wp2_with fail
  refine Calls.mono (Ans.eqb (c_l4Fine n _ _ R m _ (hR.keep hb)) h) ?_
  rintro e w1 ⟨rfl, hbn⟩
  replace kZ := kZ.keep hbn
  replace hb := bel_to hb hbn
  clear hbn a0 a1 kA
  have z0 := kZ.cell 0 (.int .i64 0) rfl
  have z1 := kZ.cell 1 (.slice none 0 0) rfl
  have z2 := kZ.cell 2 (.int .i64 0) rfl
  have z3 := kZ.cell 3 (.int .i64 0) rfl
  have z4 := kZ.cell 4 (.slice none 0 0) rfl
  have z5 := kZ.cell 5 (.int .i64 0) rfl
  have f0 := kZ.free 0
  have f1 := kZ.free 1
  have f2 := kZ.free 2
  have f3 := kZ.free 3
  have f4 := kZ.free 4
  have f5 := kZ.free 5
  go_wp2
  exact bodyPost_ret (v := .tuple #[.agg #[.int .i64 0, .slice none 0 0, .int .i64 0, .int .i64 0, .slice none 0 0, .int .i64 0], .bool false]) (by simp [results, Try.results20, go_sem, z0, z1, z2, z3, z4, z5]) rfl ⟨rfl, bel_set6 hb (Nat.le_succ _) _ _ _ _ _ _⟩
theorem rows_small {n : Int} {R : List (List Int)} (h : isTabF n R = true) : R.length ≤ 1048576 ∧ ∀ j, j < R.length → (row R j).length ≤ 1048576 := by
  obtain ⟨h1, h5, h40, hr⟩ := isTab_of h
  exact ⟨by omega, fun j hj => by have := hr j hj; omega⟩
set_option maxHeartbeats 800000 in
theorem c_specNewSearch_ok (n : Int) (oa) (ca : Nat) (R : List (List Int)) (m : Int) (w : World) (hR : RowsC w oa R) (h : (isTabF n R && modeF m) = true) :
    Calls Try.prog 20 #[.agg #[.int .i64 n, .slice oa R.length ca], .int .i64 m] w fun e w' => ∃ o c xs, e = .returned (.tuple #[.agg #[.int .i64 n, .slice o R.length c, .int .i64 m, .int .i64 0, .slice none 0 0, .int .i64 0], .bool true]) ∧ OwnRows w' w.heap.size (.slice o R.length c) xs R ∧ Below w.heap.size w w' := by
  have hb := bel2 w (.cells #[.int .i64 n, .slice oa R.length ca] 26) (.cells #[.int .i64 0, .slice none 0 0, .int .i64 0, .int .i64 0, .slice none 0 0, .int .i64 0] 39)
  have kA := (Blk.new w #[.int .i64 n, .slice oa R.length ca] 26).alloc (.cells #[.int .i64 0, .slice none 0 0, .int .i64 0, .int .i64 0, .slice none 0 0, .int .i64 0] 39)
  have kZ := Blk.new (w.alloc (.cells #[.int .i64 n, .slice oa R.length ca] 26)) #[.int .i64 0, .slice none 0 0, .int .i64 0, .int .i64 0, .slice none 0 0, .int .i64 0] 39
  simp only [World.size_alloc] at kZ
  have a0 := kA.cell 0 (.int .i64 n) rfl
  have a1 := kA.cell 1 (.slice oa R.length ca) rfl
  have hsm := rows_small (by simp only [Bool.and_eq_true] at h; exact h.1)
  go_enter Try.func20, Try.ntmps20
  go_wp2_with fail
  refine Calls.mono (Ans.eqb (c_l4Fine n _ _ R m _ (hR.1.keep hb)) h) ?_
  rintro e w1 ⟨rfl, hbn⟩
  replace kZ := kZ.keep hbn
  replace kA := kA.keep hbn
  replace hb := bel_to hb hbn
  clear hbn a0 a1
  have a0 := kA.cell 0 (.int .i64 n) rfl
  have a1 := kA.cell 1 (.slice oa R.length ca) rfl
  have hsz := kZ.lt
  go_wp2_with fail
  refine (c_l3Copy n _ _ R _ (hR.keep hb) hsm.1 hsm.2).mono ?_
  rintro e w3 ⟨o, c, xs, rfl, hN, hbn⟩
  replace kZ := kZ.keep hbn
  replace hb := bel_to hb hbn
  clear hbn a0 a1 kA hsm
  have z0 := kZ.cell 0 (.int .i64 0) rfl
  have z1 := kZ.cell 1 (.slice none 0 0) rfl
  have z2 := kZ.cell 2 (.int .i64 0) rfl
  have z3 := kZ.cell 3 (.int .i64 0) rfl
  have z4 := kZ.cell 4 (.slice none 0 0) rfl
  have z5 := kZ.cell 5 (.int .i64 0) rfl
  have f0 := kZ.free 0
  have f1 := kZ.free 1
  have f2 := kZ.free 2
  have f3 := kZ.free 3
  have f4 := kZ.free 4
  have f5 := kZ.free 5
  go_wp2
  exact bodyPost_ret (v := .tuple #[.agg #[.int .i64 n, .slice o R.length c, .int .i64 m, .int .i64 0, .slice none 0 0, .int .i64 0], .bool true]) (by simp [results, Try.results20, go_sem, z0, z1, z2, z3, z4, z5]) rfl ⟨o, c, xs, rfl, (hN.far6 hsz _ _ _ _ _ _).based (by omega), bel_set6 hb (Nat.le_succ _) _ _ _ _ _ _⟩
end Go.Proofs.Ytjbmpnbfiahdhaa
namespace Go.Proofs.Ytjbmpnbfiahdhaa
open Go.RowKit
set_option linter.unusedVariables false
set_option maxRecDepth 100000

theorem OwnRows.farv {w w' : World} {B : Nat} {v u : Value} {xs : List Value} {R : List (List Int)} (h : OwnRows w B v xs R) (hg : w.grownBy w' u.ownBlock) (ha : ApartR v xs u) : OwnRows w' B v xs R := h.far hg ha
set_option maxHeartbeats 800000 in
theorem c_markSearch (A : Sr) (oa fa) (ca fca B : Nat) (xs : List Value) (k0 : Int) (w : World) (h : OwnRows w B (.slice oa A.R.length ca) xs A.R) (hD : OwnD w B (.slice fa A.F.length fca) A.F) (ap : ApartR (.slice oa A.R.length ca) xs (.slice fa A.F.length fca))
    (hR : A.R.length ≤ Room) (hF : A.F.length ≤ Room) (hk0 : 0 ≤ k0 ∧ k0 + sumL A.R A.R.length ≤ 1073741824) :
    Calls Try.prog 24 #[.agg #[.int .i64 A.n, .slice oa A.R.length ca, .int .i64 A.m, .int .i64 A.a, .slice fa A.F.length fca, .int .i64 A.t], .int .i64 k0] w fun e w' => e = .returned (.int .i64 (k0 + sumL A.R A.R.length + 2 * A.F.length)) ∧ OwnRows w' B (.slice oa A.R.length ca) xs (seqR k0 A.R) ∧ OwnD w' B (.slice fa A.F.length fca) (seqD (k0 + sumL A.R A.R.length) A.F.length) ∧ GrownMany w w' (.slice fa A.F.length fca :: xs) := by
  have hb := (Below.refl w.heap.size w).alloc (Nat.le_refl _) (.cells #[.int .i64 A.n, .slice oa A.R.length ca, .int .i64 A.m, .int .i64 A.a, .slice fa A.F.length fca, .int .i64 A.t] 39)
  have b4 := box_at w #[.int .i64 A.n, .slice oa A.R.length ca, .int .i64 A.m, .int .i64 A.a, .slice fa A.F.length fca, .int .i64 A.t] 39 4 _ rfl
  have hxs : ∀ y ∈ xs, y.ownBlock ≠ some w.heap.size := fun y hy e => by
    obtain ⟨j, _, o, c, _, h2, _⟩ := h.one hy
    have := (World.ownsRow.lt h2 _ e).2; omega
  have hfx : (Value.slice fa A.F.length fca).ownBlock ≠ some w.heap.size := fun e => by have := (World.ownsRow.lt hD _ e).2; omega
  have hk1 : 0 ≤ k0 + (sumL A.R A.R.length : Int) := by omega
  obtain ⟨n, R, m, a, F, t⟩ := A
  dsimp only at *
  have HG0 := GrownMany.of (vs := (.slice fa F.length fca :: xs)) hb
  replace h := h.keep hb
  replace hD := hD.keep hb
  go_enter Try.func24, Try.ntmps24
  go_wp2_with fail
  refine (c_markTable n oa ca B xs R k0 _ h hR hk0).mono ?_
  rintro e w1 ⟨rfl, hO, hg⟩
  have b4' : w1.cell? ⟨w.heap.size, 4, none⟩ = some (.slice fa F.length fca) := (World.cell?_of_block (hg.block w.heap.size (by simp) hxs)).trans b4
  replace hD := hD.many hg (fun y hy => (ap.2 y hy).symm)
  have HG1 := HG0.trans (⟨hg.os, hg.tape, hg.output, hg.size, fun k hk hy => hg.block k hk (fun y hy' => hy y (List.mem_cons_of_mem _ hy'))⟩ : GrownMany _ w1 (.slice fa F.length fca :: xs))
  clear hg h b4 HG0
  generalize hs : k0 + (sumL R R.length : Int) = k1 at *
  go_wp2_with fail
  refine (c_markDepS fa fca B F k1 ⟨hk1, hk0.2⟩ _ hF hD).mono ?_
  rintro e w2 ⟨rfl, hD2, hg⟩
  have HG2 := HG1.trans (GrownMany.one hg (List.mem_cons_self ..))
  have hO2 := hO.far hg ap
  clear hg hO hD HG1 b4'
  go_wp2
  go_ret
  subst hs
  exact ⟨rfl, hO2, hD2, HG2⟩
set_option maxHeartbeats 800000 in
theorem c_heldSearch (A : Sr) (oa fa) (ca fca : Nat) (k0 : Int) (w : World) (hR : RowsAt w oa (seqR k0 A.R)) (hF : DepsAt w fa (seqD (k0 + sumL A.R A.R.length) A.F.length)) (hk0 : 0 ≤ k0 ∧ k0 + sumL A.R A.R.length ≤ 1073741824) (hFl : A.F.length ≤ Room) :
    Ans Try.prog 25 #[.agg #[.int .i64 A.n, .slice oa A.R.length ca, .int .i64 A.m, .int .i64 A.a, .slice fa A.F.length fca, .int .i64 A.t], .int .i64 k0] w (.int .i64 (k0 + sumL A.R A.R.length + 2 * A.F.length)) := by
  unfold Ans
  have hb := (Below.refl w.heap.size w).alloc (Nat.le_refl _) (.cells #[.int .i64 A.n, .slice oa A.R.length ca, .int .i64 A.m, .int .i64 A.a, .slice fa A.F.length fca, .int .i64 A.t] 39)
  have b4 := box_at w #[.int .i64 A.n, .slice oa A.R.length ca, .int .i64 A.m, .int .i64 A.a, .slice fa A.F.length fca, .int .i64 A.t] 39 4 _ rfl
  have hk1 : 0 ≤ k0 + (sumL A.R A.R.length : Int) := by omega
  obtain ⟨n, R, m, a, F, t⟩ := A
  dsimp only at *
  have hF1 : F.length ≤ 1073741824 := hFl
  go_enter Try.func25, Try.ntmps25
  go_wp2_with fail
  refine Calls.mono (c_heldTable n oa ca R k0 _ (hR.keep hb) hk0) ?_
  rintro e w1 ⟨rfl, hbn⟩
  replace b4 := cell_keep b4 hbn
  replace hb := bel_to hb hbn
  clear hbn hR
  replace hk0 := hk0.2
  generalize hs : k0 + (sumL R R.length : Int) = k1 at *
  have hlt2 : decide (k1 < 0) = false := by simp; omega
  have hlt3 : decide (k1 + 2 * (F.length : Int) < 0) = false := by simp; omega
  go_wp2_with fail
  refine Calls.mono (c_heldDepS fa fca F.length k1 ⟨hk1, hk0⟩ _ (hF.keep hb)) ?_
  rintro e w2 ⟨rfl, hbn⟩
  replace hb := bel_to hb hbn
  clear hbn b4 hF
  go_wp2
  go_ret
  subst hs
  exact ⟨rfl, hb⟩
end Go.Proofs.Ytjbmpnbfiahdhaa
namespace Go.Proofs.Ytjbmpnbfiahdhaa
open Go.RowKit
set_option linter.unusedVariables false
set_option maxRecDepth 100000

def ctrO (n : Int) (D : List (Int × Int)) (l r : Int) : List (List Int) := if ctrF n D l r then ctrR n.toNat D l else []
def ctrN (n : Int) (D : List (Int × Int)) (l r : Int) : Int := if ctrF n D l r then n else 0
def CtrAns (f : FuncId) (n : Int) (oa : Option Addr) (cap : Nat) (D : List (Int × Int)) (l r : Int) (w : World) : Prop :=
  Calls Try.prog f #[.int .i64 n, .slice oa D.length cap, .agg #[.int .i64 l, .int .i64 r]] w fun e w' => ∃ o c xs, e = .returned (.tuple #[.agg #[.int .i64 (ctrN n D l r), .slice o (ctrO n D l r).length c], .bool (ctrF n D l r)]) ∧ OwnRows w' w.heap.size (.slice o (ctrO n D l r).length c) xs (ctrO n D l r) ∧ Below w.heap.size w w'
theorem ctr_pos {n : Int} {D : List (Int × Int)} {l r : Int} (h : ctrF n D l r = true) : ∃ N : Nat, n = N ∧ N ≤ 5 := by
  unfold ctrF at h
  simp only [Bool.and_eq_true] at h
  have := (areDepsF_val h.1)
  exact ⟨n.toNat, by omega, by omega⟩
theorem ctr_len (n : Int) (D : List (Int × Int)) (l r : Int) : (ctrO n D l r).length ≤ 2 := by unfold ctrO; split <;> simp [ctrR]
theorem ctr_row (n : Int) (D : List (Int × Int)) (l r : Int) {j : Nat} (hj : j < (ctrO n D l r).length) : (row (ctrO n D l r) j).length ≤ 5 := by
  unfold ctrO at hj ⊢
  cases h : ctrF n D l r
  · rw [h] at hj; simp at hj
  · obtain ⟨N, rfl, hN⟩ := ctr_pos h
    rw [h] at hj
    simp only [if_true, ctrR, Int.toNat_natCast] at hj ⊢
    match j, hj with
    | 0, _ => show (List.replicate N (0 : Int)).length ≤ 5; simp; exact hN
    | 1, _ => show (rowForF N _ 1).length ≤ 5; rw [rowFor_len]; exact hN
theorem c_CounterTable (n : Int) (oa) (cap : Nat) (D : List (Int × Int)) (l r : Int) (w : World) (hD : DepsAt w oa D) : CtrAns 34 n oa cap D l r w := by
  unfold CtrAns ctrN ctrO
  cases h : ctrF n D l r
  · refine (c_CounterTable_no n oa cap D l r w hD h).mono ?_
    rintro e w' ⟨rfl, hb⟩
    exact ⟨none, 0, [], rfl, OwnRows.none _ _, hb⟩
  · obtain ⟨N, rfl, hN⟩ := ctr_pos h
    refine (c_CounterTable_ok N oa cap D l r w hD h).mono ?_
    rintro e w' ⟨o, c, xs, rfl, hO, hb⟩
    exact ⟨o, c, xs, rfl, hO, hb⟩
end Go.Proofs.Ytjbmpnbfiahdhaa
namespace Go.Proofs.Ytjbmpnbfiahdhaa
open Go.RowKit
set_option linter.unusedVariables false
set_option maxRecDepth 100000

def OldR (S : Nat) (v : Value) (xs : List Value) : Prop := ∀ y, y = v ∨ y ∈ xs → ∀ g, y.ownBlock = some g → g < S
theorem OwnRows.old {w : World} {B S : Nat} {v : Value} {xs : List Value} {R : List (List Int)} (h : OwnRows w B v xs R) (hS : w.heap.size ≤ S) : OldR S v xs := by
  intro y hy g hg
  rcases hy with rfl | hy
  · exact Nat.lt_of_lt_of_le (World.ownsRow.lt h.outer g hg).2 hS
  · obtain ⟨j, _, o, c, e, h2, _⟩ := h.one hy
    exact Nat.lt_of_lt_of_le (World.ownsRow.lt h2 g hg).2 hS
theorem OwnRows.lowS {w : World} {B S : Nat} {v : Value} {xs : List Value} {R : List (List Int)} (h : OwnRows w B v xs R) (hS : S ≤ B) : ∀ y ∈ xs, ∀ g, y.ownBlock = some g → S ≤ g := by
  intro y hy g hg
  obtain ⟨j, _, o, c, e, h2, _⟩ := h.one hy
  exact Nat.le_trans hS (World.ownsRow.lt h2 g hg).1
theorem OwnRows.many {w w' : World} {B S : Nat} {v : Value} {xs vs : List Value} {R : List (List Int)} (h : OwnRows w B v xs R) (hg : GrownMany w w' vs) (hl : ∀ y ∈ vs, ∀ g, y.ownBlock = some g → S ≤ g) (ho : OldR S v xs) : OwnRows w' B v xs R := by
  have hap : ∀ u, u = v ∨ u ∈ xs → ∀ y ∈ vs, Apart u y := by
    intro u hu y hy
    cases e : u.ownBlock with
    | none => exact .inl e
    | some g => exact .inr fun e' => by have := ho u hu g e; have := hl y hy g (by rw [← e', e]); omega
  refine ⟨h.len, owns_many h.outer hg (hap v (.inl rfl)), fun j hj => ?_, h.pair⟩
  obtain ⟨o, c, h1, h2, h3⟩ := h.rows j hj
  exact ⟨o, c, h1, h2.many hg (hap _ (.inr (List.mem_iff_getElem?.2 ⟨j, h1⟩))), h3⟩
theorem ctr_sum (R : List (List Int)) (h : R.length ≤ 2) (hr : ∀ j, j < R.length → (row R j).length ≤ 5) : sumL R R.length ≤ 10 := by
  match R, h with
  | [], _ => simp [sumL]
  | [a], _ => have h0 := hr 0 (by simp); simp [sumL, row] at h0 ⊢; omega
  | [a, b], _ => have h0 := hr 0 (by simp); have h1 := hr 1 (by simp); simp [sumL, row] at h0 h1 ⊢; omega
theorem OwnRows.after {w w' : World} {B size n : Nat} {e : TypeId} {u v : Value} {ys xs : List Value} {R : List (List Int)} (h : OwnRows w' w.heap.size v xs R) (h' : w.ownsRow B e size u n ys) : ApartR v xs u :=
  ⟨(apart_old h' h.outer).symm, fun y hy => by obtain ⟨j, _, o, c, e, h2, _⟩ := h.one hy; exact (apart_old h' h2).symm⟩
theorem Blk.many {w w' : World} {k : Nat} {c : Array Value} {T : TypeId} {vs : List Value} (h : Blk w k c T) (hg : GrownMany w w' vs) (hn : ∀ y ∈ vs, y.ownBlock ≠ some k) : Blk w' k c T := (hg.block k h.lt hn).trans h
theorem OwnRows.readSeq {w : World} {B c : Nat} {oa : Option Addr} {xs : List Value} {R : List (List Int)} {k : Int} (h : OwnRows w B (.slice oa R.length c) xs (seqR k R)) (hR : R.length ≤ Room) (hr : ∀ j, j < R.length → (row R j).length ≤ Room) : RowsAt w oa (seqR k R) :=
  h.read (by rw [seqR_length]; exact hR) (fun j hj => by rw [seqR_length] at hj; rw [seqR_row hj, seqI_length]; exact hr j hj)
theorem OwnRows.baseLe {w : World} {B S : Nat} {v : Value} {xs : List Value} {R : List (List Int)} (_ : OwnRows w B v xs R) (h : S ≤ B) : S ≤ B := h
theorem sum_le {R : List (List Int)} {m : Nat} (h : ∀ j, j < R.length → (row R j).length ≤ m) : ∀ k, k ≤ R.length → sumL R k ≤ m * k
  | 0, _ => by simp [sumL]
  | k + 1, hk => by
    rw [sumL_succ (by omega), Nat.mul_succ]
    have := sum_le h k (by omega)
    have := h k (by omega)
    omega
end Go.Proofs.Ytjbmpnbfiahdhaa
namespace Go.Proofs.Ytjbmpnbfiahdhaa
open Go.RowKit
set_option linter.unusedVariables false
set_option maxRecDepth 100000

theorem owns_manyOld {w w' : World} {B size n S : Nat} {e : TypeId} {v : Value} {xs vs : List Value} (h : w.ownsRow B e size v n xs) (hg : GrownMany w w' vs) (hl : ∀ y ∈ vs, ∀ g, y.ownBlock = some g → S ≤ g) (ho : ∀ g, v.ownBlock = some g → g < S) : w'.ownsRow B e size v n xs :=
  owns_many h hg (fun y hy => by
    cases e : v.ownBlock with
    | none => exact .inl e
    | some g => exact .inr fun e' => by have := ho g e; have := hl y hy g (by rw [← e', e]); omega)
theorem owns_manyNew {w w' : World} {B size n S : Nat} {e : TypeId} {v : Value} {xs vs : List Value} (h : w.ownsRow B e size v n xs) (hg : GrownMany w w' vs) (hl : ∀ y ∈ vs, ∀ g, y.ownBlock = some g → g < S) (hS : S ≤ B) : w'.ownsRow B e size v n xs :=
  owns_many h hg (fun y hy => by
    cases e : v.ownBlock with
    | none => exact .inl e
    | some g => exact .inr fun e' => by have := (World.ownsRow.lt h g e).1; have := hl y hy g (by rw [← e', e]); omega)
theorem OwnD.manyOld {w w' : World} {B S : Nat} {v : Value} {D : List (Int × Int)} {vs : List Value} (h : OwnD w B v D) (hg : GrownMany w w' vs) (hl : ∀ y ∈ vs, ∀ g, y.ownBlock = some g → S ≤ g) (ho : ∀ g, v.ownBlock = some g → g < S) : OwnD w' B v D := owns_manyOld h hg hl ho
theorem OwnD.manyNew {w w' : World} {B S : Nat} {v : Value} {D : List (Int × Int)} {vs : List Value} (h : OwnD w B v D) (hg : GrownMany w w' vs) (hl : ∀ y ∈ vs, ∀ g, y.ownBlock = some g → g < S) (hS : S ≤ B) : OwnD w' B v D := owns_manyNew h hg hl hS
theorem ownRows_manyNew {w w' : World} {B S : Nat} {v : Value} {xs vs : List Value} {R : List (List Int)} (h : OwnRows w B v xs R) (hg : GrownMany w w' vs) (hl : ∀ y ∈ vs, ∀ g, y.ownBlock = some g → g < S) (hS : S ≤ B) : OwnRows w' B v xs R := by
  refine ⟨h.len, owns_manyNew h.outer hg hl hS, fun j hj => ?_, h.pair⟩
  obtain ⟨o, c, h1, h2, h3⟩ := h.rows j hj
  exact ⟨o, c, h1, owns_manyNew h2 hg hl hS, h3⟩
theorem low_cons {v : Value} {vs : List Value} {S : Nat} (h : ∀ g, v.ownBlock = some g → S ≤ g) (h' : ∀ y ∈ vs, ∀ g, y.ownBlock = some g → S ≤ g) : ∀ y ∈ v :: vs, ∀ g, y.ownBlock = some g → S ≤ g := fun y hy g e => by
  rcases List.mem_cons.1 hy with rfl | hy
  · exact h g e
  · exact h' y hy g e
theorem hi_cons {v : Value} {vs : List Value} {S : Nat} (h : ∀ g, v.ownBlock = some g → g < S) (h' : ∀ y ∈ vs, ∀ g, y.ownBlock = some g → g < S) : ∀ y ∈ v :: vs, ∀ g, y.ownBlock = some g → g < S := fun y hy g e => by
  rcases List.mem_cons.1 hy with rfl | hy
  · exact h g e
  · exact h' y hy g e
def srA (A : Sr) (o : Option Addr) (c : Nat) (fo : Option Addr) (fc : Nat) : Array Value := #[.int .i64 A.n, .slice o A.R.length c, .int .i64 A.m, .int .i64 A.a, .slice fo A.F.length fc, .int .i64 A.t]
/-- A call that answers a search (and, where it says so, a bool beside it). -/
def SrRes (f : FuncId) (args : Array Value) (w : World) (A : Sr) (q : Value → Value) : Prop :=
  Calls Try.prog f args w fun e w' => ∃ o c fo fc xs, e = .returned (q (.agg #[.int .i64 A.n, .slice o A.R.length c, .int .i64 A.m, .int .i64 A.a, .slice fo A.F.length fc, .int .i64 A.t])) ∧ OwnRows w' w.heap.size (.slice o A.R.length c) xs A.R ∧ OwnD w' w.heap.size (.slice fo A.F.length fc) A.F ∧ ApartR (.slice o A.R.length c) xs (.slice fo A.F.length fc) ∧ Below w.heap.size w w'
end Go.Proofs.Ytjbmpnbfiahdhaa
namespace Go.Proofs.Ytjbmpnbfiahdhaa
open Go.RowKit
set_option linter.unusedVariables false
set_option maxRecDepth 100000

theorem oldR_le {S S' : Nat} {v : Value} {xs : List Value} (h : OldR S v xs) (hS : S ≤ S') : OldR S' v xs := fun y hy g e => Nat.lt_of_lt_of_le (h y hy g e) hS
def nsF (n : Int) (R : List (List Int)) (m : Int) : Sr := if isTabF n R && modeF m then ⟨n, R, m, 0, [], 0⟩ else ⟨0, [], 0, 0, [], 0⟩
theorem ns_sizes {n m : Int} {R : List (List Int)} (h1 : R.length ≤ Room) (h2 : (sumL R R.length : Int) ≤ 1048576) (h3 : ∀ j, j < R.length → (row R j).length ≤ Room) : (nsF n R m).R.length ≤ Room ∧ (nsF n R m).F.length ≤ Room ∧ (sumL (nsF n R m).R (nsF n R m).R.length : Int) ≤ 1048576 ∧ (∀ j, j < (nsF n R m).R.length → (row (nsF n R m).R j).length ≤ Room) ∧ True := by
  unfold nsF
  split
  · exact ⟨h1, by simp, h2, h3, trivial⟩
  · exact ⟨by simp, by simp, by simp [sumL], fun j hj => absurd hj (by simp), trivial⟩
theorem apartR_none (v : Value) (xs : List Value) : ApartR v xs (.slice none 0 0) := ⟨Apart.symm (.inl rfl), fun y _ => Apart.symm (.inl rfl)⟩
theorem ownD_none (w : World) (base : Nat) : OwnD w base (.slice none 0 0) [] := ⟨rfl, Or.inl ⟨rfl, rfl⟩⟩
theorem c_NewSearch (n : Int) (oa) (ca : Nat) (R : List (List Int)) (m : Int) (w : World) (hR : RowsC w oa R) : SrRes 22 #[.agg #[.int .i64 n, .slice oa R.length ca], .int .i64 m] w (nsF n R m) (fun v => .tuple #[v, .bool (isTabF n R && modeF m)]) := by
  unfold SrRes nsF
  cases h : (isTabF n R && modeF m)
  · refine (c_NewSearch_no n oa ca R m w hR.1 h).mono ?_
    rintro e w' ⟨rfl, hb⟩
    exact ⟨none, 0, none, 0, [], rfl, OwnRows.none _ _, ownD_none _ _, apartR_none _ _, hb⟩
  · refine (c_NewSearch_ok n oa ca R m w hR h).mono ?_
    rintro e w' ⟨o, c, xs, rfl, hO, hb⟩
    exact ⟨o, c, none, 0, xs, rfl, hO, ownD_none _ _, apartR_none _ _, hb⟩
theorem c_specNewSearch (n : Int) (oa) (ca : Nat) (R : List (List Int)) (m : Int) (w : World) (hR : RowsC w oa R) : SrRes 20 #[.agg #[.int .i64 n, .slice oa R.length ca], .int .i64 m] w (nsF n R m) (fun v => .tuple #[v, .bool (isTabF n R && modeF m)]) := by
  unfold SrRes nsF
  cases h : (isTabF n R && modeF m)
  · refine (c_specNewSearch_no n oa ca R m w hR.1 h).mono ?_
    rintro e w' ⟨rfl, hb⟩
    exact ⟨none, 0, none, 0, [], rfl, OwnRows.none _ _, ownD_none _ _, apartR_none _ _, hb⟩
  · refine (c_specNewSearch_ok n oa ca R m w hR h).mono ?_
    rintro e w' ⟨o, c, xs, rfl, hO, hb⟩
    exact ⟨o, c, none, 0, xs, rfl, hO, ownD_none _ _, apartR_none _ _, hb⟩
end Go.Proofs.Ytjbmpnbfiahdhaa
namespace Go.Proofs.Ytjbmpnbfiahdhaa
open Go.RowKit
set_option linter.unusedVariables false
set_option maxRecDepth 100000

set_option maxHeartbeats 6400000 in
theorem w_FnExactNewSearch (w : World) {vT : Value} (inT : InTab w vT) (m : Int) (wf_m : (Lit.int .i64 m).wf = true) :
    Calls Try.prog 4 #[vT, .int .i64 m] w fun e w' => e = .returned (.bool true) ∧ Below w.heap.size w w' := by
  obtain ⟨n, oT, lT, cT, Ln, rfl, hRI⟩ := inT
  have hb := (Below.refl w.heap.size w).alloc (Nat.le_refl _) (.cells #[.int .i64 n, .slice oT lT cT] 36)
  have tb0 := box_at w #[.int .i64 n, .slice oT lT cT] 36 0 _ rfl
  have tb1 := box_at w #[.int .i64 n, .slice oT lT cT] 36 1 _ rfl
  go_enter Try.func4, Try.ntmps4
  go_wp2_with fail
  refine (c_szTables n _ _ _ _ _ (hRI.keep hb)).mono ?_
  rintro e w0 ⟨⟨x, rfl, hx⟩, hbn⟩
  replace tb0 := cell_keep tb0 hbn
  replace tb1 := cell_keep tb1 hbn
  replace hb := bel_to hb hbn
  clear hbn
  rcases hx with rfl | ⟨hx0, hx1, hx2, hx3⟩
  · go_wp2
    go_ret
    exact ⟨rfl, hb⟩
  obtain ⟨R, rfl, hR, hRl⟩ := hRI.reads (by unfold Room; omega) (fun r hr => by have := sumN_one (Ln := Ln) hr; unfold Room; omega)
  have hsum : (sumL R R.length : Int) ≤ 1048576 := by rw [sumL_sumN hRl R.length (Nat.le_refl _)]; omega
  have hRoom : R.length ≤ Room := hR.len
  have HRr : Hid (∀ j, j < R.length → (row R j).length ≤ Room) := fun j hj => by rw [hRl j hj]; have := sumN_one (Ln := Ln) hj; unfold Room; omega
  clear hx3 hRl hRI hx2
  obtain ⟨A, HA⟩ : ∃ A, Hid (nsF n R m = A) := ⟨_, rfl⟩
  obtain ⟨t, HT⟩ : ∃ t, Hid ((isTabF n R && modeF m) = t) := ⟨_, rfl⟩
  have HA0 := (show Hid _ from ns_sizes (n := n) (m := m) hRoom hsum HRr.out)
  rw [HA.out] at HA0
  have HSP : Hid (∀ oa ca w, RowsC w oa R → SrRes 20 #[.agg #[.int .i64 n, .slice oa R.length ca], .int .i64 m] w A (fun v => .tuple #[v, .bool t])) := fun oa ca w h => by have := c_specNewSearch n oa ca R m w h; rwa [HA.out, HT.out] at this
  have HIM : Hid (∀ oa ca w, RowsC w oa R → SrRes 22 #[.agg #[.int .i64 n, .slice oa R.length ca], .int .i64 m] w A (fun v => .tuple #[v, .bool t])) := fun oa ca w h => by have := c_NewSearch n oa ca R m w h; rwa [HA.out, HT.out] at this
  have HAA : Hid (A.R.length ≤ Room ∧ A.F.length ≤ Room ∧ (sumL A.R A.R.length : Int) ≤ 1048576 ∧ (∀ j, j < A.R.length → (row A.R j).length ≤ Room) ∧ True) := HA0.out
  have HRA : Hid (∀ j, j < A.R.length → (row A.R j).length ≤ Room) := HAA.out.2.2.2.1
  have hRA : A.R.length ≤ Room := HAA.out.1
  have hFA : A.F.length ≤ Room := HAA.out.2.1
  have hSA : (sumL A.R A.R.length : Int) ≤ 1048576 := HAA.out.2.2.1
  have hFA2 : A.F.length ≤ 1073741824 := hFA
  have htt : (t != t) = false := by simp
  go_wp2_with fail
  refine (c_toTableO n _ _ R _ (hR.keep hb)).mono ?_
  rintro e w1 ⟨o_s, c_s, ys_s, rfl, sO, hbn⟩
  replace tb0 := cell_keep tb0 hbn
  replace tb1 := cell_keep tb1 hbn
  replace hb := bel_to hb hbn
  clear hbn
  go_wp2_with fail
  have H := HSP.out o_s c_s _ (sO.readC hRoom HRr.out)
  unfold SrRes at H
  refine H.mono ?_
  clear H
  rintro e w2 ⟨o8, c8, f8, g8, xs8, rfl, hO8, hF8, ap8, hbn⟩
  clear sO
  have hbz := hb.size
  replace tb0 := cell_keep tb0 hbn
  replace tb1 := cell_keep tb1 hbn
  replace hb := bel_to hb hbn
  clear hbn
  replace hO8 := hO8.based hbz
  replace hF8 := hF8.based hbz
  clear hbz
  have k8 := Blk.new w2 #[.int .i64 A.n, .slice o8 A.R.length c8, .int .i64 A.m, .int .i64 A.a, .slice f8 A.F.length g8, .int .i64 A.t] 39
  have hbn := (Below.refl w2.heap.size w2).alloc (Nat.le_refl _) (.cells #[.int .i64 A.n, .slice o8 A.R.length c8, .int .i64 A.m, .int .i64 A.a, .slice f8 A.F.length g8, .int .i64 A.t] 39)
  replace tb0 := cell_keep tb0 hbn
  replace tb1 := cell_keep tb1 hbn
  replace hO8 := hO8.keep hbn
  replace hF8 := hF8.keep hbn
  replace hb := bel_to hb hbn
  clear hbn
  go_wp2_with fail
  refine (c_toTableO n _ _ R _ (hR.keep hb)).mono ?_
  rintro e w3 ⟨o_x, c_x, ys_x, rfl, xO, hbn⟩
  have oldO8 := hO8.old (Nat.le_refl _)
  have oldF8 := fun g e => (World.ownsRow.lt hF8 g e).2
  have hk8 := k8.lt
  have hbx := hb.size
  have hnx := hbn.size
  have htb := World.block_lt_of_cell? _ _ tb0
  simp only at htb
  have lowx := xO.low
  replace tb0 := cell_keep tb0 hbn
  replace tb1 := cell_keep tb1 hbn
  replace hO8 := hO8.keep hbn
  replace hF8 := hF8.keep hbn
  replace k8 := k8.keep hbn
  replace hb := bel_to hb hbn
  clear hbn
  have kx := Blk.new w3 #[.int .i64 n, .slice o_x R.length c_x] 26
  have hbn := (Below.refl w3.heap.size w3).alloc (Nat.le_refl _) (.cells #[.int .i64 n, .slice o_x R.length c_x] 26)
  replace tb0 := cell_keep tb0 hbn
  replace tb1 := cell_keep tb1 hbn
  replace hO8 := hO8.keep hbn
  replace hF8 := hF8.keep hbn
  replace k8 := k8.keep hbn
  replace xO := xO.keep hbn
  replace hb := bel_to hb hbn
  clear hbn
  have x0 := kx.cell 0 (.int .i64 n) rfl
  have x1 := kx.cell 1 (.slice o_x R.length c_x) rfl
  go_wp2_with fail
  have H := HIM.out o_x c_x _ (xO.readC hRoom HRr.out)
  unfold SrRes at H
  refine H.mono ?_
  clear H
  rintro e w4 ⟨o11, c11, f11, g11, xs11, rfl, hO11, hF11, ap11, hbn⟩
  have oldX := xO.old (Nat.le_refl _)
  have hix := (fun y hy g e => oldX y (.inr hy) g e : ∀ y ∈ ys_x, ∀ g, y.ownBlock = some g → g < _)
  have hb11 := hb.size
  have hn11 := hbn.size
  have low11 := low_cons (fun g e => (World.ownsRow.lt hF11 g e).1) hO11.low
  have old11 := hO11.old (Nat.le_refl _)
  have hi11 := hi_cons (fun g e => (World.ownsRow.lt hF11 g e).2) (fun y hy g e => old11 y (.inr hy) g e)
  replace tb0 := cell_keep tb0 hbn
  replace tb1 := cell_keep tb1 hbn
  replace hO8 := hO8.keep hbn
  replace hF8 := hF8.keep hbn
  replace k8 := k8.keep hbn
  replace xO := xO.keep hbn
  replace kx := kx.keep hbn
  replace hb := bel_to hb hbn
  clear hbn
  clear x0 x1
  have k11 := Blk.new w4 #[.int .i64 A.n, .slice o11 A.R.length c11, .int .i64 A.m, .int .i64 A.a, .slice f11 A.F.length g11, .int .i64 A.t] 39
  have hbn := (Below.refl w4.heap.size w4).alloc (Nat.le_refl _) (.cells #[.int .i64 A.n, .slice o11 A.R.length c11, .int .i64 A.m, .int .i64 A.a, .slice f11 A.F.length g11, .int .i64 A.t] 39)
  replace tb0 := cell_keep tb0 hbn
  replace tb1 := cell_keep tb1 hbn
  replace hO8 := hO8.keep hbn
  replace hF8 := hF8.keep hbn
  replace k8 := k8.keep hbn
  replace xO := xO.keep hbn
  replace kx := kx.keep hbn
  replace hO11 := hO11.keep hbn
  replace hF11 := hF11.keep hbn
  replace hb := bel_to hb hbn
  clear hbn
  have p0 := k11.cell 0 (.int .i64 A.n) rfl
  have p1 := k11.cell 1 (.slice o11 A.R.length c11) rfl
  have p2 := k11.cell 2 (.int .i64 A.m) rfl
  have p3 := k11.cell 3 (.int .i64 A.a) rfl
  have p4 := k11.cell 4 (.slice f11 A.F.length g11) rfl
  have p5 := k11.cell 5 (.int .i64 A.t) rfl
  have q0 := k8.cell 0 (.int .i64 A.n) rfl
  have q1 := k8.cell 1 (.slice o8 A.R.length c8) rfl
  have q2 := k8.cell 2 (.int .i64 A.m) rfl
  have q3 := k8.cell 3 (.int .i64 A.a) rfl
  have q4 := k8.cell 4 (.slice f8 A.F.length g8) rfl
  have q5 := k8.cell 5 (.int .i64 A.t) rfl
  go_wp2_with fail
  refine Calls.mono (c_eqSearch A A _ _ _ _ _ _ _ _ _ (hO11.read hRA HRA.out) (hO8.read hRA HRA.out) (hF11.deps rfl hFA) (hF8.deps rfl hFA) rfl) ?_
  rintro e w5 ⟨rfl, hbn⟩
  replace tb0 := cell_keep tb0 hbn
  replace tb1 := cell_keep tb1 hbn
  replace hO8 := hO8.keep hbn
  replace hF8 := hF8.keep hbn
  replace k8 := k8.keep hbn
  replace xO := xO.keep hbn
  replace kx := kx.keep hbn
  replace hO11 := hO11.keep hbn
  replace hF11 := hF11.keep hbn
  replace k11 := k11.keep hbn
  replace hb := bel_to hb hbn
  clear hbn
  clear p0 p1 p2 p3 p4 p5
  clear q0 q1 q2 q3 q4 q5
  have x0 := kx.cell 0 (.int .i64 n) rfl
  have x1 := kx.cell 1 (.slice o_x R.length c_x) rfl
  go_upto_region 10 with fail
  go_cut [49] from 45 to 49 (fun v wx => v = .bool false ∧ Below w5.heap.size w5 wx)
  case first =>
    have hRh := hR.keep hb
    have dtb0 := cell_keep tb0 (Below.refl _ _).drew
    have dtb1 := cell_keep tb1 (Below.refl _ _).drew
    have dx0 := cell_keep x0 (Below.refl _ _).drew
    have dx1 := cell_keep x1 (Below.refl _ _).drew
    go_region_law (first
      | ((try go_simp); refine (c_toTable n _ _ R _ (hRh.keep (by first | exact Below.refl _ _ | exact (Below.refl _ _).drew))).mono ?_; rintro e wz ⟨o1, c1, rfl, h1, hbn⟩; have hbz := bel_to (w := w5) (by first | exact Below.refl _ _ | exact (Below.refl _ _).drew) hbn; have y0 := cell_keep x0 hbz; have y1 := cell_keep x1 hbz; clear hbn)
      | ((try go_simp); refine Calls.mono (c_eqTable n _ _ _ _ R _ ((xO.read hRoom HRr.out).keep hbz) h1) ?_; rintro e wy ⟨rfl, hbn⟩; have hby := bel_to (w := w5) hbz hbn; clear hbn)
      | fail)
    all_goals
      go_wp2_with fail
      go_meet
      exact ⟨rfl, hby⟩
  case rest =>
    obtain ⟨rfl, hbn⟩ := hcut
    clear x0 x1
    replace tb0 := cell_keep tb0 hbn
    replace tb1 := cell_keep tb1 hbn
    replace hO8 := hO8.keep hbn
    replace hF8 := hF8.keep hbn
    replace k8 := k8.keep hbn
    replace xO := xO.keep hbn
    replace kx := kx.keep hbn
    replace hO11 := hO11.keep hbn
    replace hF11 := hF11.keep hbn
    replace k11 := k11.keep hbn
    replace hb := bel_to hb hbn
    clear hbn
    have x0 := kx.cell 0 (.int .i64 n) rfl
    have x1 := kx.cell 1 (.slice o_x R.length c_x) rfl
    go_wp2_with fail
    refine (c_markTable n _ _ _ ys_x R 1 _ xO hRoom (by omega)).mono ?_
    rintro e w6 ⟨rfl, _, hg⟩
    have hkx : decide ((1 : Int) + (sumL R R.length : Int) < 0) = false := by simp; omega
    clear x0 x1
    replace hO8 := hO8.many hg lowx oldO8
    replace hF8 := OwnD.manyOld hF8 hg lowx oldF8
    replace k8 := k8.many hg (fun y hy e => by have := lowx y hy _ e; simp at this; omega)
    replace hO11 := ownRows_manyNew hO11 hg hix (Nat.le_refl _)
    replace hF11 := OwnD.manyNew hF11 hg hix (Nat.le_refl _)
    replace k11 := k11.many hg (fun y hy e => by have := hix y hy _ e; omega)
    replace tb0 := cell_many tb0 hg lowx htb
    replace tb1 := cell_many tb1 hg lowx htb
    replace hb := below_many hb (Nat.le_refl _) hg (fun y hy g e => by have := lowx y hy g e; simp at hbx; omega)
    clear hg lowx hix oldX kx xO
    have p0 := k11.cell 0 (.int .i64 A.n) rfl
    have p1 := k11.cell 1 (.slice o11 A.R.length c11) rfl
    have p2 := k11.cell 2 (.int .i64 A.m) rfl
    have p3 := k11.cell 3 (.int .i64 A.a) rfl
    have p4 := k11.cell 4 (.slice f11 A.F.length g11) rfl
    have p5 := k11.cell 5 (.int .i64 A.t) rfl
    have q0 := k8.cell 0 (.int .i64 A.n) rfl
    have q1 := k8.cell 1 (.slice o8 A.R.length c8) rfl
    have q2 := k8.cell 2 (.int .i64 A.m) rfl
    have q3 := k8.cell 3 (.int .i64 A.a) rfl
    have q4 := k8.cell 4 (.slice f8 A.F.length g8) rfl
    have q5 := k8.cell 5 (.int .i64 A.t) rfl
    go_wp2_with fail
    refine Calls.mono (c_eqSearch A A _ _ _ _ _ _ _ _ _ (hO11.read hRA HRA.out) (hO8.read hRA HRA.out) (hF11.deps rfl hFA) (hF8.deps rfl hFA) rfl) ?_
    rintro e w7 ⟨rfl, hbn⟩
    replace tb0 := cell_keep tb0 hbn
    replace tb1 := cell_keep tb1 hbn
    replace hO8 := hO8.keep hbn
    replace hF8 := hF8.keep hbn
    replace k8 := k8.keep hbn
    replace hO11 := hO11.keep hbn
    replace hF11 := hF11.keep hbn
    replace k11 := k11.keep hbn
    replace hb := bel_to hb hbn
    clear hbn
    clear p0 p1 p2 p3 p4 p5
    clear q0 q1 q2 q3 q4 q5
    have p0 := k11.cell 0 (.int .i64 A.n) rfl
    have p1 := k11.cell 1 (.slice o11 A.R.length c11) rfl
    have p2 := k11.cell 2 (.int .i64 A.m) rfl
    have p3 := k11.cell 3 (.int .i64 A.a) rfl
    have p4 := k11.cell 4 (.slice f11 A.F.length g11) rfl
    have p5 := k11.cell 5 (.int .i64 A.t) rfl
    go_wp2_with fail
    refine (c_markSearch A _ _ _ _ _ xs11 1 _ hO11 hF11 ap11 hRA hFA (by omega)).mono ?_
    rintro e w8 ⟨rfl, mO11, mF11, hg⟩
    clear p0 p1 p2 p3 p4 p5
    replace hO11 := mO11
    replace hF11 := mF11
    clear mO11 mF11
    have lowy : ∀ y ∈ (Value.slice f11 A.F.length g11 :: xs11), ∀ g, y.ownBlock = some g → w3.heap.size ≤ g := fun y hy g e => by have := low11 y hy g e; simp at this; omega
    replace k8 := k8.many hg (fun y hy e => by have := lowy y hy _ e; have := hk8; omega)
    replace k11 := k11.many hg (fun y hy e => by have := hi11 y hy _ e; omega)
    replace hO8 := hO8.many hg lowy (oldR_le oldO8 hnx)
    replace hF8 := OwnD.manyOld hF8 hg lowy (fun g e => by have := oldF8 g e; omega)
    replace tb0 := cell_many tb0 hg lowy (by omega)
    replace tb1 := cell_many tb1 hg lowy (by omega)
    replace hb := below_many hb (Nat.le_refl _) hg (fun y hy g e => by have := lowy y hy g e; omega)
    clear hg low11 hi11 old11 lowy oldO8 oldF8
    have hs0 : decide (((1 : Int) + (sumL A.R A.R.length : Int) + 2 * (A.F.length : Int)) < 0) = false := by simp; omega
    have hs1 : (((1 : Int) + (sumL A.R A.R.length : Int) + 2 * (A.F.length : Int)) != ((1 : Int) + (sumL A.R A.R.length : Int) + 2 * (A.F.length : Int))) = false := by simp
    have p0 := k11.cell 0 (.int .i64 A.n) rfl
    have p1 := k11.cell 1 (.slice o11 A.R.length c11) rfl
    have p2 := k11.cell 2 (.int .i64 A.m) rfl
    have p3 := k11.cell 3 (.int .i64 A.a) rfl
    have p4 := k11.cell 4 (.slice f11 A.F.length g11) rfl
    have p5 := k11.cell 5 (.int .i64 A.t) rfl
    go_wp2_with fail
    refine Calls.mono (c_heldSearch A _ _ _ _ 1 _ (hO11.readSeq hRA HRA.out) (hF11.deps (seqD_length _ _).symm (by rw [seqD_length]; exact hFA)) (by omega) hFA) ?_
    rintro e w9 ⟨rfl, hbn⟩
    replace tb0 := cell_keep tb0 hbn
    replace tb1 := cell_keep tb1 hbn
    replace hO8 := hO8.keep hbn
    replace hF8 := hF8.keep hbn
    replace k8 := k8.keep hbn
    replace hO11 := hO11.keep hbn
    replace hF11 := hF11.keep hbn
    replace k11 := k11.keep hbn
    replace hb := bel_to hb hbn
    clear hbn
    clear p0 p1 p2 p3 p4 p5
    go_wp2_with fail
    refine (c_toTableO n _ _ R _ (hR.keep hb)).mono ?_
    rintro e w10 ⟨o_u, c_u, ys_u, rfl, uO, hbn⟩
    replace tb0 := cell_keep tb0 hbn
    replace tb1 := cell_keep tb1 hbn
    replace hO8 := hO8.keep hbn
    replace hF8 := hF8.keep hbn
    replace k8 := k8.keep hbn
    replace hO11 := hO11.keep hbn
    replace hF11 := hF11.keep hbn
    replace k11 := k11.keep hbn
    replace hb := bel_to hb hbn
    clear hbn
    go_wp2_with fail
    have H := HIM.out o_u c_u _ (uO.readC hRoom HRr.out)
    unfold SrRes at H
    refine H.mono ?_
    clear H
    rintro e w11 ⟨o6, c6, f6, g6, xs6, rfl, hO6, hF6, ap6, hbn⟩
    clear uO
    replace tb0 := cell_keep tb0 hbn
    replace tb1 := cell_keep tb1 hbn
    replace hO8 := hO8.keep hbn
    replace hF8 := hF8.keep hbn
    replace k8 := k8.keep hbn
    replace hO11 := hO11.keep hbn
    replace hF11 := hF11.keep hbn
    replace k11 := k11.keep hbn
    replace hb := bel_to hb hbn
    clear hbn
    have k6 := Blk.new w11 #[.int .i64 A.n, .slice o6 A.R.length c6, .int .i64 A.m, .int .i64 A.a, .slice f6 A.F.length g6, .int .i64 A.t] 39
    have hbn := (Below.refl w11.heap.size w11).alloc (Nat.le_refl _) (.cells #[.int .i64 A.n, .slice o6 A.R.length c6, .int .i64 A.m, .int .i64 A.a, .slice f6 A.F.length g6, .int .i64 A.t] 39)
    replace tb0 := cell_keep tb0 hbn
    replace tb1 := cell_keep tb1 hbn
    replace hO8 := hO8.keep hbn
    replace hF8 := hF8.keep hbn
    replace k8 := k8.keep hbn
    replace hO11 := hO11.keep hbn
    replace hF11 := hF11.keep hbn
    replace k11 := k11.keep hbn
    replace hO6 := hO6.keep hbn
    replace hF6 := hF6.keep hbn
    replace hb := bel_to hb hbn
    clear hbn
    have p0 := k6.cell 0 (.int .i64 A.n) rfl
    have p1 := k6.cell 1 (.slice o6 A.R.length c6) rfl
    have p2 := k6.cell 2 (.int .i64 A.m) rfl
    have p3 := k6.cell 3 (.int .i64 A.a) rfl
    have p4 := k6.cell 4 (.slice f6 A.F.length g6) rfl
    have p5 := k6.cell 5 (.int .i64 A.t) rfl
    have q0 := k8.cell 0 (.int .i64 A.n) rfl
    have q1 := k8.cell 1 (.slice o8 A.R.length c8) rfl
    have q2 := k8.cell 2 (.int .i64 A.m) rfl
    have q3 := k8.cell 3 (.int .i64 A.a) rfl
    have q4 := k8.cell 4 (.slice f8 A.F.length g8) rfl
    have q5 := k8.cell 5 (.int .i64 A.t) rfl
    go_wp2_with fail
    refine Calls.mono (c_eqSearch A A _ _ _ _ _ _ _ _ _ (hO6.read hRA HRA.out) (hO8.read hRA HRA.out) (hF6.deps rfl hFA) (hF8.deps rfl hFA) rfl) ?_
    rintro e w12 ⟨rfl, hbn⟩
    replace tb0 := cell_keep tb0 hbn
    replace tb1 := cell_keep tb1 hbn
    replace hO8 := hO8.keep hbn
    replace hF8 := hF8.keep hbn
    replace k8 := k8.keep hbn
    replace hO11 := hO11.keep hbn
    replace hF11 := hF11.keep hbn
    replace k11 := k11.keep hbn
    replace hO6 := hO6.keep hbn
    replace hF6 := hF6.keep hbn
    replace k6 := k6.keep hbn
    replace hb := bel_to hb hbn
    clear hbn
    clear p0 p1 p2 p3 p4 p5
    clear q0 q1 q2 q3 q4 q5
    have p0 := k11.cell 0 (.int .i64 A.n) rfl
    have p1 := k11.cell 1 (.slice o11 A.R.length c11) rfl
    have p2 := k11.cell 2 (.int .i64 A.m) rfl
    have p3 := k11.cell 3 (.int .i64 A.a) rfl
    have p4 := k11.cell 4 (.slice f11 A.F.length g11) rfl
    have p5 := k11.cell 5 (.int .i64 A.t) rfl
    go_wp2_with fail
    refine Calls.mono (c_heldSearch A _ _ _ _ 1 _ (hO11.readSeq hRA HRA.out) (hF11.deps (seqD_length _ _).symm (by rw [seqD_length]; exact hFA)) (by omega) hFA) ?_
    rintro e w13 ⟨rfl, hbn⟩
    replace tb0 := cell_keep tb0 hbn
    replace tb1 := cell_keep tb1 hbn
    replace hO8 := hO8.keep hbn
    replace hF8 := hF8.keep hbn
    replace k8 := k8.keep hbn
    replace hO11 := hO11.keep hbn
    replace hF11 := hF11.keep hbn
    replace k11 := k11.keep hbn
    replace hO6 := hO6.keep hbn
    replace hF6 := hF6.keep hbn
    replace k6 := k6.keep hbn
    replace hb := bel_to hb hbn
    clear hbn
    clear p0 p1 p2 p3 p4 p5
    go_wp2
    go_ret
    exact ⟨rfl, hb⟩
end Go.Proofs.Ytjbmpnbfiahdhaa
