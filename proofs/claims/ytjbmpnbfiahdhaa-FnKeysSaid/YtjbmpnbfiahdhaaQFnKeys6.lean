/- Contracts and lemmas for FnKeys, part 6 of 6. -/
import Derived.Test.YtjbmpnbfiahdhaaQFnKeys1
import Derived.Test.YtjbmpnbfiahdhaaQFnKeys2
import Derived.Test.YtjbmpnbfiahdhaaQFnKeys3
import Derived.Test.YtjbmpnbfiahdhaaQFnKeys4
import Derived.Test.YtjbmpnbfiahdhaaQFnKeys5
import Derived.Deep.CutRange
import Derived.Deep.RegionLaw
import Derived.Deep.RegionHeld3
namespace Go.Proofs.Ytjbmpnbfiahdhaa
open Go.RowKit
set_option linter.unusedVariables false
set_option maxRecDepth 100000

theorem heap_new_at {w : World} {o : Obj} {k : Nat} (h : k = w.heap.size) : (w.alloc o).heap[k]? = some o := by subst h; exact heap_alloc_new _ _
/-- 't.Rows = append(t.Rows, r)', while a cursor is being read. -/
theorem tab_snocG {w w5 w7 : World} {B k6 c c5 nC g : Nat} {hd v' : Value} {T T2 : TypeId} {o o5 : Option Addr} {xs : List Value} {P : List (List Int)} {C : List Int} (hnC : C.length = nC)
    (hO : OwnRows w5 B (.slice o P.length c) xs P) (hC : OwnI w5 B (.slice o5 nC c5) C) (hap : ApartR (.slice o P.length c) xs (.slice o5 nC c5))
    (kb : Blk w5 k6 #[hd, .slice o P.length c] T) (av : Avoid k6 (.slice o P.length c) xs) (avC : (Value.slice o5 nC c5).ownBlock ≠ some k6) (hc : Cur w5 g) (hG : w.grownBy w5 (some g)) (hB : w.heap.size ≤ B) (hk6 : w.heap.size ≤ k6) (hgk : g < k6)
    (hown : w7.ownsRow B 68 1 v' (xs.length + 1) (xs ++ [.slice o5 nC c5])) (hgrow : (w5.alloc (.cells #[.slice o5 nC c5] T2)).grownBy w7 (Value.slice o P.length c).ownBlock) (hfr : Fresh (w5.alloc (.cells #[.slice o5 nC c5] T2)) (.slice o P.length c) v') (hgB : g < B := by omega) :
    (∃ o' c', v' = .slice o' (P.length + 1) c') ∧ w7.cell? ⟨k6, 1, none⟩ = some (.slice o P.length c) ∧ w7.frozen? ⟨k6, 1, none⟩ = false ∧ Blk (w7.setCell ⟨k6, 1, none⟩ v') k6 #[hd, v'] T ∧
    OwnRows (w7.setCell ⟨k6, 1, none⟩ v') B v' (xs ++ [.slice o5 nC c5]) (P ++ [C]) ∧ Avoid k6 v' (xs ++ [.slice o5 nC c5]) ∧ Cur (w7.setCell ⟨k6, 1, none⟩ v') g ∧ w.grownBy (w7.setCell ⟨k6, 1, none⟩ v') (some g) ∧
    (∀ (B' : Nat) (e : TypeId) (size : Nat) (u : Value) (n : Nat) (ys : List Value), w5.ownsRow B' e size u n ys → Apart u (.slice o P.length c) → u.ownBlock ≠ some k6 → (w7.setCell ⟨k6, 1, none⟩ v').ownsRow B' e size u n ys ∧ Apart u v') ∧
    (∀ (g' : Nat) (cs : Array Value) (T' : TypeId), Blk w5 g' cs T' → g' ≠ k6 → (Value.slice o P.length c).ownBlock ≠ some g' → Blk (w7.setCell ⟨k6, 1, none⟩ v') g' cs T') := by
  have hal : w5.heap.size ≤ (w5.alloc (.cells #[.slice o5 nC c5] T2)).heap.size := by simp
  obtain ⟨h1, h2, h3, h4, h5, h6, _, h8, h9⟩ := tab_snoc (w := { w5 with heap := #[] }) hnC hO hC hap kb av avC ⟨rfl, rfl, rfl, Nat.zero_le _, fun i hi => absurd hi (by simp)⟩ (Nat.zero_le _) (Nat.zero_le _) hown hgrow hfr
  refine ⟨h1, h2, h3, h4, h5, h6, (Cur.grown (cur_alloc hc _) hgrow (fun k e => by have := (World.ownsRow.lt hO.outer k e).1; omega)).set hgk, grown_new (grown_more (grown_trans hG (grown_of_below ((Below.refl _ _).alloc (Nat.le_refl _) _) _)) hgrow (fun k e => by have := (World.ownsRow.lt hO.outer k e).1; omega)) hk6, h8, h9⟩
set_option maxHeartbeats 3200000 in
theorem c_l3Table (g : Nat) (w : World) (hc : Cur w g) :
    Calls Try.prog 180 #[.pointer (some ⟨g, 0, none⟩)] w fun e w' => ∃ (N : Nat) (o : Option Addr) (c : Nat) (xs : List Value) (R : List (List Int)), e = .returned (.agg #[.int .i64 N, .slice o R.length c]) ∧ OwnRows w' w.heap.size (.slice o R.length c) xs R ∧ (2 ≤ N ∧ N ≤ 4 ∧ R.length ≤ 12 ∧ ∀ j, j < R.length → (row R j).length ≤ 5) ∧ Cur w' g ∧ w.grownBy w' (some g) := by
  obtain ⟨i0, hi, hz0, hz1, hz2⟩ := info_parts info_int
  obtain ⟨j0, hj, hy0, hy1, hy2⟩ := info_parts info_ints
  have hlt := hc.lt
  have kZ := Blk.new w #[.int .i64 0, .slice none 0 0] 26
  have hG := grown_of_below ((Below.refl w.heap.size w).alloc (Nat.le_refl _) (.cells #[.int .i64 0, .slice none 0 0] 26)) (some g)
  replace hc := cur_alloc hc (.cells #[.int .i64 0, .slice none 0 0] 26)
  go_enter Try.func180, Try.ntmps180
  go_wp2_with fail
  refine (c_l1Below g 3 (by omega) _ hc).mono ?_
  rintro e w1 ⟨q, rfl, hq0, hq1, _, hc1, hg⟩
  replace kZ := kZ.cur hg (show w.heap.size ≠ g by omega)
  replace hG := grown_trans hG hg
  have hq2 := hq1 (by omega)
  clear hc hg hq1
  have hz := kZ.lt
  have kT := Blk.new w1 #[.int .i64 ((2 : Int) + q), .slice none 0 0] 26
  have hba := (Below.refl w1.heap.size w1).alloc (Nat.le_refl _) (.cells #[.int .i64 ((2 : Int) + q), .slice none 0 0] 26)
  replace kZ := kZ.keep hba
  replace hc1 := hc1.keep hba
  replace hG := grown_trans hG (grown_of_below hba _)
  clear hba
  go_upto_region 2 with fail
  generalize w1.alloc (.cells #[.int .i64 ((2 : Int) + q), .slice none 0 0] 26) = w2 at *
  obtain ⟨k6, hk6⟩ : ∃ k, w1.heap.size = k := ⟨_, rfl⟩
  rw [hk6] at kT hz
  simp only [hk6]
  clear hk6
  obtain ⟨N, hN⟩ : ∃ N : Nat, (2 : Int) + q = N := ⟨(2 + q).toNat, by omega⟩
  have hN2 : 2 ≤ N ∧ N ≤ 4 := by omega
  simp only [hN] at kT ⊢
  clear hN hq0 hq2
  go_wp2_with fail
  refine (c_l1Below g 3 (by omega) _ hc1).mono ?_
  rintro e w3 ⟨q3, rfl, hq0, hq1, _, hc3, hg⟩
  replace kZ := kZ.cur hg (show w.heap.size ≠ g by omega)
  replace kT := kT.cur hg (show k6 ≠ g by omega)
  replace hG := grown_trans hG hg
  have hq2 := hq1 (by omega)
  clear hc1 hg hq1
  go_wp2_with fail
  obtain ⟨wd, hwd⟩ : ∃ z, (2 : Int) + q3 = z := ⟨_, rfl⟩
  have hw4 : wd ≤ 256 := by omega
  simp only [hwd]
  clear hwd hq0 hq2
  refine (c_l1Below g 7 (by omega) _ hc3).mono ?_
  rintro e w4 ⟨q4, rfl, hq0, hq1, _, hc4, hg⟩
  replace kZ := kZ.cur hg (show w.heap.size ≠ g by omega)
  replace kT := kT.cur hg (show k6 ≠ g by omega)
  replace hG := grown_trans hG hg
  obtain ⟨k0, rfl⟩ := Int.eq_ofNat_of_zero_le hq0
  have hk0 : k0 ≤ 6 := by have := hq1 (by omega); omega
  clear hc3 hg hq0 hq1
  have hO := OwnRows.none w4 (w.heap.size + 1)
  go_wp2_with fail
  go_loopw [5] (fun i wr => ∃ (k : Nat) (R : List (List Int)) (o : Option Addr) (c : Nat) (xs : List Value), i = .int .i64 k ∧ R.length + 2 * k ≤ 12 ∧ (∀ j, j < R.length → (row R j).length ≤ 5) ∧ Blk wr k6 #[.int .i64 N, .slice o R.length c] 26 ∧ OwnRows wr (w.heap.size + 1) (.slice o R.length c) xs R ∧ Avoid k6 (.slice o R.length c) xs ∧ Cur wr g ∧ w.grownBy wr (some g) ∧ Blk wr w.heap.size #[.int .i64 0, .slice none 0 0] 26) (fun i _ => (intOf i).toNat)
  case atStart => exact ⟨k0, [], none, 0, [], rfl, by simp; omega, fun j hj => absurd hj (by simp), kT, hO, (fun y hy e => by rcases hy with rfl | hy; (simp [Value.ownBlock] at e); cases hy), hc4, hG, kZ⟩
  case round =>
    clear kT hO hc4 hG kZ
    obtain ⟨k, R, o, c, xs, rfl, hk, hlen, kT, hO, av, hc, hG, kZ⟩ := hrel
    have HLn : Hid (∀ j, j < R.length → (row R j).length ≤ 5) := hlen
    clear hlen
    have hRl : R.length ≤ 12 := by omega
    have hxl := hO.len
    by_cases hlt0 : 0 < k
    · have n0 := kT.cell 0 (.int .i64 N) rfl
      have hkt := kT.lt
      go_wp2_with fail
      refine (c_l3RandomRow g N (by omega) wd hw4 _ hc).mono ?_
      rintro e w5 ⟨o5, c5, C, rfl, hI, hCN, hc5, hg⟩
      have apI := OwnRows.fresh hO hI
      have avI : (Value.slice o5 C.length c5).ownBlock ≠ some k6 := fun e9 => by have := (World.ownsRow.lt hI _ e9).1; omega
      have HCN : Hid (C.length = N) := hCN
      have hC5 : C.length ≤ 5 := by omega
      have hC0 : 0 < C.length := by omega
      clear hCN
      replace hI := hI.based (show w.heap.size + 1 ≤ _ by omega)
      replace kT := kT.cur hg (show k6 ≠ g by omega)
      replace kZ := kZ.cur hg (show w.heap.size ≠ g by omega)
      replace hO := hO.cur hg (show g < w.heap.size + 1 by omega)
      replace hG := grown_trans hG hg
      clear hc hg n0
      have n1 := kT.cell 1 (.slice o R.length c) rfl
      go_wp2_with (first | (at_builtin; refine wpList_append_fresh rfl _ _ 24 rfl (w.heap.size + 1) 68 j0 (.slice none 0 0) 1 24 Try.underlying24 hj hy0 hy1 hy2 rfl (by decide) _ _ _ rfl (World.ownsRow.alloc hO.outer _) _ 1 1 [.slice o5 C.length c5] rfl rfl (World.news_of_block (cs := #[.slice o5 C.length c5]) (t := 68) (fr := (0, 0)) (heap_new_at (by simp))) (by intro u hu; simp at hu; subst hu; rfl) (by unfold maxLen; omega) (by omega) (by have := kT.lt; simp at this ⊢; omega) ?_; intro v7 w7 hown hgrow hfr; obtain ⟨⟨o7, c7, rfl⟩, s7, t7, kT7, hO7, av7, hc7, hG7, hoth, hblk⟩ := tab_snocG rfl hO hI apI kT av avI hc5 hG (Nat.le_succ _) (show w.heap.size ≤ k6 by omega) (show g < k6 by omega) hown hgrow hfr; have kZ7 := hblk _ _ _ kZ (show w.heap.size ≠ k6 by omega) (fun e => by have := (World.ownsRow.lt hO.outer _ e).1; omega); have hI7 := (hoth _ _ _ _ _ _ hI apI.1.symm avI).1; clear hown hgrow hfr hblk hoth) | fail)
      have hl7 : R.length + 1 = (R ++ [C]).length := by simp
      have HL7 : Hid (∀ j, j < (R ++ [C]).length → (row (R ++ [C]) j).length ≤ 5) := fun j hj => by
        by_cases h : j < R.length
        · rw [row_append_lt h]; exact HLn.out j h
        · have : j = R.length := by simp at hj; omega
          rw [this, row_append_end]; exact hC5
      refine (c_l1Once g 3 (by omega) _ hc7).mono ?_
      rintro e w8 ⟨t, rfl, hc8, hg⟩
      replace kT7 := kT7.cur hg (show k6 ≠ g by omega)
      replace kZ7 := kZ7.cur hg (show w.heap.size ≠ g by omega)
      replace hO7 := hO7.cur hg (show g < w.heap.size + 1 by omega)
      replace hI7 := owns_cur hI7 hg (show g < w.heap.size + 1 by omega)
      replace hG7 := grown_trans hG7 hg
      clear hc7 hg n1 s7 t7 kT hO hI kZ hG hc5 av apI avI
      rw [hl7] at kT7 hO7 av7
      have hP : (R ++ [C]).length ≤ 13 := by simp; omega
      have hPk : (R ++ [C]).length + 2 * k ≤ 13 := by simp; omega
      clear hl7
      generalize R ++ [C] = P at *
      generalize xs ++ [Value.slice o5 C.length c5] = ys at *
      cases t
      · go_wp2_with fail
        go_roundw
        case rel => exact ⟨k - 1, P, o7, c7, ys, by go_num, by omega, HL7.out, kT7, hO7, av7, hc8, hG7, kZ7⟩
        case measure => simp [intOf]; omega
      · have hk8 := kT7.lt
        have hba := (Below.refl w8.heap.size w8).alloc (Nat.le_refl _) (.cells #[] 3)
        have hE := OwnI.empty w8 w8.heap.size (Nat.le_refl _)
        obtain ⟨gr, rfl, _⟩ := OwnI.news (show OwnI w8 (w.heap.size + 1) (.slice o5 C.length c5) C from hI7) hC0
        have HB : Hid (∀ j u, (C.map encI)[j]? = some u → (w8.alloc (.cells #[] 3)).cell? ((⟨gr, 0, none⟩ : Addr).add j) = some u) := by
          obtain ⟨gr', e', h'⟩ := OwnI.news (OwnI.keep (show OwnI w8 (w.heap.size + 1) (.slice (some ⟨gr, 0, none⟩) C.length c5) C from hI7) hba) hC0
          cases e'; exact h'
        have old7 := hO7.old (Nat.le_refl _)
        go_wp2_with (first | (at_builtin; refine wpList_append_own _ rfl _ _ 68 rfl w8.heap.size 3 i0 (.int .i64 0) 1 8 Try.underlying68 hi hz0 hz1 hz2 rfl (by decide) (.slice (some ⟨w8.heap.size, 0, none⟩) 0 0) 0 [] rfl hE ⟨gr, 0, none⟩ C.length _ (C.map encI) rfl (by simp) HB.out (ones C) (by unfold maxLen; simp; omega) (by simp; omega) (by simp) ?_; intro v9 w9 hown hgrow _; have hX : OwnI w9 w8.heap.size v9 C := (by unfold OwnI; simpa using hown); have hb9 := hba.grown hgrow (by simp) (fun g hg => (World.ownsRow.lt hE g hg).1); clear hown hgrow; obtain ⟨o9, c9, rfl⟩ := hX.shape; have apX := OwnRows.fresh hO7 hX; replace kT7 := kT7.keep hb9; replace kZ7 := kZ7.keep hb9; replace hO7 := hO7.keep hb9; replace hc8 := hc8.keep hb9; replace hG7 := grown_trans hG7 (grown_of_below hb9 _); have n0 := kT7.cell 0 (.int .i64 N) rfl; clear hb9 hba hE) | fail)
        refine (c_l1Below g N (by omega) _ hc8).mono ?_
        rintro e w10 ⟨qj, rfl, hj0, hj1, _, hc10, hg⟩
        obtain ⟨jn, rfl⟩ := Int.eq_ofNat_of_zero_le hj0
        have hjC : jn < C.length := by have := hj1 (by omega); have := HCN.out; omega
        replace kT7 := kT7.cur hg (show k6 ≠ g by omega)
        replace kZ7 := kZ7.cur hg (show w.heap.size ≠ g by omega)
        replace hO7 := hO7.cur hg (show g < w.heap.size + 1 by omega)
        replace hX := hX.cur hg (show g < w8.heap.size by omega)
        replace hG7 := grown_trans hG7 hg
        clear hc8 hg n0 hj0 hj1
        go_wp2_with fail
        refine (c_l1Below g wd hw4 _ hc10).mono ?_
        rintro e w11 ⟨xv, rfl, _, _, _, hc11, hg⟩
        replace kT7 := kT7.cur hg (show k6 ≠ g by omega)
        replace kZ7 := kZ7.cur hg (show w.heap.size ≠ g by omega)
        replace hO7 := hO7.cur hg (show g < w.heap.size + 1 by omega)
        replace hX := hX.cur hg (show g < w8.heap.size by omega)
        replace hG7 := grown_trans hG7 hg
        clear hc10 hg
        obtain ⟨gx, rfl, _⟩ := hX.news hC0
        have hgx := (World.ownsRow.lt hX gx rfl).1
        have avx : Avoid gx (.slice o7 P.length c7) ys := fun y hy e => by have := old7 y hy _ e; omega
        obtain ⟨x1, x2⟩ := hX.cell rfl jn hjC
        replace hX := hX.store rfl jn xv
        replace kT7 := kT7.far ⟨gx, jn, none⟩ (.int .i64 xv) (show k6 ≠ gx by omega)
        replace kZ7 := kZ7.far ⟨gx, jn, none⟩ (.int .i64 xv) (show w.heap.size ≠ gx by omega)
        replace hO7 := ownRows_setAvoid hO7 avx jn (.int .i64 xv)
        replace hc11 := hc11.set (j := jn) (v := .int .i64 xv) (show g < gx by omega)
        replace hG7 := grown_new (j := jn) (v := .int .i64 xv) hG7 (show w.heap.size ≤ gx by omega)
        have hjj : (0 : Int) ≤ jn ∧ (jn : Int) < C.length := by omega
        have n1 := kT7.cell 1 (.slice o7 P.length c7) rfl
        have hyl := hO7.len
        replace hX := hX.based (show w.heap.size + 1 ≤ w8.heap.size by omega)
        have avX : (Value.slice (some ⟨gx, 0, none⟩) C.length c9).ownBlock ≠ some k6 := fun e9 => by simp [Value.ownBlock] at e9; omega
        go_wp2_with (first | (at_builtin; refine wpList_append_fresh rfl _ _ 24 rfl (w.heap.size + 1) 68 j0 (.slice none 0 0) 1 24 Try.underlying24 hj hy0 hy1 hy2 rfl (by decide) _ _ _ rfl (World.ownsRow.alloc hO7.outer _) _ 1 1 [.slice (some ⟨gx, 0, none⟩) C.length c9] rfl rfl (World.news_of_block (cs := #[.slice (some ⟨gx, 0, none⟩) C.length c9]) (t := 68) (fr := (0, 0)) (heap_new_at (by simp))) (by intro u hu; simp at hu; subst hu; rfl) (by unfold maxLen; omega) (by omega) (by have := kT7.lt; simp at this ⊢; omega) ?_; intro v12 w12 hown hgrow hfr; obtain ⟨⟨o8, c8, rfl⟩, s8, t8, kT8, hO8, av8, hc9, hG8, hoth, hblk⟩ := tab_snocG (show (C.set jn xv).length = C.length by simp) hO7 hX apX kT7 av7 avX hc11 hG7 (Nat.le_succ _) (show w.heap.size ≤ k6 by omega) (show g < k6 by omega) hown hgrow hfr; have kZ8 := hblk _ _ _ kZ7 (show w.heap.size ≠ k6 by omega) (fun e => by have := (World.ownsRow.lt hO7.outer _ e).1; omega); clear hown hgrow hfr hblk hoth) | fail)
        have hl8 : P.length + 1 = (P ++ [C.set jn xv]).length := by simp
        have HL8 : Hid (∀ j, j < (P ++ [C.set jn xv]).length → (row (P ++ [C.set jn xv]) j).length ≤ 5) := fun j hj => by
          by_cases h : j < P.length
          · rw [row_append_lt h]; exact HL7.out j h
          · have : j = P.length := by simp at hj; omega
            rw [this, row_append_end]; simpa using hC5
        rw [hl8] at kT8 hO8 av8
        have hPk8 : (P ++ [C.set jn xv]).length + 2 * (k - 1) ≤ 12 := by simp; omega
        clear hl8
        go_roundw
        case rel => exact ⟨k - 1, P ++ [C.set jn xv], o8, c8, _, by go_num, hPk8, HL8.out, by rw [show (P ++ [C.set jn xv]).length = P.length + 1 by simp] at *; exact kT8, by rw [show (P ++ [C.set jn xv]).length = P.length + 1 by simp] at *; exact hO8, by rw [show (P ++ [C.set jn xv]).length = P.length + 1 by simp] at *; exact av8, hc9, hG8, kZ8⟩
        case measure => simp [intOf]; omega
    · have HK : Hid (k = 0) := by show k = 0; omega
      have r0 := kT.cell 0 (.int .i64 N) rfl
      have r1 := kT.cell 1 (.slice o R.length c) rfl
      have z0 := kZ.cell 0 (.int .i64 0) rfl
      have z1 := kZ.cell 1 (.slice none 0 0) rfl
      have f0 := kZ.free 0
      have f1 := kZ.free 1
      have k2 : Blk _ w.heap.size #[.int .i64 N, .slice o R.length c] 26 := (kZ.set 0 (.int .i64 N)).set 1 (.slice o R.length c)
      have q0 := k2.cell 0 (.int .i64 N) rfl
      have q1 := k2.cell 1 (.slice o R.length c) rfl
      go_wp2
      refine bodyPost_ret (v := .agg #[.int .i64 N, .slice o R.length c]) (by simp only [results, Try.results180]; simp [go_sem, q0, q1]) rfl ?_
      exact ⟨N, o, c, xs, R, rfl, ((hO.far_set 0 (.int .i64 N) (Nat.lt_succ_self _)).far_set 1 (.slice o R.length c) (Nat.lt_succ_self _)).based (Nat.le_succ _), ⟨hN2.1, hN2.2, hRl, HLn.out⟩, (hc.set (j := 0) (v := .int .i64 N) hlt).set (j := 1) (v := .slice o R.length c) hlt, grown_new (j := 1) (v := .slice o R.length c) (grown_new (j := 0) (v := .int .i64 N) hG (Nat.le_refl _)) (Nat.le_refl _)⟩
end Go.Proofs.Ytjbmpnbfiahdhaa
namespace Go.Proofs.Ytjbmpnbfiahdhaa
open Go.RowKit
set_option linter.unusedVariables false
set_option maxRecDepth 100000

set_option maxHeartbeats 3200000 in
theorem c_l3Any (g : Nat) (w : World) (hc : Cur w g) :
    Calls Try.prog 181 #[.pointer (some ⟨g, 0, none⟩)] w fun e w' => ∃ (n : Int) (o : Option Addr) (c : Nat) (xs : List Value) (R : List (List Int)), e = .returned (.agg #[.int .i64 n, .slice o R.length c]) ∧ OwnRows w' w.heap.size (.slice o R.length c) xs R ∧ (R.length ≤ 13 ∧ ∀ j, j < R.length → (row R j).length ≤ 5) ∧ Cur w' g ∧ w.grownBy w' (some g) := by
  obtain ⟨i0, hi, hz0, hz1, hz2⟩ := info_parts info_int
  obtain ⟨j0, hj, hy0, hy1, hy2⟩ := info_parts info_ints
  have hlt := hc.lt
  have kZ := Blk.new w #[.int .i64 0, .slice none 0 0] 26
  have hG := grown_of_below ((Below.refl w.heap.size w).alloc (Nat.le_refl _) (.cells #[.int .i64 0, .slice none 0 0] 26)) (some g)
  replace hc := cur_alloc hc (.cells #[.int .i64 0, .slice none 0 0] 26)
  go_enter Try.func181, Try.ntmps181
  go_wp2_with fail
  refine (c_l3Table g _ hc).mono ?_
  rintro e w1 ⟨N, o, c, xs, R, rfl, hO, ⟨_, _, hRl, hlen⟩, hc1, hg⟩
  have HLn : Hid (∀ j, j < R.length → (row R j).length ≤ 5) := hlen
  clear hlen
  simp only [World.size_alloc] at hO
  replace kZ := kZ.cur hg (show w.heap.size ≠ g by omega)
  replace hG := grown_trans hG hg
  clear hc hg
  have kT := Blk.new w1 #[.int .i64 N, .slice o R.length c] 26
  have hz := kZ.lt
  have av : Avoid w1.heap.size (.slice o R.length c) xs := fun y hy e => by
    have := hO.old (Nat.le_refl _) y hy _ e
    omega
  have hba := (Below.refl w1.heap.size w1).alloc (Nat.le_refl _) (.cells #[.int .i64 N, .slice o R.length c] 26)
  replace kZ := kZ.keep hba
  replace hO := hO.keep hba
  replace hc1 := hc1.keep hba
  replace hG := grown_trans hG (grown_of_below hba _)
  clear hba
  go_upto_region 2 with fail
  generalize w1.alloc (.cells #[.int .i64 N, .slice o R.length c] 26) = w2 at *
  obtain ⟨k6, hk6⟩ : ∃ k, w1.heap.size = k := ⟨_, rfl⟩
  rw [hk6] at kT hz av
  simp only [hk6]
  clear hk6
  go_wp2_with fail
  refine (c_l1Below g 12 (by omega) _ hc1).mono ?_
  rintro e w3 ⟨q, rfl, _, _, _, hc3, hg⟩
  replace kZ := kZ.cur hg (show w.heap.size ≠ g by omega)
  replace kT := kT.cur hg (show k6 ≠ g by omega)
  replace hO := hO.cur hg (show g < w.heap.size + 1 by omega)
  replace hG := grown_trans hG hg
  clear hc1 hg
  have hk6 := kT.lt
  have hlt3 := hc3.lt
  by_cases e0 : q = 0
  · have hL := fun T => lit_ints w3 #[.int .i64 0, .int .i64 1, .int .i64 5, .int .i64 6] [0, 1, 5, 6] (by simp) (fun k hk => by match k, hk with | 0, _ => rfl | 1, _ => rfl | 2, _ => rfl | 3, _ => rfl) T
    go_wp2_with fail
    refine (c_l1PickInt g _ 4 [0, 1, 5, 6] (by simp) (by simp) _ (cur_alloc hc3 _) (hL _) (fun a e => by injection e with e; subst e; simp; omega)).mono ?_
    rintro e w4 ⟨n, rfl, _, hc4, hg⟩
    replace hg := grown_alloc hg
    replace kZ := kZ.cur hg (show w.heap.size ≠ g by omega)
    replace kT := kT.cur hg (show k6 ≠ g by omega)
    replace hO := hO.cur hg (show g < w.heap.size + 1 by omega)
    replace hG := grown_trans hG hg
    clear hc3 hg hL
    have n0 := kT.cell 0 (.int .i64 N) rfl
    have g0 := kT.free 0
    have kT2 : Blk _ k6 #[.int .i64 n, .slice o R.length c] 26 := kT.set 0 (.int .i64 n)
    have kZ2 := kZ.far ⟨k6, 0, none⟩ (.int .i64 n) (show w.heap.size ≠ k6 by omega)
    have hO2 := ownRows_setAvoid hO av 0 (.int .i64 n)
    have hc5 := hc4.set (j := 0) (v := .int .i64 n) (show g < k6 by omega)
    have hG2 := grown_new (j := 0) (v := .int .i64 n) hG (show w.heap.size ≤ k6 by omega)
    clear kZ hO hc4 hG
    have r0 := kT2.cell 0 (.int .i64 n) rfl
    have r1 := kT2.cell 1 (.slice o R.length c) rfl
    have z0 := kZ2.cell 0 (.int .i64 0) rfl
    have z1 := kZ2.cell 1 (.slice none 0 0) rfl
    have f0 := kZ2.free 0
    have f1 := kZ2.free 1
    have k2 : Blk _ w.heap.size #[.int .i64 n, .slice o R.length c] 26 := (kZ2.set 0 (.int .i64 n)).set 1 (.slice o R.length c)
    have q0 := k2.cell 0 (.int .i64 n) rfl
    have q1 := k2.cell 1 (.slice o R.length c) rfl
    go_wp2
    refine bodyPost_ret (v := .agg #[.int .i64 n, .slice o R.length c]) (by simp only [results, Try.results181]; simp [go_sem, q0, q1]) rfl ?_
    exact ⟨n, o, c, xs, R, rfl, ((hO2.far_set 0 (.int .i64 n) (Nat.lt_succ_self _)).far_set 1 (.slice o R.length c) (Nat.lt_succ_self _)).based (Nat.le_succ _), ⟨by omega, HLn.out⟩, (hc5.set (j := 0) (v := .int .i64 n) hlt).set (j := 1) (v := .slice o R.length c) hlt, grown_new (j := 1) (v := .slice o R.length c) (grown_new (j := 0) (v := .int .i64 n) hG2 (Nat.le_refl _)) (Nat.le_refl _)⟩
  · by_cases e1 : q = 1
    · have hL := fun T => lit_ints w3 #[.int .i64 (-2), .int .i64 (-1), .int .i64 40, .int .i64 41] [-2, -1, 40, 41] (by simp) (fun k hk => by match k, hk with | 0, _ => rfl | 1, _ => rfl | 2, _ => rfl | 3, _ => rfl) T
      have hxl := hO.len
      have n1 := kT.cell 1 (.slice o R.length c) rfl
      have n1d := kT.drew.cell 1 (.slice o R.length c) rfl
      have n1a := fun cs T => (kT.alloc (.cells cs T)).cell 1 (.slice o R.length c) rfl
      have n1b := fun cs T => (kT.alloc (.cells cs T)).drew.cell 1 (.slice o R.length c) rfl
      go_wp2_with fail
      go_region_law (first
        | ((try go_simp); refine (c_l1PickInt g _ 4 [-2, -1, 40, 41] (by simp) (by simp) _ (by first | exact cur_alloc hc3 _ | exact (cur_alloc hc3 _).keep (Below.refl _ _).drew | exact cur_alloc (hc3.keep (Below.refl _ _).drew) _) (by first | exact hL _ | exact (hL _).keep (Below.refl _ _).drew) (fun a e => by injection e with e; subst e; simp; omega)).mono ?_; rintro e w5 ⟨x, rfl, _, hc5, hg⟩; have hg3 : w3.grownBy w5 (some g) := (by first | exact grown_alloc hg | exact grown_alloc (drew_grown hg) | exact drew_grown (grown_alloc hg)); have kT5 := kT.cur hg3 (show k6 ≠ g by omega); have kZ5 := kZ.cur hg3 (show w.heap.size ≠ g by omega); have hO5 := hO.cur hg3 (show g < w.heap.size + 1 by omega); have hG5 := grown_trans hG hg3; have q5 := kT5.cell 1 (.slice o R.length c) rfl; have q5a := fun cs T => (kT5.alloc (.cells cs T)).cell 1 (.slice o R.length c) rfl; have q5b := fun cs T cs' T' => ((kT5.alloc (.cells cs T)).alloc (.cells cs' T')).cell 1 (.slice o R.length c) rfl; clear hg hg3)
        | (have hba := (Below.refl w5.heap.size w5).alloc (Nat.le_refl _) (.cells #[.int .i64 1, .int .i64 x] 3); have hI6 : OwnI (w5.alloc (.cells #[.int .i64 1, .int .i64 x] 3)) w5.heap.size (.slice (some ⟨w5.heap.size, 0, none⟩) 2 2) [1, x] := World.ownsRow_lit w5 #[.int .i64 1, .int .i64 x] 2 (Nat.le_refl _) (by decide) rfl; have ap6 := OwnRows.fresh hO5 hI6; have kT6 := kT5.keep hba; have kZ6 := kZ5.keep hba; have hO6 := hO5.keep hba; have hc6 := hc5.keep hba; have hG6 := grown_trans hG5 (grown_of_below hba _); have hk5 := kT5.lt; refine step_append_held _ (by rfl) _ _ 24 (by rfl) (w.heap.size + 1) 68 j0 (.slice none 0 0) 1 24 Try.underlying24 hj hy0 hy1 hy2 rfl (by decide) (.slice o R.length c) _ _ (by rfl) (World.ownsRow.alloc hO6.outer _) _ 1 1 [.slice (some ⟨w5.heap.size, 0, none⟩) 2 2] (by rfl) rfl (World.news_of_block (cs := #[.slice (some ⟨w5.heap.size, 0, none⟩) 2 2]) (t := 68) (fr := (0, 0)) (heap_new_at (by simp))) (by intro u hu; simp at hu; subst hu; rfl) (by unfold maxLen; omega) (by omega) (by simp; omega) ?_; intro v7 w7 hown _ hgrow hfr; obtain ⟨⟨o7, c7, rfl⟩, s7, t7, kT7, hO7, av7, hc7, hG7, hoth, hblk⟩ := tab_snocG (nC := 2) (C := [1, x]) rfl hO6 (hI6.based (show w.heap.size + 1 ≤ w5.heap.size by omega)) ap6 kT6 av (fun e9 => by simp [Value.ownBlock] at e9; omega) hc6 hG6 (Nat.le_succ _) (show w.heap.size ≤ k6 by omega) (show g < k6 by omega) hown hgrow hfr; have kZ7 := hblk _ _ _ kZ6 (show w.heap.size ≠ k6 by omega) (fun e => by have := (World.ownsRow.lt hO6.outer _ e).1; omega); clear hown hgrow hfr hblk hoth)
        | fail)
      all_goals
        have HL7 : Hid (∀ j, j < (R ++ [[1, x]]).length → (row (R ++ [[1, x]]) j).length ≤ 5) := fun j hj => by
          by_cases h : j < R.length
          · rw [row_append_lt h]; exact HLn.out j h
          · have : j = R.length := by simp at hj; omega
            rw [this, row_append_end]; simp
        have hO8 := hO7
        clear hO7 s7 t7 q5 q5a q5b n1 n1d n1a n1b hL
        generalize w7.setCell ⟨k6, 1, none⟩ (.slice o7 (R.length + 1) c7) = w8 at *
        have r0 := kT7.cell 0 (.int .i64 N) rfl
        have r1 := kT7.cell 1 (.slice o7 (R.length + 1) c7) rfl
        have z0 := kZ7.cell 0 (.int .i64 0) rfl
        have z1 := kZ7.cell 1 (.slice none 0 0) rfl
        have f0 := kZ7.free 0
        have f1 := kZ7.free 1
        have k2 : Blk _ w.heap.size #[.int .i64 N, .slice o7 (R.length + 1) c7] 26 := (kZ7.set 0 (.int .i64 N)).set 1 (.slice o7 (R.length + 1) c7)
        have q0 := k2.cell 0 (.int .i64 N) rfl
        have q1 := k2.cell 1 (.slice o7 (R.length + 1) c7) rfl
        go_wp2
        refine bodyPost_ret (v := .agg #[.int .i64 N, .slice o7 (R.length + 1) c7]) (by simp only [results, Try.results181]; simp [go_sem, q0, q1]) rfl ?_
        have hl7 : R.length + 1 = (R ++ [[1, x]]).length := by simp
        refine ⟨N, o7, c7, xs ++ [.slice (some ⟨w5.heap.size, 0, none⟩) 2 2], R ++ [[1, x]], by rw [← hl7], ?_, ⟨by simp; omega, HL7.out⟩, (hc7.set (j := 0) (v := .int .i64 N) hlt).set (j := 1) (v := .slice o7 (R.length + 1) c7) hlt, grown_new (j := 1) (v := .slice o7 (R.length + 1) c7) (grown_new (j := 0) (v := .int .i64 N) hG7 (Nat.le_refl _)) (Nat.le_refl _)⟩
        rw [← hl7]
        exact ((hO8.far_set 0 (.int .i64 N) (Nat.lt_succ_self _)).far_set 1 (.slice o7 (R.length + 1) c7) (Nat.lt_succ_self _)).based (Nat.le_succ _)
    · skip
      have r0 := kT.cell 0 (.int .i64 N) rfl
      have r1 := kT.cell 1 (.slice o R.length c) rfl
      have z0 := kZ.cell 0 (.int .i64 0) rfl
      have z1 := kZ.cell 1 (.slice none 0 0) rfl
      have f0 := kZ.free 0
      have f1 := kZ.free 1
      have k2 : Blk _ w.heap.size #[.int .i64 N, .slice o R.length c] 26 := (kZ.set 0 (.int .i64 N)).set 1 (.slice o R.length c)
      have q0 := k2.cell 0 (.int .i64 N) rfl
      have q1 := k2.cell 1 (.slice o R.length c) rfl
      go_wp2
      refine bodyPost_ret (v := .agg #[.int .i64 N, .slice o R.length c]) (by simp only [results, Try.results181]; simp [go_sem, q0, q1]) rfl ?_
      exact ⟨N, o, c, xs, R, rfl, ((hO.far_set 0 (.int .i64 N) (Nat.lt_succ_self _)).far_set 1 (.slice o R.length c) (Nat.lt_succ_self _)).based (Nat.le_succ _), ⟨by omega, HLn.out⟩, (hc3.set (j := 0) (v := .int .i64 N) hlt).set (j := 1) (v := .slice o R.length c) hlt, grown_new (j := 1) (v := .slice o R.length c) (grown_new (j := 0) (v := .int .i64 N) hG (Nat.le_refl _)) (Nat.le_refl _)⟩
set_option maxHeartbeats 3200000 in
theorem c_l4Draw (g : Nat) (w : World) (hc : Cur w g) :
    Calls Try.prog 140 #[.pointer (some ⟨g, 0, none⟩)] w fun e w' => ∃ (n m : Int) (o : Option Addr) (c : Nat) (xs : List Value) (R : List (List Int)), e = .returned (.tuple #[.agg #[.int .i64 n, .slice o R.length c], .int .i64 m]) ∧ OwnRows w' w.heap.size (.slice o R.length c) xs R ∧ (R.length ≤ 13 ∧ ∀ j, j < R.length → (row R j).length ≤ 5) ∧ Cur w' g ∧ w.grownBy w' (some g) := by
  obtain ⟨i0, hi, hz0, hz1, hz2⟩ := info_parts info_int
  obtain ⟨j0, hj, hy0, hy1, hy2⟩ := info_parts info_ints
  have hlt := hc.lt
  have kZ := Blk.new w #[.int .i64 0, .slice none 0 0] 26
  have hG := grown_of_below ((Below.refl w.heap.size w).alloc (Nat.le_refl _) (.cells #[.int .i64 0, .slice none 0 0] 26)) (some g)
  replace hc := cur_alloc hc (.cells #[.int .i64 0, .slice none 0 0] 26)
  go_enter Try.func140, Try.ntmps140
  go_wp2_with fail
  refine (c_l3Table g _ hc).mono ?_
  rintro e w1 ⟨N, o, c, xs, R, rfl, hO, ⟨_, _, hRl, hlen⟩, hc1, hg⟩
  have HLn : Hid (∀ j, j < R.length → (row R j).length ≤ 5) := hlen
  clear hlen
  simp only [World.size_alloc] at hO
  replace kZ := kZ.cur hg (show w.heap.size ≠ g by omega)
  replace hG := grown_trans hG hg
  clear hc hg
  have kT := Blk.new w1 #[.int .i64 N, .slice o R.length c] 26
  have hz := kZ.lt
  have av : Avoid w1.heap.size (.slice o R.length c) xs := fun y hy e => by
    have := hO.old (Nat.le_refl _) y hy _ e
    omega
  have hba := (Below.refl w1.heap.size w1).alloc (Nat.le_refl _) (.cells #[.int .i64 N, .slice o R.length c] 26)
  replace kZ := kZ.keep hba
  replace hO := hO.keep hba
  replace hc1 := hc1.keep hba
  replace hG := grown_trans hG (grown_of_below hba _)
  clear hba
  go_upto_region 2 with fail
  generalize w1.alloc (.cells #[.int .i64 N, .slice o R.length c] 26) = w2 at *
  obtain ⟨k6, hk6⟩ : ∃ k, w1.heap.size = k := ⟨_, rfl⟩
  rw [hk6] at kT hz av
  simp only [hk6]
  clear hk6
  go_wp2_with fail
  refine (c_l1Once g 14 (by omega) _ hc1).mono ?_
  rintro e w3 ⟨t, rfl, hc3, hg⟩
  replace kZ := kZ.cur hg (show w.heap.size ≠ g by omega)
  replace kT := kT.cur hg (show k6 ≠ g by omega)
  replace hO := hO.cur hg (show g < w.heap.size + 1 by omega)
  replace hG := grown_trans hG hg
  clear hc1 hg
  have hk6 := kT.lt
  cases t
  · skip
    go_wp2_with fail
    refine (c_l1Below g 2 (by omega) _ hc3).mono ?_
    rintro e w5 ⟨m, rfl, _, _, _, hc5, hg⟩
    replace kZ := kZ.cur hg (show w.heap.size ≠ g by omega)
    replace kT := kT.cur hg (show k6 ≠ g by omega)
    replace hO := hO.cur hg (show g < w.heap.size + 1 by omega)
    replace hG := grown_trans hG hg
    clear hc3 hg
    go_wp2_with fail
    refine (c_l1Once g 20 (by omega) _ hc5).mono ?_
    rintro e w6 ⟨t, rfl, hc6, hg⟩
    replace kZ := kZ.cur hg (show w.heap.size ≠ g by omega)
    replace kT := kT.cur hg (show k6 ≠ g by omega)
    replace hO := hO.cur hg (show g < w.heap.size + 1 by omega)
    replace hG := grown_trans hG hg
    clear hc5 hg
    cases t
    · skip
      have r0 := kT.cell 0 (.int .i64 N) rfl
      have r1 := kT.cell 1 (.slice o R.length c) rfl
      have z0 := kZ.cell 0 (.int .i64 0) rfl
      have z1 := kZ.cell 1 (.slice none 0 0) rfl
      have f0 := kZ.free 0
      have f1 := kZ.free 1
      have k2 : Blk _ w.heap.size #[.int .i64 N, .slice o R.length c] 26 := (kZ.set 0 (.int .i64 N)).set 1 (.slice o R.length c)
      have q0 := k2.cell 0 (.int .i64 N) rfl
      have q1 := k2.cell 1 (.slice o R.length c) rfl
      go_wp2
      refine bodyPost_ret (v := .tuple #[.agg #[.int .i64 N, .slice o R.length c], .int .i64 m]) (by simp only [results, Try.results140]; simp [go_sem, q0, q1]) rfl ?_
      exact ⟨N, m, o, c, xs, R, rfl, ((hO.far_set 0 (.int .i64 N) (Nat.lt_succ_self _)).far_set 1 (.slice o R.length c) (Nat.lt_succ_self _)).based (Nat.le_succ _), ⟨by omega, HLn.out⟩, (hc6.set (j := 0) (v := .int .i64 N) hlt).set (j := 1) (v := .slice o R.length c) hlt, grown_new (j := 1) (v := .slice o R.length c) (grown_new (j := 0) (v := .int .i64 N) hG (Nat.le_refl _)) (Nat.le_refl _)⟩
    · have hL := fun T => lit_ints w6 #[.int .i64 (-1), .int .i64 2] [-1, 2] (by simp) (fun k hk => by match k, hk with | 0, _ => rfl | 1, _ => rfl) T
      have hlt6 := hc6.lt
      go_wp2_with fail
      refine (c_l1PickInt g _ 2 [-1, 2] (by simp) (by simp) _ (cur_alloc hc6 _) (hL _) (fun a e => by injection e with e; subst e; simp; omega)).mono ?_
      rintro e w7 ⟨m2, rfl, _, hc7, hg⟩
      replace hg := grown_alloc hg
      replace kZ := kZ.cur hg (show w.heap.size ≠ g by omega)
      replace kT := kT.cur hg (show k6 ≠ g by omega)
      replace hO := hO.cur hg (show g < w.heap.size + 1 by omega)
      replace hG := grown_trans hG hg
      clear hc6 hg hL
      have r0 := kT.cell 0 (.int .i64 N) rfl
      have r1 := kT.cell 1 (.slice o R.length c) rfl
      have z0 := kZ.cell 0 (.int .i64 0) rfl
      have z1 := kZ.cell 1 (.slice none 0 0) rfl
      have f0 := kZ.free 0
      have f1 := kZ.free 1
      have k2 : Blk _ w.heap.size #[.int .i64 N, .slice o R.length c] 26 := (kZ.set 0 (.int .i64 N)).set 1 (.slice o R.length c)
      have q0 := k2.cell 0 (.int .i64 N) rfl
      have q1 := k2.cell 1 (.slice o R.length c) rfl
      go_wp2
      refine bodyPost_ret (v := .tuple #[.agg #[.int .i64 N, .slice o R.length c], .int .i64 m2]) (by simp only [results, Try.results140]; simp [go_sem, q0, q1]) rfl ?_
      exact ⟨N, m2, o, c, xs, R, rfl, ((hO.far_set 0 (.int .i64 N) (Nat.lt_succ_self _)).far_set 1 (.slice o R.length c) (Nat.lt_succ_self _)).based (Nat.le_succ _), ⟨by omega, HLn.out⟩, (hc7.set (j := 0) (v := .int .i64 N) hlt).set (j := 1) (v := .slice o R.length c) hlt, grown_new (j := 1) (v := .slice o R.length c) (grown_new (j := 0) (v := .int .i64 N) hG (Nat.le_refl _)) (Nat.le_refl _)⟩
  · go_wp2_with fail
    refine (c_l3Any g _ hc3).mono ?_
    rintro e w4 ⟨n, o2, c2, xs2, R2, rfl, hO2, ⟨hRl2, hlen2⟩, hc4, hg⟩
    have HLn2 : Hid (∀ j, j < R2.length → (row R2 j).length ≤ 5) := hlen2
    clear hlen2
    replace kZ := kZ.cur hg (show w.heap.size ≠ g by omega)
    replace kT := kT.cur hg (show k6 ≠ g by omega)
    replace hG := grown_trans hG hg
    have av2 : Avoid k6 (.slice o2 R2.length c2) xs2 := fun y hy e => by
      rcases hy with rfl | hy
      · have := (World.ownsRow.lt hO2.outer _ e).1; omega
      · have := hO2.lowS (Nat.le_refl _) y hy _ e; omega
    replace hO2 := hO2.based (show w.heap.size + 1 ≤ w3.heap.size by omega)
    clear hc3 hg hO HLn hRl av
    have n0 := kT.cell 0 (.int .i64 N) rfl
    have n1 := kT.cell 1 (.slice o R.length c) rfl
    have g0 := kT.free 0
    have g1 := kT.free 1
    have kT2 : Blk _ k6 #[.int .i64 n, .slice o2 R2.length c2] 26 := (kT.set 0 (.int .i64 n)).set 1 (.slice o2 R2.length c2)
    have kZ2 := (kZ.far ⟨k6, 0, none⟩ (.int .i64 n) (show w.heap.size ≠ k6 by omega)).far ⟨k6, 1, none⟩ (.slice o2 R2.length c2) (show w.heap.size ≠ k6 by omega)
    have hO3 := ownRows_setAvoid (ownRows_setAvoid hO2 av2 0 (.int .i64 n)) av2 1 (.slice o2 R2.length c2)
    have hc5 := (hc4.set (j := 0) (v := .int .i64 n) (show g < k6 by omega)).set (j := 1) (v := .slice o2 R2.length c2) (show g < k6 by omega)
    have hG2 := grown_new (j := 1) (v := .slice o2 R2.length c2) (grown_new (j := 0) (v := .int .i64 n) hG (show w.heap.size ≤ k6 by omega)) (show w.heap.size ≤ k6 by omega)
    clear kZ hO2 hc4 hG
    have kT1 := kT
    clear kT
    have kT := kT2
    have kZ := kZ2
    have hO := hO3
    have hc3 := hc5
    have hG := hG2
    clear kT2 kZ2 hO3 hc5 hG2
    go_wp2_with fail
    skip
    refine (c_l1Below g 2 (by omega) _ hc3).mono ?_
    rintro e w5 ⟨m, rfl, _, _, _, hc5, hg⟩
    replace kZ := kZ.cur hg (show w.heap.size ≠ g by omega)
    replace kT := kT.cur hg (show k6 ≠ g by omega)
    replace hO := hO.cur hg (show g < w.heap.size + 1 by omega)
    replace hG := grown_trans hG hg
    clear hc3 hg
    go_wp2_with fail
    refine (c_l1Once g 20 (by omega) _ hc5).mono ?_
    rintro e w6 ⟨t, rfl, hc6, hg⟩
    replace kZ := kZ.cur hg (show w.heap.size ≠ g by omega)
    replace kT := kT.cur hg (show k6 ≠ g by omega)
    replace hO := hO.cur hg (show g < w.heap.size + 1 by omega)
    replace hG := grown_trans hG hg
    clear hc5 hg
    cases t
    · skip
      have r0 := kT.cell 0 (.int .i64 n) rfl
      have r1 := kT.cell 1 (.slice o2 R2.length c2) rfl
      have z0 := kZ.cell 0 (.int .i64 0) rfl
      have z1 := kZ.cell 1 (.slice none 0 0) rfl
      have f0 := kZ.free 0
      have f1 := kZ.free 1
      have k2 : Blk _ w.heap.size #[.int .i64 n, .slice o2 R2.length c2] 26 := (kZ.set 0 (.int .i64 n)).set 1 (.slice o2 R2.length c2)
      have q0 := k2.cell 0 (.int .i64 n) rfl
      have q1 := k2.cell 1 (.slice o2 R2.length c2) rfl
      go_wp2
      refine bodyPost_ret (v := .tuple #[.agg #[.int .i64 n, .slice o2 R2.length c2], .int .i64 m]) (by simp only [results, Try.results140]; simp [go_sem, q0, q1]) rfl ?_
      exact ⟨n, m, o2, c2, xs2, R2, rfl, ((hO.far_set 0 (.int .i64 n) (Nat.lt_succ_self _)).far_set 1 (.slice o2 R2.length c2) (Nat.lt_succ_self _)).based (Nat.le_succ _), ⟨by omega, HLn2.out⟩, (hc6.set (j := 0) (v := .int .i64 n) hlt).set (j := 1) (v := .slice o2 R2.length c2) hlt, grown_new (j := 1) (v := .slice o2 R2.length c2) (grown_new (j := 0) (v := .int .i64 n) hG (Nat.le_refl _)) (Nat.le_refl _)⟩
    · have hL := fun T => lit_ints w6 #[.int .i64 (-1), .int .i64 2] [-1, 2] (by simp) (fun k hk => by match k, hk with | 0, _ => rfl | 1, _ => rfl) T
      have hlt6 := hc6.lt
      go_wp2_with fail
      refine (c_l1PickInt g _ 2 [-1, 2] (by simp) (by simp) _ (cur_alloc hc6 _) (hL _) (fun a e => by injection e with e; subst e; simp; omega)).mono ?_
      rintro e w7 ⟨m2, rfl, _, hc7, hg⟩
      replace hg := grown_alloc hg
      replace kZ := kZ.cur hg (show w.heap.size ≠ g by omega)
      replace kT := kT.cur hg (show k6 ≠ g by omega)
      replace hO := hO.cur hg (show g < w.heap.size + 1 by omega)
      replace hG := grown_trans hG hg
      clear hc6 hg hL
      have r0 := kT.cell 0 (.int .i64 n) rfl
      have r1 := kT.cell 1 (.slice o2 R2.length c2) rfl
      have z0 := kZ.cell 0 (.int .i64 0) rfl
      have z1 := kZ.cell 1 (.slice none 0 0) rfl
      have f0 := kZ.free 0
      have f1 := kZ.free 1
      have k2 : Blk _ w.heap.size #[.int .i64 n, .slice o2 R2.length c2] 26 := (kZ.set 0 (.int .i64 n)).set 1 (.slice o2 R2.length c2)
      have q0 := k2.cell 0 (.int .i64 n) rfl
      have q1 := k2.cell 1 (.slice o2 R2.length c2) rfl
      go_wp2
      refine bodyPost_ret (v := .tuple #[.agg #[.int .i64 n, .slice o2 R2.length c2], .int .i64 m2]) (by simp only [results, Try.results140]; simp [go_sem, q0, q1]) rfl ?_
      exact ⟨n, m2, o2, c2, xs2, R2, rfl, ((hO.far_set 0 (.int .i64 n) (Nat.lt_succ_self _)).far_set 1 (.slice o2 R2.length c2) (Nat.lt_succ_self _)).based (Nat.le_succ _), ⟨by omega, HLn2.out⟩, (hc7.set (j := 0) (v := .int .i64 n) hlt).set (j := 1) (v := .slice o2 R2.length c2) hlt, grown_new (j := 1) (v := .slice o2 R2.length c2) (grown_new (j := 0) (v := .int .i64 n) hG (Nat.le_refl _)) (Nat.le_refl _)⟩
end Go.Proofs.Ytjbmpnbfiahdhaa
namespace Go.Proofs.Ytjbmpnbfiahdhaa
open Go.RowKit
set_option linter.unusedVariables false
set_option maxRecDepth 100000

def DrawsTab (f : FuncId) (oa : Option Addr) (mc cap : Nat) (w : World) : Prop :=
  Calls Try.prog f #[.slice oa mc cap] w fun e w' => ∃ (n m : Int) (o : Option Addr) (c : Nat) (xs : List Value) (R : List (List Int)), e = .returned (.tuple #[.agg #[.int .i64 n, .slice o R.length c], .int .i64 m]) ∧ OwnRows w' w.heap.size (.slice o R.length c) xs R ∧ (R.length ≤ 13 ∧ ∀ j, j < R.length → (row R j).length ≤ 5) ∧ Below w.heap.size w w'
def DrawsTabX (f : FuncId) (oa : Option Addr) (mc cap : Nat) (w : World) : Prop :=
  Calls Try.prog f #[.slice oa mc cap] w fun e w' => ∃ (n m : Int) (o : Option Addr) (c : Nat) (xs : List Value) (R : List (List Int)) (x : Int), e = .returned (.tuple #[.agg #[.int .i64 n, .slice o R.length c], .int .i64 m, .int .i64 x]) ∧ OwnRows w' w.heap.size (.slice o R.length c) xs R ∧ (R.length ≤ 13 ∧ ∀ j, j < R.length → (row R j).length ≤ 5) ∧ Below w.heap.size w w'
set_option maxHeartbeats 3200000 in
theorem c_DrawMinimalKeys (oa) (mc cap : Nat) (hm : mc ≤ 1048576) (w : World) (hB : BytesAt w oa mc) : DrawsTab 72 oa mc cap w := by
  unfold DrawsTab
  have hb := (Below.refl w.heap.size w).alloc (Nat.le_refl _) (.cells #[.int .i64 0, .slice none 0 0] 26)
  have kZ := Blk.new w #[.int .i64 0, .slice none 0 0] 26
  go_enter Try.func72, Try.ntmps72
  go_wp2_with fail
  refine (c_l1New oa mc cap hm _ (hB.keep hb)).mono ?_
  rintro e w1 ⟨rfl, hc1, hbn⟩
  replace kZ := kZ.keep hbn
  replace hb := bel_to hb hbn
  simp only [World.size_alloc] at hc1 ⊢
  clear hbn
  have hz := kZ.lt
  go_wp2_with fail
  refine (c_l4Draw _ _ hc1).mono ?_
  rintro e w2 ⟨n, m, o, c, xs, R, rfl, hO, ⟨hRl, hlen⟩, hc2, hg⟩
  have HLn : Hid (∀ j, j < R.length → (row R j).length ≤ 5) := hlen
  clear hlen
  have hlt1 := hc1.lt
  have hsz := hg.size
  replace hb := below_cur hb hg (Nat.le_succ _)
  replace kZ := kZ.cur hg (show w.heap.size ≠ w.heap.size + 1 by omega)
  clear hc1 hg
  have kT := Blk.new w2 #[.int .i64 n, .slice o R.length c] 26
  have hba := (Below.refl w2.heap.size w2).alloc (Nat.le_refl _) (.cells #[.int .i64 n, .slice o R.length c] 26)
  replace kZ := kZ.keep hba
  replace hO := hO.keep hba
  replace hc2 := hc2.keep hba
  replace hb := bel_to hb hba
  clear hba
  have n0 := kT.cell 0 (.int .i64 n) rfl
  have n1 := kT.cell 1 (.slice o R.length c) rfl
  have z0 := kZ.cell 0 (.int .i64 0) rfl
  have z1 := kZ.cell 1 (.slice none 0 0) rfl
  have f0 := kZ.free 0
  have f1 := kZ.free 1
  have k2 : Blk _ w.heap.size #[.int .i64 n, .slice o R.length c] 26 := (kZ.set 0 (.int .i64 n)).set 1 (.slice o R.length c)
  have q0 := k2.cell 0 (.int .i64 n) rfl
  have q1 := k2.cell 1 (.slice o R.length c) rfl
  go_wp2
  refine bodyPost_ret (v := .tuple #[.agg #[.int .i64 n, .slice o R.length c], .int .i64 m]) (by simp only [results, Try.results72]; simp [go_sem, q0, q1]) rfl ?_
  exact ⟨n, m, o, c, xs, R, rfl, ((hO.far_set 0 (.int .i64 n) (show w.heap.size < w1.heap.size by omega)).far_set 1 (.slice o R.length c) (show w.heap.size < w1.heap.size by omega)).based (by omega), ⟨hRl, HLn.out⟩, bel_set2 hb (Nat.le_refl _) _ _⟩
set_option maxHeartbeats 3200000 in
theorem c_DrawIsUnique (oa) (mc cap : Nat) (hm : mc ≤ 1048576) (w : World) (hB : BytesAt w oa mc) : DrawsTabX 78 oa mc cap w := by
  unfold DrawsTabX
  have hb := (Below.refl w.heap.size w).alloc (Nat.le_refl _) (.cells #[.int .i64 0, .slice none 0 0] 26)
  have kZ := Blk.new w #[.int .i64 0, .slice none 0 0] 26
  go_enter Try.func78, Try.ntmps78
  go_wp2_with fail
  refine (c_l1New oa mc cap hm _ (hB.keep hb)).mono ?_
  rintro e w1 ⟨rfl, hc1, hbn⟩
  replace kZ := kZ.keep hbn
  replace hb := bel_to hb hbn
  simp only [World.size_alloc] at hc1 ⊢
  clear hbn
  have hz := kZ.lt
  go_wp2_with fail
  refine (c_l4Draw _ _ hc1).mono ?_
  rintro e w2 ⟨n, m, o, c, xs, R, rfl, hO, ⟨hRl, hlen⟩, hc2, hg⟩
  have HLn : Hid (∀ j, j < R.length → (row R j).length ≤ 5) := hlen
  clear hlen
  have hlt1 := hc1.lt
  have hsz := hg.size
  replace hb := below_cur hb hg (Nat.le_succ _)
  replace kZ := kZ.cur hg (show w.heap.size ≠ w.heap.size + 1 by omega)
  clear hc1 hg
  have kT := Blk.new w2 #[.int .i64 n, .slice o R.length c] 26
  have hba := (Below.refl w2.heap.size w2).alloc (Nat.le_refl _) (.cells #[.int .i64 n, .slice o R.length c] 26)
  replace kZ := kZ.keep hba
  replace hO := hO.keep hba
  replace hc2 := hc2.keep hba
  replace hb := bel_to hb hba
  clear hba
  go_upto_region 3 with fail
  generalize w2.alloc (.cells #[.int .i64 n, .slice o R.length c] 26) = w3 at *
  obtain ⟨k6, hk6⟩ : ∃ k, w2.heap.size = k := ⟨_, rfl⟩
  rw [hk6] at kT hsz
  simp only [hk6]
  clear hk6
  go_wp2_with fail
  refine (c_l1Once _ 8 (by omega) _ hc2).mono ?_
  rintro e w4 ⟨t, rfl, hc4, hg⟩
  replace hb := below_cur hb hg (Nat.le_succ _)
  replace kZ := kZ.cur hg (show w.heap.size ≠ w.heap.size + 1 by omega)
  replace kT := kT.cur hg (show k6 ≠ w.heap.size + 1 by omega)
  replace hO := hO.cur hg (show w.heap.size + 1 < w1.heap.size by omega)
  clear hc2 hg
  have n0 := kT.cell 0 (.int .i64 n) rfl
  have n1 := kT.cell 1 (.slice o R.length c) rfl
  have n0d := kT.drew.cell 0 (.int .i64 n) rfl
  have n1d := kT.drew.cell 1 (.slice o R.length c) rfl
  cases t
  · go_wp2_with fail
    go_region_law (first
      | ((try go_simp); refine (c_l1Below _ 8 (by omega) _ (by first | exact hc4 | exact hc4.keep (Below.refl _ _).drew)).mono ?_; rintro e w5 ⟨x, rfl, _, _, _, hc5, hg⟩; have hg3 : w4.grownBy w5 (some (w.heap.size + 1)) := (by first | exact hg | exact drew_grown hg); have kT5 := kT.cur hg3 (show k6 ≠ w.heap.size + 1 by omega); have kZ5 := kZ.cur hg3 (show w.heap.size ≠ w.heap.size + 1 by omega); have hO5 := hO.cur hg3 (show w.heap.size + 1 < w1.heap.size by omega); have hb5 := below_cur hb hg3 (Nat.le_succ _); have p0 := kT5.cell 0 (.int .i64 n) rfl; have p1 := kT5.cell 1 (.slice o R.length c) rfl; have z0 := kZ5.cell 0 (.int .i64 0) rfl; have z1 := kZ5.cell 1 (.slice none 0 0) rfl; have f0 := kZ5.free 0; have f1 := kZ5.free 1; clear hg hg3)
      | fail)
    all_goals
      have k2 : Blk _ w.heap.size #[.int .i64 n, .slice o R.length c] 26 := (kZ5.set 0 (.int .i64 n)).set 1 (.slice o R.length c)
      have q0 := k2.cell 0 (.int .i64 n) rfl
      have q1 := k2.cell 1 (.slice o R.length c) rfl
      go_wp2
      refine bodyPost_ret (v := .tuple #[.agg #[.int .i64 n, .slice o R.length c], .int .i64 m, .int .i64 x]) (by simp only [results, Try.results78]; simp [go_sem, q0, q1]) rfl ?_
      exact ⟨n, m, o, c, xs, R, x, rfl, ((hO5.far_set 0 (.int .i64 n) (show w.heap.size < w1.heap.size by omega)).far_set 1 (.slice o R.length c) (show w.heap.size < w1.heap.size by omega)).based (by omega), ⟨hRl, HLn.out⟩, bel_set2 hb5 (Nat.le_refl _) _ _⟩
  · go_wp2_with fail
    go_region_law (first
      | ((try go_simp); refine (c_l2Any _ _ (by first | exact hc4 | exact hc4.keep (Below.refl _ _).drew)).mono ?_; rintro e w5 ⟨x, rfl, _, _, hc5, hg⟩; have hg3 : w4.grownBy w5 (some (w.heap.size + 1)) := (by first | exact hg | exact drew_grown hg); have kT5 := kT.cur hg3 (show k6 ≠ w.heap.size + 1 by omega); have kZ5 := kZ.cur hg3 (show w.heap.size ≠ w.heap.size + 1 by omega); have hO5 := hO.cur hg3 (show w.heap.size + 1 < w1.heap.size by omega); have hb5 := below_cur hb hg3 (Nat.le_succ _); have p0 := kT5.cell 0 (.int .i64 n) rfl; have p1 := kT5.cell 1 (.slice o R.length c) rfl; have z0 := kZ5.cell 0 (.int .i64 0) rfl; have z1 := kZ5.cell 1 (.slice none 0 0) rfl; have f0 := kZ5.free 0; have f1 := kZ5.free 1; clear hg hg3)
      | fail)
    all_goals
      have k2 : Blk _ w.heap.size #[.int .i64 n, .slice o R.length c] 26 := (kZ5.set 0 (.int .i64 n)).set 1 (.slice o R.length c)
      have q0 := k2.cell 0 (.int .i64 n) rfl
      have q1 := k2.cell 1 (.slice o R.length c) rfl
      go_wp2
      refine bodyPost_ret (v := .tuple #[.agg #[.int .i64 n, .slice o R.length c], .int .i64 m, .int .i64 x]) (by simp only [results, Try.results78]; simp [go_sem, q0, q1]) rfl ?_
      exact ⟨n, m, o, c, xs, R, x, rfl, ((hO5.far_set 0 (.int .i64 n) (show w.heap.size < w1.heap.size by omega)).far_set 1 (.slice o R.length c) (show w.heap.size < w1.heap.size by omega)).based (by omega), ⟨hRl, HLn.out⟩, bel_set2 hb5 (Nat.le_refl _) _ _⟩
end Go.Proofs.Ytjbmpnbfiahdhaa
namespace Go.Proofs.Ytjbmpnbfiahdhaa
open Go.RowKit
set_option linter.unusedVariables false
set_option maxRecDepth 100000

theorem c_big (oa) (m cap : Nat) (w : World) : Ans Try.prog 30 #[.slice oa m cap] w (.bool (decide ((1048576 : Int) < m))) := by
  unfold Ans
  go_enter Try.func30, Try.ntmps30
  go_wp2
  go_ret
  exact ⟨ret_bool (by simp), Below.refl _ _⟩
theorem c_lawSameInts (oa ob) (ca cb : Nat) (L : List Int) (w : World) (hA : IntsAt w oa L) (hB : IntsAt w ob L) :
    Ans Try.prog 46 #[.slice oa L.length ca, .slice ob L.length cb] w (.bool true) := by
  unfold Ans
  have hn : L.length ≤ 1073741824 := hA.len
  have hne : ((L.length : Int) != L.length) = false := by simp
  go_enter Try.func46, Try.ntmps46
  go_wp2
  go_loopw [5] (fun i wr => ∃ k : Nat, i = .int .i64 k ∧ k ≤ L.length ∧ Below w.heap.size w wr) (fun i _ => L.length - (intOf i).toNat)
  case atStart => exact ⟨0, rfl, Nat.zero_le _, Below.refl _ _⟩
  case round =>
    obtain ⟨k, rfl, hk, hb⟩ := hrel
    by_cases hlt : k < L.length
    · obtain ⟨b, off, rfl, hbs, hc⟩ := hA.at_ (by omega)
      obtain ⟨b', off', rfl, hbs', hc'⟩ := hB.at_ (by omega)
      have h1 := cell_keep (hc k hlt) hb
      have h2 := cell_keep (hc' k hlt) hb
      have hx : (nth L k != nth L k) = false := by simp
      clear hc hc'
      go_wp2_with fail
      (refine wp_region_after (by kernel_rfl) (by kernel_rfl) ?_; have q_h1 := fun (x : After _) => cell_keep h1 x.bel; have q_h2 := fun (x : After _) => cell_keep h2 x.bel; (repeat (go_big_quiet_step (fail))); clear q_h1; clear q_h2; refine wpQuiet_nil ?_; rintro _ ⟨⟨w1, hbn⟩, rfl⟩; (try simp only [After.w]); replace h1 := cell_keep h1 hbn; replace h2 := cell_keep h2 hbn; replace hb := bel_to (w := w) (by first | exact hb | exact hb.alloc hb.size _ | exact (hb.alloc hb.size _).alloc (Nat.le_trans hb.size (by simp)) _ | exact hb.setCell (by simp [hb.size]) _) hbn; clear hbn)
      go_wp2
      go_roundw
      case rel => exact ⟨k + 1, by go_num, by omega, hb⟩
      case measure => simp [intOf]; omega
    · have hkk : k = L.length := by omega
      have HK : Hid (k = L.length) := hkk
      clear hkk
      go_wp2
      go_ret
      exact ⟨rfl, hb⟩
theorem c_lawHas (oa) (ca : Nat) (L : List Int) (x : Int) (w : World) (hA : IntsAt w oa L) (hx : x ∈ L) :
    Ans Try.prog 42 #[.slice oa L.length ca, .int .i64 x] w (.bool true) := by
  unfold Ans
  have hn : L.length ≤ 1073741824 := hA.len
  obtain ⟨j0, hj0⟩ := List.mem_iff_getElem?.1 hx
  have hjl : j0 < L.length := (List.getElem?_eq_some_iff.1 hj0).1
  have HJ : Hid (nth L j0 = x) := by rw [nth_eq hjl] at hj0; exact Option.some.inj hj0
  clear hj0 hx
  go_enter Try.func42, Try.ntmps42
  go_wp2
  go_loopw [5] (fun i wr => ∃ k : Nat, i = .int .i64 k ∧ k ≤ j0 ∧ Below w.heap.size w wr) (fun i _ => L.length - (intOf i).toNat)
  case atStart => exact ⟨0, rfl, Nat.zero_le _, Below.refl _ _⟩
  case round =>
    obtain ⟨k, rfl, hk, hb⟩ := hrel
    have hlt : k < L.length := by omega
    obtain ⟨b, off, rfl, hbs, hc⟩ := hA.at_ (by omega)
    have h1 := cell_keep (hc k hlt) hb
    clear hc
    have HN : Hid (nth L k ≠ x → k < j0) := fun h => by
      have h2 := HJ.out
      rcases Nat.lt_or_ge k j0 with h' | h'
      · exact h'
      · have : k = j0 := by omega
        subst this; exact absurd h2 h
    generalize nth L k = y at *
    by_cases hy : y = x
    · go_wp2
      go_ret
      exact ⟨rfl, hb⟩
    · have hk2 := HN.out hy
      go_wp2
      go_roundw
      case rel => exact ⟨k + 1, by go_num, by omega, hb⟩
      case measure => simp [intOf]; omega
end Go.Proofs.Ytjbmpnbfiahdhaa
namespace Go.Proofs.Ytjbmpnbfiahdhaa
open Go.RowKit
set_option linter.unusedVariables false
set_option maxRecDepth 100000

theorem bel_world {B : Nat} {w0 w : World} (h : Below B w0 w) : ∃ w', w' = w := ⟨w, rfl⟩
theorem OwnRows.capLe {w : World} {B n c : Nat} {o : Option Addr} {xs : List Value} {R : List (List Int)} (h : OwnRows w B (.slice o n c) xs R) : R.length ≤ c := by
  rcases h.outer.2 with ⟨hv, h0⟩ | ⟨g, cap, cur, hv, hb, hg, hl, _⟩
  · have := h.len; cases hv; omega
  · have := h.len; cases hv; omega
theorem any_take_succ (p : Int → Bool) (L : List Int) (k : Nat) (hk : k < L.length) : (L.take (k + 1)).any p = ((L.take k).any p || p (nth L k)) := by
  rw [List.take_add_one, nth_eq hk]; simp
set_option maxHeartbeats 100000000 in
theorem w_FnKeys (w : World) {v0 : Value} (w0 : InBytes w v0) :
    Calls Try.prog 9 #[v0] w fun e w' => e = .returned (.bool true) ∧ Below w.heap.size w w' := by
  obtain ⟨oc, mc, capc, rfl, hmm, hB⟩ := w0
  have hb := Below.refl w.heap.size w
  by_cases hbig : (1048576 : Int) < mc
  · go_enter Try.func9, Try.ntmps9
    go_wp2_with fail
    refine Calls.mono (Ans.eqb (b' := true) (c_big _ _ _ _) (by simpa using hbig)) ?_
    rintro e w1 ⟨rfl, hbn⟩
    replace hb := bel_to hb hbn
    go_wp2
    go_ret
    exact ⟨rfl, hb⟩
  have hmc : mc ≤ 1048576 := by omega
  go_enter Try.func9, Try.ntmps9
  go_wp2_with fail
  refine Calls.mono (Ans.eqb (b' := false) (c_big _ _ _ _) (by simp only [decide_eq_false_iff_not]; omega)) ?_
  rintro e w1 ⟨rfl, hbn⟩
  replace hB := hB.keep hbn
  replace hb := bel_to hb hbn
  clear hbn
  clear hbig
  go_wp2_with fail
  have H := c_DrawMinimalKeys oc mc capc hmc _ hB
  unfold DrawsTab at H
  refine H.mono ?_
  clear H
  rintro e w2 ⟨n, m, o, c, xs, R, rfl, hO, ⟨hOl, hOlen⟩, hbn⟩
  replace hB := hB.keep hbn
  replace hb := bel_to hb hbn
  clear hbn
  have hOR : R.length ≤ Room := by unfold Room; omega
  have HOr : Hid (∀ j, j < R.length → (row R j).length ≤ Room) := fun j hj => Nat.le_trans (hOlen j hj) (by unfold Room; omega)
  clear hOlen
  have k3 := Blk.new w2 #[.int .i64 n, .slice o R.length c] 26
  have hbn := (Below.refl w2.heap.size w2).alloc (Nat.le_refl _) (.cells #[.int .i64 n, .slice o R.length c] 26)
  replace hB := hB.keep hbn
  replace hO := hO.keep hbn
  replace hb := bel_to hb hbn
  clear hbn
  have hcap := hO.capLe
  have n0 := k3.cell 0 (.int .i64 n) rfl
  have n1 := k3.cell 1 (.slice o R.length c) rfl
  go_wp2_with fail
  refine (c_MinimalKeys n o c R m _ (hO.read hOR HOr.out)).mono ?_
  rintro e w3 ⟨v5, rfl, hL, hbn⟩
  replace hB := hB.keep hbn
  replace hO := hO.keep hbn
  replace k3 := k3.keep hbn
  replace hb := bel_to hb hbn
  clear hbn
  clear n0 n1
  have n0 := k3.cell 0 (.int .i64 n) rfl
  have n1 := k3.cell 1 (.slice o R.length c) rfl
  obtain ⟨oL, cL, rfl⟩ := hL.shape
  have hKL := mkeys_len n R m
  have HKT : Hid (keysTF n R m = mkeysF n R m) := (mkeys_trans n R m).symm
  have HCV : Hid (isTabF n R = true → modeF m = true → ∀ x, 0 ≤ x → x < 2 ^ n.toNat → uniqF n R m x = ((mkeysF n R m).any fun k => bits BinOp.and .i64 k x == k)) := fun h1 h2 x h3 h4 => (keys_covered h1 h2 h3 h4).symm
  generalize hkk : mkeysF n R m = K at *
  have HK : Hid (mkeysF n R m = K) := hkk
  clear hkk
  have hK9 : K.length ≤ 1073741824 := hKL
  go_wp2_with fail
  refine (c_specMinimalKeys n o c R m _ (hO.read hOR HOr.out)).mono ?_
  rintro e w4 ⟨v6, rfl, hY, hbn⟩
  rw [HK.out] at hY
  obtain ⟨oY, cY, rfl⟩ := hY.shape
  replace hB := hB.keep hbn
  replace hO := hO.keep hbn
  replace k3 := k3.keep hbn
  replace hL := hL.keep hbn
  replace hb := bel_to hb hbn
  clear hbn
  clear n0 n1
  have n0 := k3.cell 0 (.int .i64 n) rfl
  have n1 := k3.cell 1 (.slice o R.length c) rfl
  go_wp2_with fail
  refine Calls.mono (c_lawSameInts oL oY cL cY K _ (hL.ints rfl hKL) (hY.ints rfl hKL)) ?_
  rintro e w5 ⟨rfl, hbn⟩
  clear hY
  replace hB := hB.keep hbn
  replace hO := hO.keep hbn
  replace k3 := k3.keep hbn
  replace hL := hL.keep hbn
  replace hb := bel_to hb hbn
  clear hbn
  clear n0 n1
  have n0 := k3.cell 0 (.int .i64 n) rfl
  have n1 := k3.cell 1 (.slice o R.length c) rfl
  go_wp2_with fail
  refine (c_KeysByTransversals n o c R m _ (hO.read hOR HOr.out) hcap).mono ?_
  rintro e w6 ⟨v7, rfl, hY, hbn⟩
  rw [HKT.out] at hY
  obtain ⟨oY, cY, rfl⟩ := hY.shape
  replace hB := hB.keep hbn
  replace hO := hO.keep hbn
  replace k3 := k3.keep hbn
  replace hL := hL.keep hbn
  replace hb := bel_to hb hbn
  clear hbn
  clear n0 n1
  have n0 := k3.cell 0 (.int .i64 n) rfl
  have n1 := k3.cell 1 (.slice o R.length c) rfl
  go_wp2_with fail
  refine Calls.mono (c_lawSameInts oY oL cY cL K _ (hY.ints rfl hKL) (hL.ints rfl hKL)) ?_
  rintro e w7 ⟨rfl, hbn⟩
  clear hY
  replace hB := hB.keep hbn
  replace hO := hO.keep hbn
  replace k3 := k3.keep hbn
  replace hL := hL.keep hbn
  replace hb := bel_to hb hbn
  clear hbn
  clear n0 n1
  go_wp2_with fail
  go_loopw [6] (fun v wr => ∃ k : Nat, v = .int .i64 k ∧ k ≤ 32 ∧ Below w7.heap.size w7 wr) (fun v _ => 32 - (intOf v).toNat)
  case atStart => exact ⟨0, rfl, Nat.zero_le _, Below.refl _ _⟩
  case round =>
    obtain ⟨k, rfl, hk, hbn⟩ := hrel
    have hbo := hbn
    replace hB := hB.keep hbn
    replace hO := hO.keep hbn
    replace k3 := k3.keep hbn
    replace hL := hL.keep hbn
    replace hb := bel_to hb hbn
    clear hbn
    obtain ⟨w8, hwq⟩ := bel_world hb
    subst hwq
    obtain ⟨g, HG⟩ : ∃ g, Hid (((isTabF n R && modeF m) && decide ((k : Int) < 2 ^ n.toNat)) = g) := ⟨_, rfl⟩
    go_upto_region 8 with fail
    have hd := hO.read hOR HOr.out
    go_cut [52] from 36 to 52 (fun x wx => x = .bool g ∧ Below w8.heap.size w8 wx)
    case first =>
      have hbw := Below.refl w8.heap.size w8
      have n0 := k3.cell 0 (.int .i64 n) rfl
      have n1 := k3.cell 1 (.slice o R.length c) rfl
      cases ht : isTabF n R
      · obtain rfl : g = false := by rw [← HG.out, ht]; rfl
        go_wp2_with (first | (go_at_call 76; refine Calls.mono (Ans.eqb (c_specIsTable n o c R _ (hd.keep hbw)) ht) ?_; rintro e wz ⟨rfl, hbn⟩; replace n0 := cell_keep n0 hbn; replace n1 := cell_keep n1 hbn; replace hbw := bel_to hbw hbn; clear hbn) | fail)
        go_meet
        exact ⟨rfl, hbw⟩
      · obtain ⟨hn1, hn5, _, _⟩ := isTab_of ht
        have hpw := pow_wrap (n := n) (by omega) hn5
        have hp1 := hpw.1
        have hp2 := hpw.2.1
        have hp3 := hpw.2.2
        clear hpw
        have hn64 : 0 ≤ n ∧ n < 64 := ⟨by omega, by omega⟩
        by_cases hm0 : 0 ≤ m
        · by_cases hm1 : m ≤ 1
          · obtain rfl : g = decide ((k : Int) < 2 ^ n.toNat) := by rw [← HG.out, ht, show modeF m = true by unfold modeF; simp; omega]; rfl
            go_wp2_with (first | (go_at_call 76; refine Calls.mono (Ans.eqb (c_specIsTable n o c R _ (hd.keep hbw)) ht) ?_; rintro e wz ⟨rfl, hbn⟩; replace n0 := cell_keep n0 hbn; replace n1 := cell_keep n1 hbn; replace hbw := bel_to hbw hbn; clear hbn) | fail)
            all_goals
              go_meet
              exact ⟨by first | rfl | simp | (congr 1; simp; omega), hbw⟩
          · obtain rfl : g = false := by rw [← HG.out, ht, show modeF m = false by unfold modeF; simp; omega]; rfl
            go_wp2_with (first | (go_at_call 76; refine Calls.mono (Ans.eqb (c_specIsTable n o c R _ (hd.keep hbw)) ht) ?_; rintro e wz ⟨rfl, hbn⟩; replace n0 := cell_keep n0 hbn; replace n1 := cell_keep n1 hbn; replace hbw := bel_to hbw hbn; clear hbn) | fail)
            go_meet
            exact ⟨by first | rfl | (congr 1; simp; omega), hbw⟩
        · obtain rfl : g = false := by rw [← HG.out, ht, show modeF m = false by unfold modeF; simp; omega]; rfl
          go_wp2_with (first | (go_at_call 76; refine Calls.mono (Ans.eqb (c_specIsTable n o c R _ (hd.keep hbw)) ht) ?_; rintro e wz ⟨rfl, hbn⟩; replace n0 := cell_keep n0 hbn; replace n1 := cell_keep n1 hbn; replace hbw := bel_to hbw hbn; clear hbn) | fail)
          go_meet
          exact ⟨by first | rfl | (congr 1; simp; omega), hbw⟩
    case rest =>
      obtain ⟨rfl, hbn⟩ := hcut
      clear hd
      replace hB := hB.keep hbn
      replace hO := hO.keep hbn
      replace k3 := k3.keep hbn
      replace hL := hL.keep hbn
      replace hbo := bel_to hbo hbn
      replace hb := bel_to hb hbn
      clear hbn
      obtain ⟨w9, hwq⟩ := bel_world hb
      subst hwq
      cases g
      · clear hbo HG
        go_wp2_with fail
        have H := c_DrawIsUnique oc mc capc hmc _ hB
        unfold DrawsTabX at H
        refine H.mono ?_
        clear H
        rintro e w20 ⟨n2, m2, o2, c2, xs2, R2, x2, rfl, hP, ⟨hPl, hPlen⟩, hbn⟩
        replace hB := hB.keep hbn
        replace hO := hO.keep hbn
        replace k3 := k3.keep hbn
        replace hL := hL.keep hbn
        replace hb := bel_to hb hbn
        clear hbn
        have hPR : R2.length ≤ Room := by unfold Room; omega
        have HPr : Hid (∀ j, j < R2.length → (row R2 j).length ≤ Room) := fun j hj => Nat.le_trans (hPlen j hj) (by unfold Room; omega)
        clear hPlen
        have k9 := Blk.new w20 #[.int .i64 n2, .slice o2 R2.length c2] 26
        have hbn := (Below.refl w20.heap.size w20).alloc (Nat.le_refl _) (.cells #[.int .i64 n2, .slice o2 R2.length c2] 26)
        replace hB := hB.keep hbn
        replace hO := hO.keep hbn
        replace k3 := k3.keep hbn
        replace hL := hL.keep hbn
        replace hP := hP.keep hbn
        replace hb := bel_to hb hbn
        clear hbn
        obtain ⟨u, HU⟩ : ∃ u, Hid (uniqF n2 R2 m2 x2 = u) := ⟨_, rfl⟩
        have huu : (u == u) = true := by simp
        have hd2 := hP.read hPR HPr.out
        have p0 := k9.cell 0 (.int .i64 n2) rfl
        have p1 := k9.cell 1 (.slice o2 R2.length c2) rfl
        clear hB hO k3 hL hP k9
        go_wp2_with fail
        (refine wp_region_after (by kernel_rfl) (by kernel_rfl) ?_; have q_p0 := fun (x : After _) => cell_keep p0 x.bel; have q_p1 := fun (x : After _) => cell_keep p1 x.bel; (repeat (go_big_quiet_step ((first | (go_at_call 77; exact Ans.after (Ans.eqb (c_IsUnique n2 o2 c2 R2 m2 x2 _ (hd2.keep (After.bel _))) HU.out)) | (go_at_call 79; exact Ans.after (Ans.eqb (c_specIsUnique n2 o2 c2 R2 m2 x2 _ (hd2.keep (After.bel _))) HU.out)))))); clear q_p0; clear q_p1; refine wpQuiet_nil ?_; rintro _ ⟨⟨w1, hbn⟩, rfl⟩; (try simp only [After.w]); replace p0 := cell_keep p0 hbn; replace p1 := cell_keep p1 hbn; replace hb := bel_to (w := w) (by first | exact hb | exact hb.alloc hb.size _ | exact (hb.alloc hb.size _).alloc (Nat.le_trans hb.size (by simp)) _ | exact hb.setCell (by simp [hb.size]) _) hbn; clear hbn)
        go_wp2
        go_ret
        exact ⟨rfl, hb⟩
      · have hgg : isTabF n R = true ∧ modeF m = true ∧ (k : Int) < 2 ^ n.toNat := by have := HG.out; rw [Bool.and_eq_true, Bool.and_eq_true, decide_eq_true_eq] at this; exact ⟨this.1.1, this.1.2, this.2⟩
        clear HG
        obtain ⟨hn1, hn5, _, _⟩ := isTab_of hgg.1
        have hk32 : k < 32 := by have := (pow_nat (n := n) (by omega) hn5); have := hgg.2.2; omega
        have HUX := (show Hid _ from HCV.out hgg.1 hgg.2.1 k (by omega) hgg.2.2)
        clear hgg hn1 hn5
        go_wp2_with fail
        go_loopw [7, 8] (fun cv v wr => ∃ j : Nat, v = .int .i64 j ∧ j ≤ K.length ∧ cv = .bool ((K.take j).any fun y => bits BinOp.and .i64 y k == y) ∧ Below w9.heap.size w9 wr) (fun _ v _ => K.length - (intOf v).toNat)
        case atStart => exact ⟨0, rfl, Nat.zero_le _, by simp, Below.refl _ _⟩
        case round =>
          obtain ⟨j, rfl, hj, rfl, hbn⟩ := hrel
          have hbi := hbn
          replace hB := hB.keep hbn
          replace hO := hO.keep hbn
          replace k3 := k3.keep hbn
          replace hL := hL.keep hbn
          replace hbo := bel_to hbo hbn
          replace hb := bel_to hb hbn
          clear hbn
          obtain ⟨w10, hwq⟩ := bel_world hb
          subst hwq
          by_cases hjk : j < K.length
          · obtain ⟨b, off, e', hbs, hcell⟩ := (hL.ints rfl hKL).at_ (by omega)
            subst e'
            have hc1 := hcell j hjk
            clear hcell hbs
            have HN := (show Hid _ from any_take_succ (fun y => bits BinOp.and .i64 y (k : Int) == y) K j hjk)
            generalize hbb : ((K.take j).any fun y => bits BinOp.and .i64 y k == y) = bb at *
            have HBB : Hid (((K.take j).any fun y => bits BinOp.and .i64 y k == y) = bb) := hbb
            clear hbb
            generalize nth K j = x at *
            cases bb
            · go_wp2_with fail
              (refine wp_region_after (by kernel_rfl) (by kernel_rfl) ?_; have q_hc1 := fun (x : After _) => cell_keep hc1 x.bel; (repeat (go_big_quiet_step (fail))); clear q_hc1; refine wpQuiet_nil ?_; rintro _ ⟨⟨w1, hbn⟩, rfl⟩; (try simp only [After.w]); replace hc1 := cell_keep hc1 hbn; replace hB := hB.keep hbn; replace hO := hO.keep hbn; replace k3 := k3.keep hbn; replace hL := hL.keep hbn; replace hbo := bel_to hbo hbn; replace hbi := bel_to hbi hbn; replace hb := bel_to (w := w) (by first | exact hb | exact hb.alloc hb.size _ | exact (hb.alloc hb.size _).alloc (Nat.le_trans hb.size (by simp)) _ | exact hb.setCell (by simp [hb.size]) _) hbn; clear hbn)
              go_wp2
              go_roundw
              case rel => exact ⟨j + 1, by go_num, by omega, by rw [HN.out]; rfl, hbi⟩
              case measure => simp [intOf]; omega
            · go_wp2_with fail
              (refine wp_region_after (by kernel_rfl) (by kernel_rfl) ?_; have q_hc1 := fun (x : After _) => cell_keep hc1 x.bel; (repeat (go_big_quiet_step (fail))); clear q_hc1; refine wpQuiet_nil ?_; rintro _ ⟨⟨w1, hbn⟩, rfl⟩; (try simp only [After.w]); replace hc1 := cell_keep hc1 hbn; replace hB := hB.keep hbn; replace hO := hO.keep hbn; replace k3 := k3.keep hbn; replace hL := hL.keep hbn; replace hbo := bel_to hbo hbn; replace hbi := bel_to hbi hbn; replace hb := bel_to (w := w) (by first | exact hb | exact hb.alloc hb.size _ | exact (hb.alloc hb.size _).alloc (Nat.le_trans hb.size (by simp)) _ | exact hb.setCell (by simp [hb.size]) _) hbn; clear hbn)
              go_wp2
              go_roundw
              case rel => exact ⟨j + 1, by go_num, by omega, by rw [HN.out]; rfl, hbi⟩
              case measure => simp [intOf]; omega
          · have hjj : j = K.length := by omega
            have HJ : Hid (uniqF n R m k = ((K.take j).any fun y => bits BinOp.and .i64 y k == y)) := by show _ = _; rw [HUX.out, hjj, List.take_length]
            clear hjj
            generalize ((K.take j).any fun y => bits BinOp.and .i64 y k == y) = bb at *
            have hbb : (bb != bb) = false := by simp
            have n0 := k3.cell 0 (.int .i64 n) rfl
            have n1 := k3.cell 1 (.slice o R.length c) rfl
            go_wp2_with fail
            refine Calls.mono (Ans.eqb (c_IsUnique n o c R m k _ (hO.read hOR HOr.out)) HJ.out) ?_
            rintro e w11 ⟨rfl, hbn⟩
            clear n0 n1
            replace hB := hB.keep hbn
            replace hO := hO.keep hbn
            replace k3 := k3.keep hbn
            replace hL := hL.keep hbn
            replace hbo := bel_to hbo hbn
            replace hbi := bel_to hbi hbn
            replace hb := bel_to hb hbn
            clear hbn
            go_wp2
            go_roundw
            case rel => exact ⟨k + 1, by go_num, by omega, hbo⟩
            case measure => simp [intOf]; omega
end Go.Proofs.Ytjbmpnbfiahdhaa
