/- Contracts and lemmas for FnExactRunSearch, part 5 of 5. -/
import Derived.Test.YtjbmpnbfiahdhaaQRunSearch1
import Derived.Test.YtjbmpnbfiahdhaaQRunSearch2
import Derived.Test.YtjbmpnbfiahdhaaQRunSearch3
import Derived.Test.YtjbmpnbfiahdhaaQRunSearch4
import Derived.Deep.CutRange
import Derived.Deep.RegionLaw
namespace Go.Proofs.Ytjbmpnbfiahdhaa
open Go.RowKit
set_option linter.unusedVariables false
set_option maxRecDepth 100000

theorem step_append_none {P : Program} (w : World) {ops : Array Oper} {o : Oper} {a : Act} {K : Act → World → Prop} {Q : Exit → Act → World → Prop} {E : Prop} (hgd : o.guard = none) (s x : Operand) (t : TypeId)
    (ho : o.op = .call { callee := .builtin .append, args := #[s, x], argTypes := #[t, t] })
    (base : Nat) (e : TypeId) (i : TypeInfo) (size : Nat) (ht : P.underlying t = some (.slice e)) (hi : P.info? e = some i)
    (v : Value) (n : Nat) (xs : List Value) (hs : a.eval s = v) (hown : w.ownsRow base e size v n xs) (hx : a.eval x = .slice none 0 0)
    (h : K (a.put o.dst v) w) : if Region.wanted o (yielded ops a.tmps) = true then Oper.wp P o a w K Q else E := by
  have hw : Region.wanted o (yielded ops a.tmps) = true := by simp [Region.wanted, hgd]
  rw [if_pos hw]
  have hrun := run_append_owned_none (P := P) (w := w) base t o.type e i size ht hi v n xs hown
  unfold Oper.wp
  simp [execOp, ho, resolve, invoke, builtin, hs, hx, hrun, Result.andThen]
  exact h
theorem avoid_none (k : Nat) : Avoid k (.slice none 0 0) [] := fun y hy e => by
  rcases hy with rfl | hy
  · cases e
  · cases hy
/-- What holds before row k is copied. -/
def CpI (n : Int) (va : Value) (R : List (List Int)) (w : World) (k : Nat) (wr : World) : Prop := ∃ (o : Option Addr) (c : Nat) (xs : List Value), Blk wr (w.heap.size + 2) #[.int .i64 n, .slice o k c] 26 ∧ OwnRows wr (w.heap.size + 2) (.slice o k c) xs (R.take k) ∧ Avoid (w.heap.size + 2) (.slice o k c) xs ∧ Blk wr w.heap.size #[.int .i64 n, va] 26 ∧ Blk wr (w.heap.size + 1) #[.int .i64 0, .slice none 0 0] 26 ∧ Below w.heap.size w wr
theorem CpI.next {n : Int} {va : Value} {R : List (List Int)} {w wr : World} {k : Nat} {o : Option Addr} {c : Nat} {xs : List Value} {P : List (List Int)} {C : List Int} (hS : R.take (k + 1) = P ++ [C]) (hP : P.length = k) (h1 : Blk wr (w.heap.size + 2) #[.int .i64 n, .slice o (P.length + 1) c] 26) (h2 : OwnRows wr (w.heap.size + 2) (.slice o (P.length + 1) c) xs (P ++ [C])) (h3 : Avoid (w.heap.size + 2) (.slice o (P.length + 1) c) xs) (h4 : Blk wr w.heap.size #[.int .i64 n, va] 26) (h5 : Blk wr (w.heap.size + 1) #[.int .i64 0, .slice none 0 0] 26) (h6 : Below w.heap.size w wr) : CpI n va R w (k + 1) wr := by
  unfold CpI
  rw [hS]
  rw [hP] at h1 h2 h3
  exact ⟨o, c, xs, h1, h2, h3, h4, h5, h6⟩
set_option maxHeartbeats 3200000 in
theorem c_l3Copy (n : Int) (oa) (ca : Nat) (R : List (List Int)) (w : World) (hR : RowsC w oa R) (hRl : R.length ≤ 1048576) (hRr : ∀ j, j < R.length → (row R j).length ≤ 1048576) :
    Calls Try.prog 90 #[.agg #[.int .i64 n, .slice oa R.length ca]] w fun e w' => ∃ o c xs, e = .returned (.agg #[.int .i64 n, .slice o R.length c]) ∧ OwnRows w' w.heap.size (.slice o R.length c) xs R ∧ Below w.heap.size w w' := by
  obtain ⟨i0, hi, hz0, hz1, hz2⟩ := info_parts info_int
  obtain ⟨j0, hj, hy0, hy1, hy2⟩ := info_parts info_ints
  have hb := (bel2 w (.cells #[.int .i64 n, .slice oa R.length ca] 26) (.cells #[.int .i64 0, .slice none 0 0] 26)).alloc (by simp; omega) (.cells #[.int .i64 n, .slice none 0 0] 26)
  have kA := ((Blk.new w #[.int .i64 n, .slice oa R.length ca] 26).alloc (.cells #[.int .i64 0, .slice none 0 0] 26)).alloc (.cells #[.int .i64 n, .slice none 0 0] 26)
  have kZ := (Blk.new (w.alloc (.cells #[.int .i64 n, .slice oa R.length ca] 26)) #[.int .i64 0, .slice none 0 0] 26).alloc (.cells #[.int .i64 n, .slice none 0 0] 26)
  have kT := Blk.new ((w.alloc (.cells #[.int .i64 n, .slice oa R.length ca] 26)).alloc (.cells #[.int .i64 0, .slice none 0 0] 26)) #[.int .i64 n, .slice none 0 0] 26
  simp only [World.size_alloc] at kZ kT
  have HR : Hid (RowsC w oa R) := hR
  have HRr : Hid (∀ j, j < R.length → (row R j).length ≤ 1048576) := hRr
  clear hR hRr
  have a0 := two_a w #[.int .i64 n, .slice oa R.length ca] 26 #[.int .i64 0, .slice none 0 0] 26 0 (.int .i64 n) rfl
  go_enter Try.func90, Try.ntmps90
  go_wp2_with fail
  go_loopw [4] (fun i wr => ∃ k : Nat, i = .int .i64 k ∧ k ≤ R.length ∧ CpI n (.slice oa R.length ca) R w k wr) (fun i _ => R.length - (intOf i).toNat)
  case atStart => exact ⟨0, rfl, Nat.zero_le _, none, 0, [], kT, OwnRows.none _ _, avoid_none _, kA, kZ, hb⟩
  case round =>
    clear kT kA kZ hb a0
    obtain ⟨k, rfl, hk, o, c, xs, kT, hO, av, kA, kZ, hb⟩ := hrel
    have a1 := kA.cell 1 (.slice oa R.length ca) rfl
    by_cases hlt : k < R.length
    · obtain ⟨b, off, rfl, hbs, hc⟩ := HR.out.1.at_ (by omega)
      obtain ⟨ob, cb, h1, r1⟩ := hc k hlt
      have hnil := HR.out.2 b off rfl k hlt ob _ cb h1
      have HT : Hid (R.take (k + 1) = R.take k ++ [row R k]) := take_row hlt
      have hLl := HRr.out k hlt
      have hc1 := cell_keep h1 hb
      have hrow := r1.keep hb
      have hPl : (R.take k).length = k := by rw [List.length_take]; omega
      have hxl := hO.len
      rw [hPl] at hxl
      have HPl : Hid ((R.take k).length = k) := hPl
      clear hc h1 r1 hPl
      generalize row R k = L at *
      generalize R.take k = P at *
      go_upto_region 5 with fail
      have hkt := kT.lt
      have hbe := (Below.refl wr.heap.size wr).alloc (Nat.le_refl _) (.cells #[] 3)
      have a1d := kA.drew.cell 1 (.slice (some ⟨b, off, none⟩) R.length ca) rfl
      have a1e := (kA.keep hbe).drew.cell 1 (.slice (some ⟨b, off, none⟩) R.length ca) rfl
      have hc1d := cell_keep hc1 (Below.refl _ _).drew
      have hc1e := cell_keep hc1 hbe.drew
      have q1d := kT.drew.cell 1 (.slice o k c) rfl
      have q1e := (kT.keep hbe).drew.cell 1 (.slice o k c) rfl
      have hE := OwnI.empty wr wr.heap.size (Nat.le_refl _)
      rcases ob with _ | ⟨b', off', sp'⟩
      · have hcb : cb = 0 := hnil rfl
        have hL0 : L = [] := by
          rcases Nat.eq_zero_or_pos L.length with h | h
          · exact List.eq_nil_of_length_eq_zero h
          · obtain ⟨_, _, e, _⟩ := hrow.at_ h; cases e
        subst hcb hL0
        have kTe := kT.keep hbe
        have hOe := hO.keep hbe
        have q1f := fun cs T => (kTe.alloc (.cells cs T)).drew.cell 1 (.slice o k c) rfl
        go_region_law (first
          | (refine step_append_none _ (by rfl) _ _ 68 (by rfl) wr.heap.size 3 i0 1 Try.underlying68 hi (.slice (some ⟨wr.heap.size, 0, none⟩) 0 0) 0 [] (by rfl) hE (by rfl) ?_)
          | (rw [← HPl.out] at hOe kTe; refine step_append_held _ (by rfl) _ _ 24 (by rfl) (w.heap.size + 2) 68 j0 (.slice none 0 0) 1 24 Try.underlying24 hj hy0 hy1 hy2 rfl (by decide) (.slice o P.length c) _ _ (by first | rfl | (rw [HPl.out]; rfl)) (World.ownsRow.alloc hOe.outer _) _ 1 1 [.slice (some ⟨wr.heap.size, 0, none⟩) 0 0] (by rfl) rfl (World.news_of_block (cs := #[.slice (some ⟨wr.heap.size, 0, none⟩) 0 0]) (t := 68) (fr := (0, 0)) (by first | exact heap_two _ _ _ | exact heap_alloc_new _ _)) (by intro u hu; simp at hu; subst hu; rfl) (by unfold maxLen; omega) (by omega) (by have := hbe.size; simp; omega) ?_; intro v7 w7 hown _ hgrow hfr; obtain ⟨⟨o7, c7, rfl⟩, s7, t7, kT7, hO7, av7, hb7, hoth, hblk⟩ := tab_snoc (w := w) (C := []) (nC := 0) rfl hOe (hE.based (show w.heap.size + 2 ≤ _ by omega)) (by have hq := hO; rw [← HPl.out] at hq; exact hq.fresh hE) kTe (by rw [HPl.out]; exact av) (fun e => by have := (World.ownsRow.lt hE _ e).1; omega) (bel_to hb hbe) (show w.heap.size ≤ w.heap.size + 2 by omega) (show w.heap.size ≤ w.heap.size + 2 by omega) hown (drew_grown hgrow) (drew_fresh hfr); rw [HPl.out] at s7; clear hown hgrow hfr)
          | fail)
        all_goals
          have kA7 := hblk _ _ _ (kA.keep hbe) (show w.heap.size ≠ w.heap.size + 2 by omega) (fun e => by have := (World.ownsRow.lt hO.outer _ (by rw [← HPl.out]; exact e)).1; omega)
          have kZ7 := hblk _ _ _ (kZ.keep hbe) (show w.heap.size + 1 ≠ w.heap.size + 2 by omega) (fun e => by have := (World.ownsRow.lt hO.outer _ (by rw [← HPl.out]; exact e)).1; omega)
          have HN := (show Hid _ from CpI.next HT.out HPl.out kT7 hO7 av7 kA7 kZ7 hb7)
          clear kA7 kZ7 kT7 hO7 av7 hoth hblk hb7
          go_wp2
          go_roundw
          case rel => exact ⟨k + 1, by go_num, by omega, HN.out⟩
          case measure => simp [intOf]; omega
      · have HB : Hid (∀ j u, (L.map encI)[j]? = some u → (wr.alloc (.cells #[] 3)).drew.cell? ((⟨b', off', sp'⟩ : Addr).add j) = some u) := fun j u hu => (hrow.keep hbe.drew).cellsAny rfl j u hu
        go_region_law (first
          | (refine step_append_own _ (by rfl) _ _ 68 (by rfl) wr.heap.size 3 i0 (.int .i64 0) 1 8 Try.underlying68 hi hz0 hz1 hz2 rfl (by decide) (.slice (some ⟨wr.heap.size, 0, none⟩) 0 0) 0 [] (by rfl) hE ⟨b', off', sp'⟩ L.length _ (L.map encI) (by rfl) (by simp) HB.out (ones L) (by unfold maxLen; simp; omega) (by simp; omega) (by simp) ?_; intro v8 w8 hown hgrow; have hI8 : OwnI w8 wr.heap.size v8 L := (by unfold OwnI; simpa using hown); have hb8 := hbe.drew.grown hgrow (by simp) (fun g hg => (World.ownsRow.lt hE g hg).1); clear hown hgrow; obtain ⟨o8, c8, rfl⟩ := hI8.shape; have kT8 := kT.keep hb8; have hO8 := hO.keep hb8; have q8 := kT8.cell 1 (.slice o k c) rfl; have q8b := fun cs T => (kT8.alloc (.cells cs T)).cell 1 (.slice o k c) rfl)
          | (rw [← HPl.out] at hO8 kT8; refine step_append_held _ (by rfl) _ _ 24 (by rfl) (w.heap.size + 2) 68 j0 (.slice none 0 0) 1 24 Try.underlying24 hj hy0 hy1 hy2 rfl (by decide) (.slice o P.length c) _ _ (by first | rfl | (rw [HPl.out]; rfl)) (World.ownsRow.alloc hO8.outer _) _ 1 1 [.slice o8 L.length c8] (by rfl) rfl (World.news_of_block (cs := #[.slice o8 L.length c8]) (t := 68) (fr := (0, 0)) (by first | exact heap_two _ _ _ | exact heap_alloc_new _ _)) (by intro u hu; simp at hu; subst hu; rfl) (by unfold maxLen; omega) (by omega) (by have := hb8.size; simp; omega) ?_; intro v7 w7 hown _ hgrow hfr; obtain ⟨⟨o7, c7, rfl⟩, s7, t7, kT7, hO7, av7, hb7, hoth, hblk⟩ := tab_snoc (w := w) (C := L) (nC := L.length) rfl hO8 (hI8.based (show w.heap.size + 2 ≤ _ by omega)) (by have hq := hO; rw [← HPl.out] at hq; exact hq.fresh hI8) kT8 (by rw [HPl.out]; exact av) (fun e => by have := (World.ownsRow.lt hI8 _ e).1; omega) (bel_to hb hb8) (show w.heap.size ≤ w.heap.size + 2 by omega) (show w.heap.size ≤ w.heap.size + 2 by omega) hown (hgrow) (hfr); rw [HPl.out] at s7; clear hown hgrow hfr)
          | fail)
        all_goals
          have kA7 := hblk _ _ _ (kA.keep hb8) (show w.heap.size ≠ w.heap.size + 2 by omega) (fun e => by have := (World.ownsRow.lt hO.outer _ (by rw [← HPl.out]; exact e)).1; omega)
          have kZ7 := hblk _ _ _ (kZ.keep hb8) (show w.heap.size + 1 ≠ w.heap.size + 2 by omega) (fun e => by have := (World.ownsRow.lt hO.outer _ (by rw [← HPl.out]; exact e)).1; omega)
          have HN := (show Hid _ from CpI.next HT.out HPl.out kT7 hO7 av7 kA7 kZ7 hb7)
          clear kA7 kZ7 kT7 hO7 av7 hoth hblk hb7
          go_wp2
          go_roundw
          case rel => exact ⟨k + 1, by go_num, by omega, HN.out⟩
          case measure => simp [intOf]; omega
    · have hkk : k = R.length := by omega
      have HE : Hid (R.take k = R) := by show R.take k = R; rw [hkk, List.take_length]
      have HK : Hid (k = R.length) := hkk
      have r0 := kT.cell 0 (.int .i64 n) rfl
      have r1 := kT.cell 1 (.slice o k c) rfl
      have z0 := kZ.cell 0 (.int .i64 0) rfl
      have z1 := kZ.cell 1 (.slice none 0 0) rfl
      have f0 := kZ.free 0
      have f1 := kZ.free 1
      have k2 : Blk _ (w.heap.size + 1) #[.int .i64 n, .slice o k c] 26 := (kZ.set 0 (.int .i64 n)).set 1 (.slice o k c)
      have q0 := k2.cell 0 (.int .i64 n) rfl
      have q1 := k2.cell 1 (.slice o k c) rfl
      rw [HE.out] at hO
      clear hkk
      go_wp2
      refine bodyPost_ret (v := .agg #[.int .i64 n, .slice o k c]) (by simp only [results, Try.results90]; simp [go_sem, q0, q1]) rfl ?_
      rw [HK.out] at hO ⊢
      exact ⟨o, c, xs, rfl, ((hO.far_set 0 (.int .i64 n) (show w.heap.size + 1 < w.heap.size + 2 by omega)).far_set 1 (.slice o R.length c) (show w.heap.size + 1 < w.heap.size + 2 by omega)).based (by omega), bel_set2 hb (Nat.le_succ _) _ _⟩
end Go.Proofs.Ytjbmpnbfiahdhaa
namespace Go.Proofs.Ytjbmpnbfiahdhaa
open Go.RowKit
set_option linter.unusedVariables false
set_option maxRecDepth 100000

theorem OwnRows.farv {w w' : World} {B : Nat} {v u : Value} {xs : List Value} {R : List (List Int)} (h : OwnRows w B v xs R) (hg : w.grownBy w' u.ownBlock) (ha : ApartR v xs u) : OwnRows w' B v xs R := h.far hg ha
set_option maxHeartbeats 800000 in
theorem c_markSearch (A : Sr) (oa fa) (ca fca B : Nat) (xs : List Value) (k0 : Int) (w : World) (h : OwnRows w B (.slice oa A.R.length ca) xs A.R) (hD : OwnD w B (.slice fa A.F.length fca) A.F) (ap : ApartR (.slice oa A.R.length ca) xs (.slice fa A.F.length fca))
    (hR : A.R.length ≤ Room) (hF : A.F.length ≤ Room) (hk0 : 0 ≤ k0 ∧ k0 + sumL A.R A.R.length ≤ 1073741824) :
    Calls Try.prog 24 #[.agg #[.int .i64 A.n, .slice oa A.R.length ca, .int .i64 A.m, .int .i64 A.a, .slice fa A.F.length fca, .int .i64 A.t], .int .i64 k0] w fun e w' => e = .returned (.int .i64 (k0 + sumL A.R A.R.length + 2 * A.F.length)) ∧ OwnRows w' B (.slice oa A.R.length ca) xs (seqR k0 A.R) ∧ OwnD w' B (.slice fa A.F.length fca) (seqD (k0 + sumL A.R A.R.length) A.F.length) ∧ GrownMany w w' (.slice fa A.F.length fca :: xs) := by
  have hb := (Below.refl w.heap.size w).alloc (Nat.le_refl _) (.cells #[.int .i64 A.n, .slice oa A.R.length ca, .int .i64 A.m, .int .i64 A.a, .slice fa A.F.length fca, .int .i64 A.t] 39)
  have b4 := box_at w #[.int .i64 A.n, .slice oa A.R.length ca, .int .i64 A.m, .int .i64 A.a, .slice fa A.F.length fca, .int .i64 A.t] 39 4 _ rfl
  have hxs : ∀ y ∈ xs, y.ownBlock ≠ some w.heap.size := fun y hy e => by
    obtain ⟨j, _, o, c, _, h2, _⟩ := h.one hy
    have := (World.ownsRow.lt h2 _ e).2; omega
  have hfx : (Value.slice fa A.F.length fca).ownBlock ≠ some w.heap.size := fun e => by have := (World.ownsRow.lt hD _ e).2; omega
  have hk1 : 0 ≤ k0 + (sumL A.R A.R.length : Int) := by omega
  obtain ⟨n, R, m, a, F, t⟩ := A
  dsimp only at *
  have HG0 := GrownMany.of (vs := (.slice fa F.length fca :: xs)) hb
  replace h := h.keep hb
  replace hD := hD.keep hb
  go_enter Try.func24, Try.ntmps24
  go_wp2_with fail
  refine (c_markTable n oa ca B xs R k0 _ h hR hk0).mono ?_
  rintro e w1 ⟨rfl, hO, hg⟩
  have b4' : w1.cell? ⟨w.heap.size, 4, none⟩ = some (.slice fa F.length fca) := (World.cell?_of_block (hg.block w.heap.size (by simp) hxs)).trans b4
  replace hD := hD.many hg (fun y hy => (ap.2 y hy).symm)
  have HG1 := HG0.trans (⟨hg.os, hg.tape, hg.output, hg.size, fun k hk hy => hg.block k hk (fun y hy' => hy y (List.mem_cons_of_mem _ hy'))⟩ : GrownMany _ w1 (.slice fa F.length fca :: xs))
  clear hg h b4 HG0
  generalize hs : k0 + (sumL R R.length : Int) = k1 at *
  go_wp2_with fail
  refine (c_markDepS fa fca B F k1 ⟨hk1, hk0.2⟩ _ hF hD).mono ?_
  rintro e w2 ⟨rfl, hD2, hg⟩
  have HG2 := HG1.trans (GrownMany.one hg (List.mem_cons_self ..))
  have hO2 := hO.far hg ap
  clear hg hO hD HG1 b4'
  go_wp2
  go_ret
  subst hs
  exact ⟨rfl, hO2, hD2, HG2⟩
set_option maxHeartbeats 800000 in
theorem c_heldSearch (A : Sr) (oa fa) (ca fca : Nat) (k0 : Int) (w : World) (hR : RowsAt w oa (seqR k0 A.R)) (hF : DepsAt w fa (seqD (k0 + sumL A.R A.R.length) A.F.length)) (hk0 : 0 ≤ k0 ∧ k0 + sumL A.R A.R.length ≤ 1073741824) (hFl : A.F.length ≤ Room) :
    Ans Try.prog 25 #[.agg #[.int .i64 A.n, .slice oa A.R.length ca, .int .i64 A.m, .int .i64 A.a, .slice fa A.F.length fca, .int .i64 A.t], .int .i64 k0] w (.int .i64 (k0 + sumL A.R A.R.length + 2 * A.F.length)) := by
  unfold Ans
  have hb := (Below.refl w.heap.size w).alloc (Nat.le_refl _) (.cells #[.int .i64 A.n, .slice oa A.R.length ca, .int .i64 A.m, .int .i64 A.a, .slice fa A.F.length fca, .int .i64 A.t] 39)
  have b4 := box_at w #[.int .i64 A.n, .slice oa A.R.length ca, .int .i64 A.m, .int .i64 A.a, .slice fa A.F.length fca, .int .i64 A.t] 39 4 _ rfl
  have hk1 : 0 ≤ k0 + (sumL A.R A.R.length : Int) := by omega
  obtain ⟨n, R, m, a, F, t⟩ := A
  dsimp only at *
  have hF1 : F.length ≤ 1073741824 := hFl
  go_enter Try.func25, Try.ntmps25
  go_wp2_with fail
  refine Calls.mono (c_heldTable n oa ca R k0 _ (hR.keep hb) hk0) ?_
  rintro e w1 ⟨rfl, hbn⟩
  replace b4 := cell_keep b4 hbn
  replace hb := bel_to hb hbn
  clear hbn hR
  replace hk0 := hk0.2
  generalize hs : k0 + (sumL R R.length : Int) = k1 at *
  have hlt2 : decide (k1 < 0) = false := by simp; omega
  have hlt3 : decide (k1 + 2 * (F.length : Int) < 0) = false := by simp; omega
  go_wp2_with fail
  refine Calls.mono (c_heldDepS fa fca F.length k1 ⟨hk1, hk0⟩ _ (hF.keep hb)) ?_
  rintro e w2 ⟨rfl, hbn⟩
  replace hb := bel_to hb hbn
  clear hbn b4 hF
  go_wp2
  go_ret
  subst hs
  exact ⟨rfl, hb⟩
end Go.Proofs.Ytjbmpnbfiahdhaa
namespace Go.Proofs.Ytjbmpnbfiahdhaa
open Go.RowKit
set_option linter.unusedVariables false
set_option maxRecDepth 100000

theorem owns_manyOld {w w' : World} {B size n S : Nat} {e : TypeId} {v : Value} {xs vs : List Value} (h : w.ownsRow B e size v n xs) (hg : GrownMany w w' vs) (hl : ∀ y ∈ vs, ∀ g, y.ownBlock = some g → S ≤ g) (ho : ∀ g, v.ownBlock = some g → g < S) : w'.ownsRow B e size v n xs :=
  owns_many h hg (fun y hy => by
    cases e : v.ownBlock with
    | none => exact .inl e
    | some g => exact .inr fun e' => by have := ho g e; have := hl y hy g (by rw [← e', e]); omega)
theorem owns_manyNew {w w' : World} {B size n S : Nat} {e : TypeId} {v : Value} {xs vs : List Value} (h : w.ownsRow B e size v n xs) (hg : GrownMany w w' vs) (hl : ∀ y ∈ vs, ∀ g, y.ownBlock = some g → g < S) (hS : S ≤ B) : w'.ownsRow B e size v n xs :=
  owns_many h hg (fun y hy => by
    cases e : v.ownBlock with
    | none => exact .inl e
    | some g => exact .inr fun e' => by have := (World.ownsRow.lt h g e).1; have := hl y hy g (by rw [← e', e]); omega)
theorem OwnD.manyOld {w w' : World} {B S : Nat} {v : Value} {D : List (Int × Int)} {vs : List Value} (h : OwnD w B v D) (hg : GrownMany w w' vs) (hl : ∀ y ∈ vs, ∀ g, y.ownBlock = some g → S ≤ g) (ho : ∀ g, v.ownBlock = some g → g < S) : OwnD w' B v D := owns_manyOld h hg hl ho
theorem OwnD.manyNew {w w' : World} {B S : Nat} {v : Value} {D : List (Int × Int)} {vs : List Value} (h : OwnD w B v D) (hg : GrownMany w w' vs) (hl : ∀ y ∈ vs, ∀ g, y.ownBlock = some g → g < S) (hS : S ≤ B) : OwnD w' B v D := owns_manyNew h hg hl hS
theorem ownRows_manyNew {w w' : World} {B S : Nat} {v : Value} {xs vs : List Value} {R : List (List Int)} (h : OwnRows w B v xs R) (hg : GrownMany w w' vs) (hl : ∀ y ∈ vs, ∀ g, y.ownBlock = some g → g < S) (hS : S ≤ B) : OwnRows w' B v xs R := by
  refine ⟨h.len, owns_manyNew h.outer hg hl hS, fun j hj => ?_, h.pair⟩
  obtain ⟨o, c, h1, h2, h3⟩ := h.rows j hj
  exact ⟨o, c, h1, owns_manyNew h2 hg hl hS, h3⟩
theorem low_cons {v : Value} {vs : List Value} {S : Nat} (h : ∀ g, v.ownBlock = some g → S ≤ g) (h' : ∀ y ∈ vs, ∀ g, y.ownBlock = some g → S ≤ g) : ∀ y ∈ v :: vs, ∀ g, y.ownBlock = some g → S ≤ g := fun y hy g e => by
  rcases List.mem_cons.1 hy with rfl | hy
  · exact h g e
  · exact h' y hy g e
theorem hi_cons {v : Value} {vs : List Value} {S : Nat} (h : ∀ g, v.ownBlock = some g → g < S) (h' : ∀ y ∈ vs, ∀ g, y.ownBlock = some g → g < S) : ∀ y ∈ v :: vs, ∀ g, y.ownBlock = some g → g < S := fun y hy g e => by
  rcases List.mem_cons.1 hy with rfl | hy
  · exact h g e
  · exact h' y hy g e
def srA (A : Sr) (o : Option Addr) (c : Nat) (fo : Option Addr) (fc : Nat) : Array Value := #[.int .i64 A.n, .slice o A.R.length c, .int .i64 A.m, .int .i64 A.a, .slice fo A.F.length fc, .int .i64 A.t]
/-- A call that answers a search (and, where it says so, a bool beside it). -/
def SrRes (f : FuncId) (args : Array Value) (w : World) (A : Sr) (q : Value → Value) : Prop :=
  Calls Try.prog f args w fun e w' => ∃ o c fo fc xs, e = .returned (q (.agg #[.int .i64 A.n, .slice o A.R.length c, .int .i64 A.m, .int .i64 A.a, .slice fo A.F.length fc, .int .i64 A.t])) ∧ OwnRows w' w.heap.size (.slice o A.R.length c) xs A.R ∧ OwnD w' w.heap.size (.slice fo A.F.length fc) A.F ∧ ApartR (.slice o A.R.length c) xs (.slice fo A.F.length fc) ∧ Below w.heap.size w w'
end Go.Proofs.Ytjbmpnbfiahdhaa
namespace Go.Proofs.Ytjbmpnbfiahdhaa
open Go.RowKit
set_option linter.unusedVariables false
set_option maxRecDepth 100000

set_option maxHeartbeats 1600000 in
theorem c_copySearch (A : Sr) (oa fa) (ca fca : Nat) (w : World) (hR : RowsC w oa A.R) (hD : DepsAt w fa A.F) (hnil : fa = none → fca = 0) :
    SrRes 99 #[.agg #[.int .i64 A.n, .slice oa A.R.length ca, .int .i64 A.m, .int .i64 A.a, .slice fa A.F.length fca, .int .i64 A.t]] w A (fun v => v) := by
  unfold SrRes
  obtain ⟨n, R, m, a, F, t⟩ := A
  dsimp only at *
  have hb := bel2 w (.cells #[.int .i64 n, .slice oa R.length ca, .int .i64 m, .int .i64 a, .slice fa F.length fca, .int .i64 t] 39) (.cells srZ 39)
  have kA := (Blk.new w #[.int .i64 n, .slice oa R.length ca, .int .i64 m, .int .i64 a, .slice fa F.length fca, .int .i64 t] 39).alloc (.cells srZ 39)
  have kZ := Blk.new (w.alloc (.cells #[.int .i64 n, .slice oa R.length ca, .int .i64 m, .int .i64 a, .slice fa F.length fca, .int .i64 t] 39)) srZ 39
  simp only [World.size_alloc] at kZ
  unfold srZ at hb kA kZ
  have s0 := kA.cell 0 (.int .i64 n) rfl
  have s1 := kA.cell 1 (.slice oa R.length ca) rfl
  go_enter Try.func99, Try.ntmps99
  go_wp2_with fail
  refine (c_copyTable n oa ca R _ (hR.keep hb)).mono ?_
  rintro e w1 ⟨o, c, xs, rfl, hO, hbn⟩
  replace kA := kA.keep hbn
  replace kZ := kZ.keep hbn
  replace hb := bel_to hb hbn
  have hs1 : w.heap.size + 1 < w1.heap.size := kZ.lt
  clear hbn s0 s1
  simp only [World.size_alloc] at hO
  have s0 := kA.cell 0 (.int .i64 n) rfl
  have s1 := kA.cell 1 (.slice oa R.length ca) rfl
  have f0 := kA.free 0
  have f1 := kA.free 1
  have kA2 : Blk _ w.heap.size #[.int .i64 n, .slice o R.length c, .int .i64 m, .int .i64 a, .slice fa F.length fca, .int .i64 t] 39 := (kA.set 0 (.int .i64 n)).set 1 (.slice o R.length c)
  have kZ2 := (kZ.far ⟨w.heap.size, 0, none⟩ (.int .i64 n) (by simp)).far ⟨w.heap.size, 1, none⟩ (.slice o R.length c) (by simp)
  have hb2 := bel_set2 hb (Nat.le_refl _) (.int .i64 n) (.slice o R.length c)
  have hO2 := (hO.far_set 0 (.int .i64 n) (show w.heap.size < w.heap.size + 1 + 1 by omega)).far_set 1 (.slice o R.length c) (show w.heap.size < w.heap.size + 1 + 1 by omega)
  have s4 := kA2.cell 4 (.slice fa F.length fca) rfl
  have hsz : w.heap.size + 1 < ((w1.setCell ⟨w.heap.size, 0, none⟩ (.int .i64 n)).setCell ⟨w.heap.size, 1, none⟩ (.slice o R.length c)).heap.size := by simpa using hs1
  clear kA kZ hb hO
  go_wp2_with fail
  refine (c_copyDeps fa fca F _ (hD.keep hb2) hnil).mono ?_
  rintro e w3 ⟨v3, rfl, hF, hbn⟩
  have ap := hO2.fresh hF
  obtain ⟨o3, c3, rfl⟩ := hF.shape
  replace hF := hF.based (show w.heap.size + 2 ≤ _ by omega)
  replace kA := kA2.keep hbn
  replace kZ := kZ2.keep hbn
  replace hO := hO2.keep hbn
  replace hb := bel_to hb2 hbn
  clear hbn s0 s1 f0 f1 s4 kA2 kZ2 hO2 hb2 hsz
  have s4 := kA.cell 4 (.slice fa F.length fca) rfl
  have f4 := kA.free 4
  have kA2 : Blk _ w.heap.size #[.int .i64 n, .slice o R.length c, .int .i64 m, .int .i64 a, .slice o3 F.length c3, .int .i64 t] 39 := kA.set 4 (.slice o3 F.length c3)
  have kZ2 := kZ.far ⟨w.heap.size, 4, none⟩ (.slice o3 F.length c3) (by simp)
  have hb2 := Below.setCell (p := (⟨w.heap.size, 4, none⟩ : Addr)) hb (Nat.le_refl _) (.slice o3 F.length c3)
  have hO2 := hO.far_set 4 (.slice o3 F.length c3) (show w.heap.size < w.heap.size + 1 + 1 by omega)
  have hF2 := OwnD.far_set hF 4 (.slice o3 F.length c3) (show w.heap.size < w.heap.size + 2 by omega)
  have s0 := kA2.cell 0 (.int .i64 n) rfl
  have s1 := kA2.cell 1 (.slice o R.length c) rfl
  have s2 := kA2.cell 2 (.int .i64 m) rfl
  have s3 := kA2.cell 3 (.int .i64 a) rfl
  have s4' := kA2.cell 4 (.slice o3 F.length c3) rfl
  have s5 := kA2.cell 5 (.int .i64 t) rfl
  have z0 := kZ2.cell 0 (.int .i64 0) rfl
  have z1 := kZ2.cell 1 (.slice none 0 0) rfl
  have z2 := kZ2.cell 2 (.int .i64 0) rfl
  have z3 := kZ2.cell 3 (.int .i64 0) rfl
  have z4 := kZ2.cell 4 (.slice none 0 0) rfl
  have z5 := kZ2.cell 5 (.int .i64 0) rfl
  have g0 := kZ2.free 0
  have g1 := kZ2.free 1
  have g2 := kZ2.free 2
  have g3 := kZ2.free 3
  have g4 := kZ2.free 4
  have g5 := kZ2.free 5
  have k6 := kZ2.set6 (.int .i64 n) (.slice o R.length c) (.int .i64 m) (.int .i64 a) (.slice o3 F.length c3) (.int .i64 t)
  unfold set6 at k6
  have q0 := k6.cell 0 _ rfl
  have q1 := k6.cell 1 _ rfl
  have q2 := k6.cell 2 _ rfl
  have q3 := k6.cell 3 _ rfl
  have q4 := k6.cell 4 _ rfl
  have q5 := k6.cell 5 _ rfl
  go_wp2
  exact bodyPost_ret (v := .agg #[.int .i64 n, .slice o R.length c, .int .i64 m, .int .i64 a, .slice o3 F.length c3, .int .i64 t]) (by simp only [results, Try.results99]; simp [go_sem, q0, q1, q2, q3, q4, q5]) rfl
    ⟨o, c, o3, c3, xs, rfl, (hO2.far6 (show w.heap.size + 1 < w.heap.size + 1 + 1 by omega) _ _ _ _ _ _).based (by omega), (OwnD.set6 hF2 (fun e => by have := (World.ownsRow.lt hF2 _ e).1; omega) _ _ _ _ _ _).based (by omega), ap, bel_set6 hb2 (Nat.le_succ _) _ _ _ _ _ _⟩
/-- Where a search stands that stops at the last candidate or when its tests are used up. -/
def stopAt (R : List (List Int)) (m : Int) (N M : Nat) (b t0 : Int) : Nat → Nat → Nat
  | 0, k => k
  | f + 1, k => if decide (k < M) && decide ((repF R m N k).2 - t0 < b) then stopAt R m N M b t0 f (k + 1) else k
theorem stopAt_le {R : List (List Int)} {m : Int} {N M : Nat} {b t0 : Int} : ∀ f k, k ≤ M → stopAt R m N M b t0 f k ≤ M ∧ k ≤ stopAt R m N M b t0 f k
  | 0, k, h => ⟨h, Nat.le_refl _⟩
  | f + 1, k, h => by
    unfold stopAt
    split
    · next hh =>
      simp only [Bool.and_eq_true, decide_eq_true_eq] at hh
      have := stopAt_le (R := R) (m := m) (N := N) (M := M) (b := b) (t0 := t0) f (k + 1) (by omega)
      exact ⟨this.1, by omega⟩
    · exact ⟨h, Nat.le_refl _⟩
def stopF (A : Sr) (b : Int) : Nat := stopAt A.R A.m A.n.toNat (A.n.toNat * 2 ^ A.n.toNat) b A.t (A.n.toNat * 2 ^ A.n.toNat - A.a.toNat) A.a.toNat
def runSr (A : Sr) (b : Int) : Sr := if isSrF A then ⟨A.n, A.R, A.m, (stopF A b : Nat), (repF A.R A.m A.n.toNat (stopF A b)).1, (repF A.R A.m A.n.toNat (stopF A b)).2⟩ else A
theorem apartR_next {w : World} {B : Nat} {v u u' : Value} {xs : List Value} {R : List (List Int)} (h : OwnRows w B v xs R) (ha : ApartR v xs u) (hf : Fresh w u u') : ApartR v xs u' :=
  ⟨Apart.next h.outer ha.1 hf, fun y hy => by obtain ⟨j, _, o, c, e, h2, _⟩ := h.one hy; exact Apart.next h2 (ha.2 y hy) hf⟩
theorem isSr_of {A : Sr} (h : isSrF A = true) : ∃ N K : Nat, A.n = N ∧ A.a = K ∧ 1 ≤ N ∧ N ≤ 5 ∧ K ≤ N * 2 ^ N ∧ isTabF N A.R = true ∧ modeF A.m = true ∧ repF A.R A.m N K = (A.F, A.t) := by
  have h0 := h
  unfold isSrF at h
  simp only [Bool.and_eq_true, decide_eq_true_eq] at h
  obtain ⟨⟨⟨ht, hm⟩, h1, h2⟩, h3, h4⟩ := h
  obtain ⟨hn1, hn5⟩ := isSr_tab h0
  refine ⟨A.n.toNat, A.a.toNat, by omega, by omega, by omega, by omega, ?_, by rwa [show ((A.n.toNat : Nat) : Int) = A.n by omega], hm, Prod.ext h4 h3⟩
  unfold cntF at h2
  omega
theorem ownRows_set6 {w : World} {B k : Nat} {v : Value} {xs : List Value} {R : List (List Int)} (h : OwnRows w B v xs R) (ha : Avoid k v xs) (b0 b1 b2 b3 b4 b5 : Value) : OwnRows (set6 w k b0 b1 b2 b3 b4 b5) B v xs R :=
  ownRows_setAvoid (ownRows_setAvoid (ownRows_setAvoid (ownRows_setAvoid (ownRows_setAvoid (ownRows_setAvoid h ha 0 b0) ha 1 b1) ha 2 b2) ha 3 b3) ha 4 b4) ha 5 b5
theorem stopAt_step {R : List (List Int)} {m : Int} {N M k : Nat} {b t0 : Int} (h : k < M) : stopAt R m N M b t0 (M - k) k = if decide (k < M) && decide ((repF R m N k).2 - t0 < b) then stopAt R m N M b t0 (M - (k + 1)) (k + 1) else k := by
  have e : M - k = (M - (k + 1)) + 1 := by omega
  rw [e]; rfl
theorem stopAt_end {R : List (List Int)} {m : Int} {N M : Nat} {b t0 : Int} : stopAt R m N M b t0 (M - M) M = M := by rw [Nat.sub_self]; rfl
end Go.Proofs.Ytjbmpnbfiahdhaa
namespace Go.Proofs.Ytjbmpnbfiahdhaa
open Go.RowKit
set_option linter.unusedVariables false
set_option maxRecDepth 100000

set_option maxHeartbeats 12800000 in
theorem c_l8Copy (A : Sr) (oa fa) (ca fca : Nat) (w : World) (hR : RowsC w oa A.R) (hRs : A.R.length ≤ 1048576 ∧ ∀ j, j < A.R.length → (row A.R j).length ≤ 1048576) (hD : DepsAt w fa A.F) (hDs : A.F.length ≤ 1048576) (hnil : fa = none → fca = 0) :
    SrRes 95 #[.agg #[.int .i64 A.n, .slice oa A.R.length ca, .int .i64 A.m, .int .i64 A.a, .slice fa A.F.length fca, .int .i64 A.t]] w A (fun v => v) := by
  unfold SrRes
  obtain ⟨n, R, m, a, F, t⟩ := A
  dsimp only at *
  obtain ⟨i0, hi, hz0, hz1, hz2⟩ := info_parts info_dep
  have hb := bel2 w (.cells #[.int .i64 n, .slice oa R.length ca, .int .i64 m, .int .i64 a, .slice fa F.length fca, .int .i64 t] 39) (.cells srZ 39)
  have kA := (Blk.new w #[.int .i64 n, .slice oa R.length ca, .int .i64 m, .int .i64 a, .slice fa F.length fca, .int .i64 t] 39).alloc (.cells srZ 39)
  have kZ := Blk.new (w.alloc (.cells #[.int .i64 n, .slice oa R.length ca, .int .i64 m, .int .i64 a, .slice fa F.length fca, .int .i64 t] 39)) srZ 39
  simp only [World.size_alloc] at kZ
  unfold srZ at hb kA kZ
  go_enter Try.func95, Try.ntmps95
  go_upto_region 1 with fail
  generalize hw2 : (w.alloc (.cells #[.int .i64 n, .slice oa R.length ca, .int .i64 m, .int .i64 a, .slice fa F.length fca, .int .i64 t] 39)).alloc (.cells #[.int .i64 0, .slice none 0 0, .int .i64 0, .int .i64 0, .slice none 0 0, .int .i64 0] 39) = w2 at *
  have HSW : Hid (w2.heap.size = w.heap.size + 2) := by show _ = _; rw [← hw2]; simp
  clear hw2
  refine wp_region_held_drew (S := fun w' => w'.cell? ⟨w.heap.size, 0, none⟩ = some (.int .i64 n) ∧ w'.cell? ⟨w.heap.size, 1, none⟩ = some (.slice oa R.length ca) ∧ w'.cell? ⟨w.heap.size, 2, none⟩ = some (.int .i64 m) ∧ w'.cell? ⟨w.heap.size, 3, none⟩ = some (.int .i64 a) ∧ w'.cell? ⟨w.heap.size, 4, none⟩ = some (.slice fa F.length fca) ∧ w'.cell? ⟨w.heap.size, 5, none⟩ = some (.int .i64 t)) (by kernel_rfl) ⟨kA.drew.cell 0 _ rfl, kA.drew.cell 1 _ rfl, kA.drew.cell 2 _ rfl, kA.drew.cell 3 _ rfl, kA.drew.cell 4 _ rfl, kA.drew.cell 5 _ rfl⟩ (fun hS => ?_)
  (refine wpAnyH_val (i := 0) (some 3) ?_ rfl rfl (by kernel_rfl) (by kernel_rfl) (by kernel_rfl) (fun _ _ _ h => h) (by rfl) (by assumption) ?_ ?_; rotate_left; (intro w hSw; go_simp; (try with_reducible rfl)); (try simp only [Act.put, List.setIfInBounds_toArray, List.set_cons_zero, List.set_cons_succ])); (refine wpAnyH_val (i := 1) (some 4) ?_ rfl rfl (by kernel_rfl) (by kernel_rfl) (by kernel_rfl) (fun _ _ _ h => h) (by rfl) (by assumption) ?_ ?_; rotate_left; (intro w hSw; go_simp; (try with_reducible rfl)); (try simp only [Act.put, List.setIfInBounds_toArray, List.set_cons_zero, List.set_cons_succ])); (refine wpAnyH_val (i := 3) (some 6) ?_ rfl rfl (by kernel_rfl) (by kernel_rfl) (by kernel_rfl) (fun _ _ _ h => h) (by rfl) (by assumption) ?_ ?_; rotate_left; (intro w hSw; go_simp; (try with_reducible rfl)); (try simp only [Act.put, List.setIfInBounds_toArray, List.set_cons_zero, List.set_cons_succ])); (refine wpAnyH_val (i := 4) (some 7) ?_ rfl rfl (by kernel_rfl) (by kernel_rfl) (by kernel_rfl) (fun _ _ _ h => h) (by rfl) (by assumption) ?_ ?_; rotate_left; (intro w hSw; go_simp; (try with_reducible rfl)); (try simp only [Act.put, List.setIfInBounds_toArray, List.set_cons_zero, List.set_cons_succ])); (refine wpAnyH_val (i := 5) (some 8) ?_ rfl rfl (by kernel_rfl) (by kernel_rfl) (by kernel_rfl) (fun _ _ _ h => h) (by rfl) (by assumption) ?_ ?_; rotate_left; (intro w hSw; go_simp; (try with_reducible rfl)); (try simp only [Act.put, List.setIfInBounds_toArray, List.set_cons_zero, List.set_cons_succ])); (refine wpAnyH_val (i := 6) (some 9) ?_ rfl rfl (by kernel_rfl) (by kernel_rfl) (by kernel_rfl) (fun _ _ _ h => h) (by rfl) (by assumption) ?_ ?_; rotate_left; (intro w hSw; go_simp; (try with_reducible rfl)); (try simp only [Act.put, List.setIfInBounds_toArray, List.set_cons_zero, List.set_cons_succ])); (refine wpAnyH_val (i := 8) (some 11) ?_ rfl rfl (by kernel_rfl) (by kernel_rfl) (by kernel_rfl) (fun _ _ _ h => h) (by rfl) (by assumption) ?_ ?_; rotate_left; (intro w hSw; go_simp; (try with_reducible rfl)); (try simp only [Act.put, List.setIfInBounds_toArray, List.set_cons_zero, List.set_cons_succ])); (refine wpAnyH_val (i := 9) (some 12) ?_ rfl rfl (by kernel_rfl) (by kernel_rfl) (by kernel_rfl) (fun _ _ _ h => h) (by rfl) (by assumption) ?_ ?_; rotate_left; (intro w hSw; go_simp; (try with_reducible rfl)); (try simp only [Act.put, List.setIfInBounds_toArray, List.set_cons_zero, List.set_cons_succ])); (refine wpAnyH_val (i := 11) (some 14) ?_ rfl rfl (by kernel_rfl) (by kernel_rfl) (by kernel_rfl) (fun _ _ _ h => h) (by rfl) (by assumption) ?_ ?_; rotate_left; (intro w hSw; go_simp; (try with_reducible rfl)); (try simp only [Act.put, List.setIfInBounds_toArray, List.set_cons_zero, List.set_cons_succ])); (refine wpAnyH_val (i := 12) (some 15) ?_ rfl rfl (by kernel_rfl) (by kernel_rfl) (by kernel_rfl) (fun _ _ _ h => h) (by rfl) (by assumption) ?_ ?_; rotate_left; (intro w hSw; go_simp; (try with_reducible rfl)); (try simp only [Act.put, List.setIfInBounds_toArray, List.set_cons_zero, List.set_cons_succ]))
  refine wpAnyH_ready (rs := [2, 7]) (by kernel_rfl) (by simp) ?_
  refine AllReadyH.cons rfl (fun K hK => ?_) (AllReadyH.cons rfl (fun K hK => ?_) AllReadyH.nil)
  -- the two orders
  · go_simp
    refine (c_l3Copy n oa ca R _ (hR.keep hb.drew) hRs.1 hRs.2).mono ?_
    rintro e w3 ⟨o, c, xs, rfl, hO, hbn⟩
    have kA3 := kA.drew.keep hbn
    have kZ3 := kZ.drew.keep hbn
    have hb3 := bel_to hb.drew hbn
    have hs3 : w.heap.size + 2 ≤ w3.heap.size := by have := hbn.size; have := HSW.out; simp at *; omega
    replace hO := hO.based (show w.heap.size + 2 ≤ _ by have := HSW.out; simp; omega)
    refine hK.out _ _ ⟨kA3.cell 0 _ rfl, kA3.cell 1 _ rfl, kA3.cell 2 _ rfl, kA3.cell 3 _ rfl, kA3.cell 4 _ rfl, kA3.cell 5 _ rfl⟩ (fun hS2 => ?_)
    clear hK hS hS2 hbn
    (try simp only [Act.put, List.setIfInBounds_toArray, List.set_cons_zero, List.set_cons_succ])
    refine wpAnyH_ready (rs := [7]) (by kernel_rfl) (by simp) ?_; refine AllReadyH.cons rfl (fun K hK => ?_) AllReadyH.nil
    go_simp
    have hba := (Below.refl w3.heap.size w3).alloc (Nat.le_refl _) (.cells #[] 55)
    have hE4 := OwnD.empty w3 (w.heap.size + 2) hs3
    have apE := hO.fresh (OwnD.empty w3 w3.heap.size (Nat.le_refl _))
    have kA4 := kA3.keep hba
    have kZ4 := kZ3.keep hba
    have hO4 := hO.keep hba
    have hb4 := bel_to hb3 hba
    have hsz4 := hs3
    refine hK.out _ _ ⟨kA4.cell 0 _ rfl, kA4.cell 1 _ rfl, kA4.cell 2 _ rfl, kA4.cell 3 _ rfl, kA4.cell 4 _ rfl, kA4.cell 5 _ rfl⟩ (fun hS2 => ?_)
    clear hK hS2 hba kA3 kZ3 hO hb3
    (try simp only [Act.put, List.setIfInBounds_toArray, List.set_cons_zero, List.set_cons_succ])
    rcases fa with _ | ⟨b', off', sp'⟩
    · have hcf : fca = 0 := hnil rfl
      have hF0 : F = [] := by
        rcases Nat.eq_zero_or_pos F.length with h | h
        · exact List.eq_nil_of_length_eq_zero h
        · obtain ⟨_, _, e, _⟩ := hD.at_ h; cases e
      subst hcf hF0
      refine wpAnyH_ready (rs := [10]) (by kernel_rfl) (by simp) ?_; refine AllReadyH.cons rfl (fun K hK => ?_) AllReadyH.nil
      refine step_append_none _ (by rfl) _ _ 29 (by rfl) (w.heap.size + 2) 55 i0 2 Try.underlying29 hi (.slice (some ⟨w3.heap.size, 0, none⟩) 0 0) 0 [] (by rfl) hE4 (by rfl) ?_
      refine hK.out _ _ ⟨kA4.cell 0 _ rfl, kA4.cell 1 _ rfl, kA4.cell 2 _ rfl, kA4.cell 3 _ rfl, kA4.cell 4 _ rfl, kA4.cell 5 _ rfl⟩ (fun hS3 => ?_)
      clear hK
      (try simp only [Act.put, List.setIfInBounds_toArray, List.set_cons_zero, List.set_cons_succ])
      have kA5 := kA4
      have kZ5 := kZ4
      have hO5 := hO4
      have hb5 := hb4
      have hF5 := hE4
      have ap := apE
      clear kA4 kZ4 hO4 hb4 hE4
      (refine wpAnyH_val (i := 13) (some 16) ?_ rfl rfl (by kernel_rfl) (by kernel_rfl) (by kernel_rfl) (fun _ _ _ h => h) (by rfl) (by assumption) ?_ ?_; rotate_left; (intro w hSw; go_simp; (try with_reducible rfl)); (try simp only [Act.put, List.setIfInBounds_toArray, List.set_cons_zero, List.set_cons_succ]))
      have z0 := kZ5.cell 0 (.int .i64 0) rfl
      have z1 := kZ5.cell 1 (.slice none 0 0) rfl
      have z2 := kZ5.cell 2 (.int .i64 0) rfl
      have z3 := kZ5.cell 3 (.int .i64 0) rfl
      have z4 := kZ5.cell 4 (.slice none 0 0) rfl
      have z5 := kZ5.cell 5 (.int .i64 0) rfl
      have g0 := kZ5.free 0
      have g1 := kZ5.free 1
      have g2 := kZ5.free 2
      have g3 := kZ5.free 3
      have g4 := kZ5.free 4
      have g5 := kZ5.free 5
      refine wpAnyH_ready (rs := [14]) (by kernel_rfl) (by simp) ?_; refine AllReadyH.cons rfl (fun K hK => ?_) AllReadyH.nil
      go_simp
      have kA6 := kA5.far6 (k := w.heap.size + 1) (by omega) (.int .i64 n) (.slice o R.length c) (.int .i64 m) (.int .i64 a) (.slice (some ⟨w3.heap.size, 0, none⟩) 0 0) (.int .i64 t)
      have k6 := kZ5.set6 (.int .i64 n) (.slice o R.length c) (.int .i64 m) (.int .i64 a) (.slice (some ⟨w3.heap.size, 0, none⟩) 0 0) (.int .i64 t)
      have hO6 := hO5.far6 (show w.heap.size + 1 < w.heap.size + 2 by omega) (.int .i64 n) (.slice o R.length c) (.int .i64 m) (.int .i64 a) (.slice (some ⟨w3.heap.size, 0, none⟩) 0 0) (.int .i64 t)
      have hF6 := OwnD.set6 hF5 (fun e => by have := (World.ownsRow.lt hF5 _ e).1; omega : (Value.slice (some ⟨w3.heap.size, 0, none⟩) 0 0).ownBlock ≠ some (w.heap.size + 1)) (.int .i64 n) (.slice o R.length c) (.int .i64 m) (.int .i64 a) (.slice (some ⟨w3.heap.size, 0, none⟩) 0 0) (.int .i64 t)
      have hb6 := bel_set6 hb5 (show w.heap.size ≤ w.heap.size + 1 by omega) (.int .i64 n) (.slice o R.length c) (.int .i64 m) (.int .i64 a) (.slice (some ⟨w3.heap.size, 0, none⟩) 0 0) (.int .i64 t)
      unfold set6 at kA6 k6 hO6 hF6 hb6
      refine hK.out _ _ ⟨kA6.cell 0 _ rfl, kA6.cell 1 _ rfl, kA6.cell 2 _ rfl, kA6.cell 3 _ rfl, kA6.cell 4 _ rfl, kA6.cell 5 _ rfl⟩ (fun hS4 => ?_)
      (try simp only [Act.put, List.setIfInBounds_toArray, List.set_cons_zero, List.set_cons_succ])
      refine wpAnyH_done (by kernel_rfl) ?_ _
      try dsimp only [NoPanic, Exit.then]
      have q0 := k6.cell 0 _ rfl
      have q1 := k6.cell 1 _ rfl
      have q2 := k6.cell 2 _ rfl
      have q3 := k6.cell 3 _ rfl
      have q4 := k6.cell 4 _ rfl
      have q5 := k6.cell 5 _ rfl
      clear hK hS3 hS4 z0 z1 z2 z3 z4 z5 g0 g1 g2 g3 g4 g5
      go_wp2
      exact bodyPost_ret (v := .agg #[.int .i64 n, .slice o R.length c, .int .i64 m, .int .i64 a, .slice (some ⟨w3.heap.size, 0, none⟩) 0 0, .int .i64 t]) (by simp only [results, Try.results95]; simp [go_sem, q0, q1, q2, q3, q4, q5]) rfl ⟨o, c, some ⟨w3.heap.size, 0, none⟩, 0, rfl, xs, hO6.based (by omega), hF6.based (by omega), ap, hb6⟩
    · have HB : ∀ j u, (dcells F)[j]? = some u → World.cell? _ ((⟨b', off', sp'⟩ : Addr).add j) = some u := fun j u hu => (hD.keep hb4).cellsAny j u hu
      refine wpAnyH_ready (rs := [10]) (by kernel_rfl) (by simp) ?_; refine AllReadyH.cons rfl (fun K hK => ?_) AllReadyH.nil
      refine step_append_held _ (by rfl) _ _ 29 (by rfl) (w.heap.size + 2) 55 i0 (.agg #[.int .i64 0, .int .i64 0]) 2 16 Try.underlying29 hi hz0 hz1 hz2 rfl (by decide) (.slice (some ⟨w3.heap.size, 0, none⟩) 0 0) 0 [] (by rfl) hE4 ⟨b', off', sp'⟩ F.length _ (dcells F) (by rfl) (dcells_length F) HB (dcells_one F) (by unfold maxLen; simp; omega) (by simp; omega) (by have := hb4.size; simp at hsz4 ⊢; omega) ?_
      intro v9 w9 hown _ hgrow hfr
      have hF5' := OwnD.joined (A := []) (B := F) (by have e : dcells ([] : List (Int × Int)) = [] := rfl; simpa [e] using hown)
      have hF5 : OwnD w9 (w.heap.size + 2) v9 F := hF5'
      clear hF5'
      obtain ⟨o9, c9, rfl⟩ := hF5.shape
      have hlo : ∀ g, (Value.slice (some ⟨w3.heap.size, 0, none⟩) 0 0).ownBlock = some g → w.heap.size + 2 ≤ g := fun g e => (World.ownsRow.lt hE4 g e).1
      have kA5 := kA4.grown hgrow (fun e => by have := hlo _ e.symm; omega)
      have kZ5 := kZ4.grown hgrow (fun e => by have := hlo _ e.symm; omega)
      have hO5 := hO4.far hgrow apE
      have ap := apartR_next hO4 apE hfr
      have hb5 := hb4.grown hgrow hb4.size (fun g e => by have := hlo g e; omega)
      refine hK.out _ _ ⟨kA5.cell 0 _ rfl, kA5.cell 1 _ rfl, kA5.cell 2 _ rfl, kA5.cell 3 _ rfl, kA5.cell 4 _ rfl, kA5.cell 5 _ rfl⟩ (fun hS3 => ?_)
      clear hK hown hgrow hfr kA4 kZ4 hO4 hb4 hE4 apE
      (try simp only [Act.put, List.setIfInBounds_toArray, List.set_cons_zero, List.set_cons_succ])
      (refine wpAnyH_val (i := 13) (some 16) ?_ rfl rfl (by kernel_rfl) (by kernel_rfl) (by kernel_rfl) (fun _ _ _ h => h) (by rfl) (by assumption) ?_ ?_; rotate_left; (intro w hSw; go_simp; (try with_reducible rfl)); (try simp only [Act.put, List.setIfInBounds_toArray, List.set_cons_zero, List.set_cons_succ]))
      have z0 := kZ5.cell 0 (.int .i64 0) rfl
      have z1 := kZ5.cell 1 (.slice none 0 0) rfl
      have z2 := kZ5.cell 2 (.int .i64 0) rfl
      have z3 := kZ5.cell 3 (.int .i64 0) rfl
      have z4 := kZ5.cell 4 (.slice none 0 0) rfl
      have z5 := kZ5.cell 5 (.int .i64 0) rfl
      have g0 := kZ5.free 0
      have g1 := kZ5.free 1
      have g2 := kZ5.free 2
      have g3 := kZ5.free 3
      have g4 := kZ5.free 4
      have g5 := kZ5.free 5
      refine wpAnyH_ready (rs := [14]) (by kernel_rfl) (by simp) ?_; refine AllReadyH.cons rfl (fun K hK => ?_) AllReadyH.nil
      go_simp
      have kA6 := kA5.far6 (k := w.heap.size + 1) (by omega) (.int .i64 n) (.slice o R.length c) (.int .i64 m) (.int .i64 a) (.slice o9 F.length c9) (.int .i64 t)
      have k6 := kZ5.set6 (.int .i64 n) (.slice o R.length c) (.int .i64 m) (.int .i64 a) (.slice o9 F.length c9) (.int .i64 t)
      have hO6 := hO5.far6 (show w.heap.size + 1 < w.heap.size + 2 by omega) (.int .i64 n) (.slice o R.length c) (.int .i64 m) (.int .i64 a) (.slice o9 F.length c9) (.int .i64 t)
      have hF6 := OwnD.set6 hF5 (fun e => by have := (World.ownsRow.lt hF5 _ e).1; omega : (Value.slice o9 F.length c9).ownBlock ≠ some (w.heap.size + 1)) (.int .i64 n) (.slice o R.length c) (.int .i64 m) (.int .i64 a) (.slice o9 F.length c9) (.int .i64 t)
      have hb6 := bel_set6 hb5 (show w.heap.size ≤ w.heap.size + 1 by omega) (.int .i64 n) (.slice o R.length c) (.int .i64 m) (.int .i64 a) (.slice o9 F.length c9) (.int .i64 t)
      unfold set6 at kA6 k6 hO6 hF6 hb6
      refine hK.out _ _ ⟨kA6.cell 0 _ rfl, kA6.cell 1 _ rfl, kA6.cell 2 _ rfl, kA6.cell 3 _ rfl, kA6.cell 4 _ rfl, kA6.cell 5 _ rfl⟩ (fun hS4 => ?_)
      (try simp only [Act.put, List.setIfInBounds_toArray, List.set_cons_zero, List.set_cons_succ])
      refine wpAnyH_done (by kernel_rfl) ?_ _
      try dsimp only [NoPanic, Exit.then]
      have q0 := k6.cell 0 _ rfl
      have q1 := k6.cell 1 _ rfl
      have q2 := k6.cell 2 _ rfl
      have q3 := k6.cell 3 _ rfl
      have q4 := k6.cell 4 _ rfl
      have q5 := k6.cell 5 _ rfl
      clear hK hS3 hS4 z0 z1 z2 z3 z4 z5 g0 g1 g2 g3 g4 g5
      go_wp2
      exact bodyPost_ret (v := .agg #[.int .i64 n, .slice o R.length c, .int .i64 m, .int .i64 a, .slice o9 F.length c9, .int .i64 t]) (by simp only [results, Try.results95]; simp [go_sem, q0, q1, q2, q3, q4, q5]) rfl ⟨o, c, o9, c9, xs, rfl, hO6.based (by omega), hF6.based (by omega), ap, hb6⟩
  · go_simp
    have hba := ((Below.refl w2.heap.size w2).drew).alloc (Nat.le_refl _) (.cells #[] 55)
    have hE := OwnD.empty w2.drew (w.heap.size + 2) (by have := HSW.out; simp; omega)
    have hE' := OwnD.empty w2.drew w2.heap.size (Nat.le_refl _)
    have kA3 := kA.keep hba
    have kZ3 := kZ.keep hba
    have hb3 := bel_to hb hba
    refine hK.out _ _ ⟨kA3.cell 0 _ rfl, kA3.cell 1 _ rfl, kA3.cell 2 _ rfl, kA3.cell 3 _ rfl, kA3.cell 4 _ rfl, kA3.cell 5 _ rfl⟩ (fun hS2 => ?_)
    clear hK hS hS2
    (try simp only [Act.put, List.setIfInBounds_toArray, List.set_cons_zero, List.set_cons_succ])
    refine wpAnyH_ready (rs := [2]) (by kernel_rfl) (by simp) ?_; refine AllReadyH.cons rfl (fun K hK => ?_) AllReadyH.nil
    go_simp
    refine (c_l3Copy n oa ca R _ (hR.keep hb3) hRs.1 hRs.2).mono ?_
    rintro e w3 ⟨o, c, xs, rfl, hO, hbn⟩
    have apE := hO.after hE'
    have hE4 := hE.keep hbn
    have kA4 := kA3.keep hbn
    have kZ4 := kZ3.keep hbn
    have hb4 := bel_to hb3 hbn
    have hO4 := hO.based (show w.heap.size + 2 ≤ _ by have := HSW.out; simp; omega)
    have hsz4 : w.heap.size + 2 ≤ w3.heap.size := by have := hbn.size; have := HSW.out; simp at *; omega
    refine hK.out _ _ ⟨kA4.cell 0 _ rfl, kA4.cell 1 _ rfl, kA4.cell 2 _ rfl, kA4.cell 3 _ rfl, kA4.cell 4 _ rfl, kA4.cell 5 _ rfl⟩ (fun hS2 => ?_)
    clear hK hS2 hba hbn kA3 kZ3 hO hb3 hE hE'
    (try simp only [Act.put, List.setIfInBounds_toArray, List.set_cons_zero, List.set_cons_succ])
    rcases fa with _ | ⟨b', off', sp'⟩
    · have hcf : fca = 0 := hnil rfl
      have hF0 : F = [] := by
        rcases Nat.eq_zero_or_pos F.length with h | h
        · exact List.eq_nil_of_length_eq_zero h
        · obtain ⟨_, _, e, _⟩ := hD.at_ h; cases e
      subst hcf hF0
      refine wpAnyH_ready (rs := [10]) (by kernel_rfl) (by simp) ?_; refine AllReadyH.cons rfl (fun K hK => ?_) AllReadyH.nil
      refine step_append_none _ (by rfl) _ _ 29 (by rfl) (w.heap.size + 2) 55 i0 2 Try.underlying29 hi (.slice (some ⟨w2.heap.size, 0, none⟩) 0 0) 0 [] (by rfl) hE4 (by rfl) ?_
      refine hK.out _ _ ⟨kA4.cell 0 _ rfl, kA4.cell 1 _ rfl, kA4.cell 2 _ rfl, kA4.cell 3 _ rfl, kA4.cell 4 _ rfl, kA4.cell 5 _ rfl⟩ (fun hS3 => ?_)
      clear hK
      (try simp only [Act.put, List.setIfInBounds_toArray, List.set_cons_zero, List.set_cons_succ])
      have kA5 := kA4
      have kZ5 := kZ4
      have hO5 := hO4
      have hb5 := hb4
      have hF5 := hE4
      have ap := apE
      clear kA4 kZ4 hO4 hb4 hE4
      (refine wpAnyH_val (i := 13) (some 16) ?_ rfl rfl (by kernel_rfl) (by kernel_rfl) (by kernel_rfl) (fun _ _ _ h => h) (by rfl) (by assumption) ?_ ?_; rotate_left; (intro w hSw; go_simp; (try with_reducible rfl)); (try simp only [Act.put, List.setIfInBounds_toArray, List.set_cons_zero, List.set_cons_succ]))
      have z0 := kZ5.cell 0 (.int .i64 0) rfl
      have z1 := kZ5.cell 1 (.slice none 0 0) rfl
      have z2 := kZ5.cell 2 (.int .i64 0) rfl
      have z3 := kZ5.cell 3 (.int .i64 0) rfl
      have z4 := kZ5.cell 4 (.slice none 0 0) rfl
      have z5 := kZ5.cell 5 (.int .i64 0) rfl
      have g0 := kZ5.free 0
      have g1 := kZ5.free 1
      have g2 := kZ5.free 2
      have g3 := kZ5.free 3
      have g4 := kZ5.free 4
      have g5 := kZ5.free 5
      refine wpAnyH_ready (rs := [14]) (by kernel_rfl) (by simp) ?_; refine AllReadyH.cons rfl (fun K hK => ?_) AllReadyH.nil
      go_simp
      have kA6 := kA5.far6 (k := w.heap.size + 1) (by omega) (.int .i64 n) (.slice o R.length c) (.int .i64 m) (.int .i64 a) (.slice (some ⟨w2.heap.size, 0, none⟩) 0 0) (.int .i64 t)
      have k6 := kZ5.set6 (.int .i64 n) (.slice o R.length c) (.int .i64 m) (.int .i64 a) (.slice (some ⟨w2.heap.size, 0, none⟩) 0 0) (.int .i64 t)
      have hO6 := hO5.far6 (show w.heap.size + 1 < w.heap.size + 2 by omega) (.int .i64 n) (.slice o R.length c) (.int .i64 m) (.int .i64 a) (.slice (some ⟨w2.heap.size, 0, none⟩) 0 0) (.int .i64 t)
      have hF6 := OwnD.set6 hF5 (fun e => by have := (World.ownsRow.lt hF5 _ e).1; omega : (Value.slice (some ⟨w2.heap.size, 0, none⟩) 0 0).ownBlock ≠ some (w.heap.size + 1)) (.int .i64 n) (.slice o R.length c) (.int .i64 m) (.int .i64 a) (.slice (some ⟨w2.heap.size, 0, none⟩) 0 0) (.int .i64 t)
      have hb6 := bel_set6 hb5 (show w.heap.size ≤ w.heap.size + 1 by omega) (.int .i64 n) (.slice o R.length c) (.int .i64 m) (.int .i64 a) (.slice (some ⟨w2.heap.size, 0, none⟩) 0 0) (.int .i64 t)
      unfold set6 at kA6 k6 hO6 hF6 hb6
      refine hK.out _ _ ⟨kA6.cell 0 _ rfl, kA6.cell 1 _ rfl, kA6.cell 2 _ rfl, kA6.cell 3 _ rfl, kA6.cell 4 _ rfl, kA6.cell 5 _ rfl⟩ (fun hS4 => ?_)
      (try simp only [Act.put, List.setIfInBounds_toArray, List.set_cons_zero, List.set_cons_succ])
      refine wpAnyH_done (by kernel_rfl) ?_ _
      try dsimp only [NoPanic, Exit.then]
      have q0 := k6.cell 0 _ rfl
      have q1 := k6.cell 1 _ rfl
      have q2 := k6.cell 2 _ rfl
      have q3 := k6.cell 3 _ rfl
      have q4 := k6.cell 4 _ rfl
      have q5 := k6.cell 5 _ rfl
      clear hK hS3 hS4 z0 z1 z2 z3 z4 z5 g0 g1 g2 g3 g4 g5
      go_wp2
      exact bodyPost_ret (v := .agg #[.int .i64 n, .slice o R.length c, .int .i64 m, .int .i64 a, .slice (some ⟨w2.heap.size, 0, none⟩) 0 0, .int .i64 t]) (by simp only [results, Try.results95]; simp [go_sem, q0, q1, q2, q3, q4, q5]) rfl ⟨o, c, some ⟨w2.heap.size, 0, none⟩, 0, rfl, xs, hO6.based (by omega), hF6.based (by omega), ap, hb6⟩
    · have HB : ∀ j u, (dcells F)[j]? = some u → World.cell? _ ((⟨b', off', sp'⟩ : Addr).add j) = some u := fun j u hu => (hD.keep hb4).cellsAny j u hu
      refine wpAnyH_ready (rs := [10]) (by kernel_rfl) (by simp) ?_; refine AllReadyH.cons rfl (fun K hK => ?_) AllReadyH.nil
      refine step_append_held _ (by rfl) _ _ 29 (by rfl) (w.heap.size + 2) 55 i0 (.agg #[.int .i64 0, .int .i64 0]) 2 16 Try.underlying29 hi hz0 hz1 hz2 rfl (by decide) (.slice (some ⟨w2.heap.size, 0, none⟩) 0 0) 0 [] (by rfl) hE4 ⟨b', off', sp'⟩ F.length _ (dcells F) (by rfl) (dcells_length F) HB (dcells_one F) (by unfold maxLen; simp; omega) (by simp; omega) (by have := hb4.size; simp at hsz4 ⊢; omega) ?_
      intro v9 w9 hown _ hgrow hfr
      have hF5' := OwnD.joined (A := []) (B := F) (by have e : dcells ([] : List (Int × Int)) = [] := rfl; simpa [e] using hown)
      have hF5 : OwnD w9 (w.heap.size + 2) v9 F := hF5'
      clear hF5'
      obtain ⟨o9, c9, rfl⟩ := hF5.shape
      have hlo : ∀ g, (Value.slice (some ⟨w2.heap.size, 0, none⟩) 0 0).ownBlock = some g → w.heap.size + 2 ≤ g := fun g e => (World.ownsRow.lt hE4 g e).1
      have kA5 := kA4.grown hgrow (fun e => by have := hlo _ e.symm; omega)
      have kZ5 := kZ4.grown hgrow (fun e => by have := hlo _ e.symm; omega)
      have hO5 := hO4.far hgrow apE
      have ap := apartR_next hO4 apE hfr
      have hb5 := hb4.grown hgrow hb4.size (fun g e => by have := hlo g e; omega)
      refine hK.out _ _ ⟨kA5.cell 0 _ rfl, kA5.cell 1 _ rfl, kA5.cell 2 _ rfl, kA5.cell 3 _ rfl, kA5.cell 4 _ rfl, kA5.cell 5 _ rfl⟩ (fun hS3 => ?_)
      clear hK hown hgrow hfr kA4 kZ4 hO4 hb4 hE4 apE
      (try simp only [Act.put, List.setIfInBounds_toArray, List.set_cons_zero, List.set_cons_succ])
      (refine wpAnyH_val (i := 13) (some 16) ?_ rfl rfl (by kernel_rfl) (by kernel_rfl) (by kernel_rfl) (fun _ _ _ h => h) (by rfl) (by assumption) ?_ ?_; rotate_left; (intro w hSw; go_simp; (try with_reducible rfl)); (try simp only [Act.put, List.setIfInBounds_toArray, List.set_cons_zero, List.set_cons_succ]))
      have z0 := kZ5.cell 0 (.int .i64 0) rfl
      have z1 := kZ5.cell 1 (.slice none 0 0) rfl
      have z2 := kZ5.cell 2 (.int .i64 0) rfl
      have z3 := kZ5.cell 3 (.int .i64 0) rfl
      have z4 := kZ5.cell 4 (.slice none 0 0) rfl
      have z5 := kZ5.cell 5 (.int .i64 0) rfl
      have g0 := kZ5.free 0
      have g1 := kZ5.free 1
      have g2 := kZ5.free 2
      have g3 := kZ5.free 3
      have g4 := kZ5.free 4
      have g5 := kZ5.free 5
      refine wpAnyH_ready (rs := [14]) (by kernel_rfl) (by simp) ?_; refine AllReadyH.cons rfl (fun K hK => ?_) AllReadyH.nil
      go_simp
      have kA6 := kA5.far6 (k := w.heap.size + 1) (by omega) (.int .i64 n) (.slice o R.length c) (.int .i64 m) (.int .i64 a) (.slice o9 F.length c9) (.int .i64 t)
      have k6 := kZ5.set6 (.int .i64 n) (.slice o R.length c) (.int .i64 m) (.int .i64 a) (.slice o9 F.length c9) (.int .i64 t)
      have hO6 := hO5.far6 (show w.heap.size + 1 < w.heap.size + 2 by omega) (.int .i64 n) (.slice o R.length c) (.int .i64 m) (.int .i64 a) (.slice o9 F.length c9) (.int .i64 t)
      have hF6 := OwnD.set6 hF5 (fun e => by have := (World.ownsRow.lt hF5 _ e).1; omega : (Value.slice o9 F.length c9).ownBlock ≠ some (w.heap.size + 1)) (.int .i64 n) (.slice o R.length c) (.int .i64 m) (.int .i64 a) (.slice o9 F.length c9) (.int .i64 t)
      have hb6 := bel_set6 hb5 (show w.heap.size ≤ w.heap.size + 1 by omega) (.int .i64 n) (.slice o R.length c) (.int .i64 m) (.int .i64 a) (.slice o9 F.length c9) (.int .i64 t)
      unfold set6 at kA6 k6 hO6 hF6 hb6
      refine hK.out _ _ ⟨kA6.cell 0 _ rfl, kA6.cell 1 _ rfl, kA6.cell 2 _ rfl, kA6.cell 3 _ rfl, kA6.cell 4 _ rfl, kA6.cell 5 _ rfl⟩ (fun hS4 => ?_)
      (try simp only [Act.put, List.setIfInBounds_toArray, List.set_cons_zero, List.set_cons_succ])
      refine wpAnyH_done (by kernel_rfl) ?_ _
      try dsimp only [NoPanic, Exit.then]
      have q0 := k6.cell 0 _ rfl
      have q1 := k6.cell 1 _ rfl
      have q2 := k6.cell 2 _ rfl
      have q3 := k6.cell 3 _ rfl
      have q4 := k6.cell 4 _ rfl
      have q5 := k6.cell 5 _ rfl
      clear hK hS3 hS4 z0 z1 z2 z3 z4 z5 g0 g1 g2 g3 g4 g5
      go_wp2
      exact bodyPost_ret (v := .agg #[.int .i64 n, .slice o R.length c, .int .i64 m, .int .i64 a, .slice o9 F.length c9, .int .i64 t]) (by simp only [results, Try.results95]; simp [go_sem, q0, q1, q2, q3, q4, q5]) rfl ⟨o, c, o9, c9, xs, rfl, hO6.based (by omega), hF6.based (by omega), ap, hb6⟩
end Go.Proofs.Ytjbmpnbfiahdhaa
namespace Go.Proofs.Ytjbmpnbfiahdhaa
open Go.RowKit
set_option linter.unusedVariables false
set_option maxRecDepth 100000

theorem below_toB {B : Nat} {w a b : World} (h : Below B w a) (hB : B ≤ w.heap.size) (k : Below a.heap.size a b) : Below B w b := h.trans (k.mono (Nat.le_trans hB h.size))
set_option maxHeartbeats 12800000 in
theorem c_l8Step (N k : Nat) (o fo) (c fc : Nat) (R : List (List Int)) (m t : Int) (F : List (Int × Int)) (g B : Nat) (xs : List Value) (w : World) (kg : Blk w g #[.int .i64 N, .slice o R.length c, .int .i64 m, .int .i64 k, .slice fo F.length fc, .int .i64 t] 39)
    (hO : OwnRows w B (.slice o R.length c) xs R) (hF : OwnD w B (.slice fo F.length fc) F) (ap : ApartR (.slice o R.length c) xs (.slice fo F.length fc)) (nO : Avoid g (.slice o R.length c) xs) (nF : (Value.slice fo F.length fc).ownBlock ≠ some g) (hBg : B ≤ g)
    (ht : isTabF N R = true) (hk : k < N * 2 ^ N) (hFl : F.length ≤ 160) (hFv : ∀ d ∈ F, St d.1 ∧ Co d.2) (ht0 : 0 ≤ t) (ht1 : t ≤ 160) :
    Calls Try.prog 98 #[.pointer (some ⟨g, 0, none⟩)] w fun e w' => ∃ fo' fc', e = .returned (.tuple #[]) ∧ Blk w' g #[.int .i64 N, .slice o R.length c, .int .i64 m, .int .i64 ((k : Int) + 1), .slice fo' (stepF R m N k (F, t)).1.length fc', .int .i64 (stepF R m N k (F, t)).2] 39 ∧ OwnRows w' B (.slice o R.length c) xs R ∧ OwnD w' B (.slice fo' (stepF R m N k (F, t)).1.length fc') (stepF R m N k (F, t)).1 ∧ ApartR (.slice o R.length c) xs (.slice fo' (stepF R m N k (F, t)).1.length fc') ∧ (Value.slice fo' (stepF R m N k (F, t)).1.length fc').ownBlock ≠ some g ∧ Below B w w' := by
  obtain ⟨i0, hi, hz0, hz1, hz2⟩ := info_parts info_dep
  obtain ⟨hn1, hn5, _, hlen⟩ := isTab_of ht
  have hN5 : N ≤ 5 := by omega
  have hN1 : 1 ≤ N := by omega
  have hk160 := count_le hN5
  have HLR : Hid (∀ j, j < R.length → (row R j).length ≤ Room) := fun j hj => by have := hlen j hj; unfold Room; omega
  clear hlen
  obtain ⟨_, hst, hco, _, _⟩ := cand_ok hN5 hN1 hk
  have HZ : Hid (stepF R m N k (F, t) = if hasc (candF N k).1 (candF N k).2 || covS F (candF N k).1 (candF N k).2 then (F, t) else (if holdsF R m (candF N k).1 (candF N k).2 then F ++ [((candF N k).1, (candF N k).2)] else F, t + 1)) := rfl
  have HCD : Hid (∀ w', Ans Try.prog 163 #[.int .i64 N, .int .i64 k] w' (.agg #[.int .i64 (candF N k).1, .int .i64 (candF N k).2])) := fun w' => c_l8Dep N k hN5 hN1 hk w'
  have HCV : Hid (∀ (oa : Option Addr) (cap : Nat) (w' : World), DepsAt w' oa F → Ans Try.prog 148 #[.slice oa F.length cap, .agg #[.int .i64 (candF N k).1, .int .i64 (candF N k).2]] w' (.bool (covS F (candF N k).1 (candF N k).2))) := fun oa cap w' h => Ans.eqb (c_l8Covered oa cap F _ _ w' h) (cov_same hFv hst)
  have HHD : Hid (∀ (w' : World), RowsAt w' o R → Ans Try.prog 164 #[.agg #[.int .i64 N, .slice o R.length c], .int .i64 m, .agg #[.int .i64 (candF N k).1, .int .i64 (candF N k).2]] w' (.bool (holdsF R m (candF N k).1 (candF N k).2))) := fun w' h => c_l7Holds N o c R m _ _ w' h ht hst hco
  have hRl : R.length ≤ Room := by have := (isTab_of ht).2.2.1; unfold Room; omega
  have hFl2 : F.length ≤ Room := by unfold Room; omega
  generalize hz : stepF R m N k (F, t) = z at *
  clear hz
  generalize hxx : (candF N k).1 = x at *
  generalize hrr : (candF N k).2 = r at *
  clear hxx hrr ht hFv
  have hr0 := hco.1
  have hr5 := hco.2
  have hr64 : 0 ≤ r ∧ r < 64 := ⟨hr0, by omega⟩
  have hb : Below B w w := Below.refl _ _
  have hBw : B ≤ w.heap.size := by have := kg.lt; omega
  go_enter Try.func98, Try.ntmps98
  go_upto_region 0 with fail
  go_cut [2] from 2 to 12 (fun p wx => ∃ kd, p = .pointer (some ⟨kd, 0, none⟩) ∧ Blk wx kd #[.int .i64 x, .int .i64 r] 55 ∧ w.heap.size ≤ kd ∧ Below w.heap.size w wx)
  case first =>
    refine wp_region_held_drew (S := fun w' => w'.cell? ⟨g, 0, none⟩ = some (.int .i64 N) ∧ w'.cell? ⟨g, 1, none⟩ = some (.slice o R.length c) ∧ w'.cell? ⟨g, 2, none⟩ = some (.int .i64 m) ∧ w'.cell? ⟨g, 3, none⟩ = some (.int .i64 k) ∧ w'.cell? ⟨g, 4, none⟩ = some (.slice fo F.length fc) ∧ w'.cell? ⟨g, 5, none⟩ = some (.int .i64 t)) (by kernel_rfl) ⟨kg.drew.cell 0 _ rfl, kg.drew.cell 1 _ rfl, kg.drew.cell 2 _ rfl, kg.drew.cell 3 _ rfl, kg.drew.cell 4 _ rfl, kg.drew.cell 5 _ rfl⟩ (fun hS => ?_)
    (refine wpAnyH_val (i := 0) (some 3) ?_ rfl rfl (by kernel_rfl) (by kernel_rfl) (by kernel_rfl) (fun _ _ _ h => h) (by rfl) (by assumption) ?_ ?_; rotate_left; (intro w hSw; go_simp; (try with_reducible rfl)); (try simp only [Act.put, List.setIfInBounds_toArray, List.set_cons_zero, List.set_cons_succ])); (refine wpAnyH_val (i := 1) (some 4) ?_ rfl rfl (by kernel_rfl) (by kernel_rfl) (by kernel_rfl) (fun _ _ _ h => h) (by rfl) (by assumption) ?_ ?_; rotate_left; (intro w hSw; go_simp; (try with_reducible rfl)); (try simp only [Act.put, List.setIfInBounds_toArray, List.set_cons_zero, List.set_cons_succ])); (refine wpAnyH_val (i := 2) (some 5) ?_ rfl rfl (by kernel_rfl) (by kernel_rfl) (by kernel_rfl) (fun _ _ _ h => h) (by rfl) (by assumption) ?_ ?_; rotate_left; (intro w hSw; go_simp; (try with_reducible rfl)); (try simp only [Act.put, List.setIfInBounds_toArray, List.set_cons_zero, List.set_cons_succ])); (refine wpAnyH_val (i := 3) (some 6) ?_ rfl rfl (by kernel_rfl) (by kernel_rfl) (by kernel_rfl) (fun _ _ _ h => h) (by rfl) (by assumption) ?_ ?_; rotate_left; (intro w hSw; go_simp; (try with_reducible rfl)); (try simp only [Act.put, List.setIfInBounds_toArray, List.set_cons_zero, List.set_cons_succ])); (refine wpAnyH_val (i := 4) (some 7) ?_ rfl rfl (by kernel_rfl) (by kernel_rfl) (by kernel_rfl) (fun _ _ _ h => h) (by rfl) (by assumption) ?_ ?_; rotate_left; (intro w hSw; go_simp; (try with_reducible rfl)); (try simp only [Act.put, List.setIfInBounds_toArray, List.set_cons_zero, List.set_cons_succ])); (refine wpAnyH_val (i := 5) (some 8) ?_ rfl rfl (by kernel_rfl) (by kernel_rfl) (by kernel_rfl) (fun _ _ _ h => h) (by rfl) (by assumption) ?_ ?_; rotate_left; (intro w hSw; go_simp; (try with_reducible rfl)); (try simp only [Act.put, List.setIfInBounds_toArray, List.set_cons_zero, List.set_cons_succ])); (refine wpAnyH_val (i := 6) (some 9) ?_ rfl rfl (by kernel_rfl) (by kernel_rfl) (by kernel_rfl) (fun _ _ _ h => h) (by rfl) (by assumption) ?_ ?_; rotate_left; (intro w hSw; go_simp; (try with_reducible rfl)); (try simp only [Act.put, List.setIfInBounds_toArray, List.set_cons_zero, List.set_cons_succ])); (refine wpAnyH_val (i := 7) (some 10) ?_ rfl rfl (by kernel_rfl) (by kernel_rfl) (by kernel_rfl) (fun _ _ _ h => h) (by rfl) (by assumption) ?_ ?_; rotate_left; (intro w hSw; go_simp; (try with_reducible rfl)); (try simp only [Act.put, List.setIfInBounds_toArray, List.set_cons_zero, List.set_cons_succ])); (refine wpAnyH_val (i := 8) (some 11) ?_ rfl rfl (by kernel_rfl) (by kernel_rfl) (by kernel_rfl) (fun _ _ _ h => h) (by rfl) (by assumption) ?_ ?_; rotate_left; (intro w hSw; go_simp; (try with_reducible rfl)); (try simp only [Act.put, List.setIfInBounds_toArray, List.set_cons_zero, List.set_cons_succ]))
    refine wpAnyH_ready (rs := [9, 10]) (by kernel_rfl) (by simp) ?_
    refine AllReadyH.cons rfl (fun K hK => ?_) (AllReadyH.cons rfl (fun K hK => ?_) AllReadyH.nil)
    · go_simp
      refine Calls.mono (HCD.out _) ?_
      rintro e w3 ⟨rfl, hbn⟩
      have kg2 := kg.drew.keep hbn
      have hb2 := bel_to (w := w) (Below.refl _ _).drew hbn
      have hs3 := hb2.size
      refine hK.out _ _ ⟨kg2.cell 0 _ rfl, kg2.cell 1 _ rfl, kg2.cell 2 _ rfl, kg2.cell 3 _ rfl, kg2.cell 4 _ rfl, kg2.cell 5 _ rfl⟩ (fun hS2 => ?_)
      clear hK hS hbn
      (try simp only [Act.put, List.setIfInBounds_toArray, List.set_cons_zero, List.set_cons_succ])
      refine wpAnyH_ready (rs := [10]) (by kernel_rfl) (by simp) ?_; refine AllReadyH.cons rfl (fun K hK => ?_) AllReadyH.nil; go_simp
      have hba := (Below.refl w3.heap.size w3).alloc (Nat.le_refl _) (.cells #[.int .i64 0, .int .i64 0] 55)
      have kd := Blk.new w3 #[.int .i64 0, .int .i64 0] 55
      have kgp := kg2
      have hbp := hb2
      replace kg2 := kg2.keep hba
      replace hb2 := bel_to hb2 hba
      refine hK.out _ _ ⟨kg2.cell 0 _ rfl, kg2.cell 1 _ rfl, kg2.cell 2 _ rfl, kg2.cell 3 _ rfl, kg2.cell 4 _ rfl, kg2.cell 5 _ rfl⟩ (fun hS4 => ?_)
      clear hK hS2 hba
      (try simp only [Act.put, List.setIfInBounds_toArray, List.set_cons_zero, List.set_cons_succ])
      have d0 := kd.cell 0 (.int .i64 0) rfl
      have d1 := kd.cell 1 (.int .i64 0) rfl
      have e0 := kd.free 0
      have e1 := kd.free 1
      refine wpAnyH_ready (rs := [11]) (by kernel_rfl) (by simp) ?_; refine AllReadyH.cons rfl (fun K hK => ?_) AllReadyH.nil; go_simp
      have kd2 := Blk.new w3 #[.int .i64 x, .int .i64 r] 55
      have hba := (Below.refl w3.heap.size w3).alloc (Nat.le_refl _) (.cells #[.int .i64 x, .int .i64 r] 55)
      have kg2 := kgp.keep hba
      have hb3 := bel_to hbp hba
      refine hK.out _ _ ⟨kg2.cell 0 _ rfl, kg2.cell 1 _ rfl, kg2.cell 2 _ rfl, kg2.cell 3 _ rfl, kg2.cell 4 _ rfl, kg2.cell 5 _ rfl⟩ (fun hS3 => ?_)
      (try simp only [Act.put, List.setIfInBounds_toArray, List.set_cons_zero, List.set_cons_succ])
      refine wpAnyH_done (by kernel_rfl) ?_ _
      try dsimp only [NoPanic, Exit.then]
      go_wp2_with fail
      go_meet
      exact ⟨w3.heap.size, rfl, kd2, by omega, hb3⟩
    · go_simp
      have hba := ((Below.refl w.heap.size w).drew).alloc (Nat.le_refl _) (.cells #[.int .i64 0, .int .i64 0] 55)
      have kd : Blk _ w.heap.size #[.int .i64 0, .int .i64 0] 55 := Blk.new w.drew #[.int .i64 0, .int .i64 0] 55
      have kg2 := kg.keep hba
      refine hK.out _ _ ⟨kg2.cell 0 _ rfl, kg2.cell 1 _ rfl, kg2.cell 2 _ rfl, kg2.cell 3 _ rfl, kg2.cell 4 _ rfl, kg2.cell 5 _ rfl⟩ (fun hS2 => ?_)
      clear hK hS
      (try simp only [Act.put, List.setIfInBounds_toArray, List.set_cons_zero, List.set_cons_succ])
      refine wpAnyH_ready (rs := [9]) (by kernel_rfl) (by simp) ?_; refine AllReadyH.cons rfl (fun K hK => ?_) AllReadyH.nil; go_simp
      refine Calls.mono (HCD.out _) ?_
      rintro e w3 ⟨rfl, hbn⟩
      replace kg2 := kg2.keep hbn
      replace kd := kd.keep hbn
      have hb2 := bel_to hba hbn
      refine hK.out _ _ ⟨kg2.cell 0 _ rfl, kg2.cell 1 _ rfl, kg2.cell 2 _ rfl, kg2.cell 3 _ rfl, kg2.cell 4 _ rfl, kg2.cell 5 _ rfl⟩ (fun hS4 => ?_)
      clear hK hS2 hba hbn
      (try simp only [Act.put, List.setIfInBounds_toArray, List.set_cons_zero, List.set_cons_succ])
      have d0 := kd.cell 0 (.int .i64 0) rfl
      have d1 := kd.cell 1 (.int .i64 0) rfl
      have e0 := kd.free 0
      have e1 := kd.free 1
      refine wpAnyH_ready (rs := [11]) (by kernel_rfl) (by simp) ?_; refine AllReadyH.cons rfl (fun K hK => ?_) AllReadyH.nil; go_simp
      have kd2 : Blk _ w.heap.size #[.int .i64 x, .int .i64 r] 55 := (kd.set 0 (.int .i64 x)).set 1 (.int .i64 r)
      have kg2 := (kg2.far ⟨w.heap.size, 0, none⟩ (.int .i64 x) (by have := kg.lt; simp; omega)).far ⟨w.heap.size, 1, none⟩ (.int .i64 r) (by have := kg.lt; simp; omega)
      have hb3 := bel_set2 hb2 (show w.heap.size ≤ w.heap.size by omega) (.int .i64 x) (.int .i64 r)
      refine hK.out _ _ ⟨kg2.cell 0 _ rfl, kg2.cell 1 _ rfl, kg2.cell 2 _ rfl, kg2.cell 3 _ rfl, kg2.cell 4 _ rfl, kg2.cell 5 _ rfl⟩ (fun hS3 => ?_)
      (try simp only [Act.put, List.setIfInBounds_toArray, List.set_cons_zero, List.set_cons_succ])
      refine wpAnyH_done (by kernel_rfl) ?_ _
      try dsimp only [NoPanic, Exit.then]
      go_wp2_with fail
      go_meet
      exact ⟨w.heap.size, rfl, kd2, by omega, hb3⟩
  case rest =>
    obtain ⟨bd, rfl, kd, hbd, hbn⟩ := hcut
    have hgd : g ≠ bd := by have := kg.lt; omega
    replace kg := kg.keep hbn
    replace hO := hO.keep hbn
    replace hF := hF.keep hbn
    replace hb := hbn.mono hBw
    clear hbn
    have n3 := kg.cell 3 (.int .i64 k) rfl
    have f3 := kg.free 3
    go_wp2_with fail
    replace kg := kg.set 3 (.int .i64 ((k : Int) + 1))
    replace kd := kd.far ⟨g, 3, none⟩ (.int .i64 ((k : Int) + 1)) (by simp; omega)
    replace hO := ownRows_setAvoid hO nO 3 (.int .i64 ((k : Int) + 1))
    replace hF := hF.set_ne 3 (.int .i64 ((k : Int) + 1)) nF
    replace hb := Below.setCell (p := (⟨g, 3, none⟩ : Addr)) hb hBg (.int .i64 ((k : Int) + 1))
    replace kg : Blk _ g #[.int .i64 N, .slice o R.length c, .int .i64 m, .int .i64 ((k : Int) + 1), .slice fo F.length fc, .int .i64 t] 39 := kg
    clear n3 f3
    have hdF := hF.deps rfl hFl2
    have d0 := kd.cell 0 (.int .i64 x) rfl
    have d1 := kd.cell 1 (.int .i64 r) rfl
    have n4 := kg.cell 4 (.slice fo F.length fc) rfl
    cases h1 : hasc x r
    · have hq : (bits BinOp.and .i64 (x / 2 ^ r.toNat) 1 == 1) = false := h1
      cases h2 : covS F x r
      · (refine wp_region_after (by kernel_rfl) (by kernel_rfl) ?_; have q_d0 := fun (x : After _) => cell_keep d0 x.bel; have q_d1 := fun (x : After _) => cell_keep d1 x.bel; have q_n4 := fun (x : After _) => cell_keep n4 x.bel; (repeat (go_big_quiet_step ((go_at_call 148; exact Ans.after (Ans.eqb (HCV.out _ _ _ (hdF.keep (After.bel _))) h2))))); clear q_d0; clear q_d1; clear q_n4; refine wpQuiet_nil ?_; rintro _ ⟨⟨w1, hbn⟩, rfl⟩; (try simp only [After.w]); replace kg := kg.keep hbn; replace kd := kd.keep hbn; replace hO := hO.keep hbn; replace hF := OwnD.keep hF hbn; replace hb := below_toB hb hBw hbn; clear hbn)
        clear d0 d1 n4 hdF hq
        have n5 := kg.cell 5 (.int .i64 t) rfl
        have f5 := kg.free 5
        go_wp2_with fail
        replace kg := kg.set 5 (.int .i64 (t + 1))
        replace kd := kd.far ⟨g, 5, none⟩ (.int .i64 (t + 1)) (by simp; omega)
        replace hO := ownRows_setAvoid hO nO 5 (.int .i64 (t + 1))
        replace hF := hF.set_ne 5 (.int .i64 (t + 1)) nF
        replace hb := Below.setCell (p := (⟨g, 5, none⟩ : Addr)) hb hBg (.int .i64 (t + 1))
        replace kg : Blk _ g #[.int .i64 N, .slice o R.length c, .int .i64 m, .int .i64 ((k : Int) + 1), .slice fo F.length fc, .int .i64 (t + 1)] 39 := kg
        clear n5 f5
        have hdR := hO.read hRl HLR.out
        have d0 := kd.cell 0 (.int .i64 x) rfl
        have d1 := kd.cell 1 (.int .i64 r) rfl
        have n0 := kg.cell 0 (.int .i64 N) rfl
        have n1 := kg.cell 1 (.slice o R.length c) rfl
        have n2 := kg.cell 2 (.int .i64 m) rfl
        cases h3 : holdsF R m x r
        · (refine wp_region_after (by kernel_rfl) (by kernel_rfl) ?_; have q_d0 := fun (x : After _) => cell_keep d0 x.bel; have q_d1 := fun (x : After _) => cell_keep d1 x.bel; have q_n0 := fun (x : After _) => cell_keep n0 x.bel; have q_n1 := fun (x : After _) => cell_keep n1 x.bel; have q_n2 := fun (x : After _) => cell_keep n2 x.bel; (repeat (go_big_quiet_step ((go_at_call 164; exact Ans.after (Ans.eqb (HHD.out _ (hdR.keep (After.bel _))) h3))))); clear q_d0; clear q_d1; clear q_n0; clear q_n1; clear q_n2; refine wpQuiet_nil ?_; rintro _ ⟨⟨w1, hbn⟩, rfl⟩; (try simp only [After.w]); replace kg := kg.keep hbn; replace kd := kd.keep hbn; replace hO := hO.keep hbn; replace hF := OwnD.keep hF hbn; replace hb := below_toB hb hBw hbn; clear hbn)
          have HV : Hid (z = (F, t + 1)) := by show z = _; rw [HZ.out, h1, h2, h3]; rfl
          clear d0 d1 n0 n1 n2 hdR
          go_wp2
          first | (refine bodyPost_ret (v := .tuple #[]) (by simp [results, Try.results98, go_sem]) rfl ?_) | (refine bodyPost_end (v := .tuple #[]) (by simp [results, Try.results98, go_sem]) rfl ?_)
          rw [HV.out]
          exact ⟨fo, fc, rfl, kg, hO, hF, ap, nF, hb⟩
        · (refine wp_region_after (by kernel_rfl) (by kernel_rfl) ?_; have q_d0 := fun (x : After _) => cell_keep d0 x.bel; have q_d1 := fun (x : After _) => cell_keep d1 x.bel; have q_n0 := fun (x : After _) => cell_keep n0 x.bel; have q_n1 := fun (x : After _) => cell_keep n1 x.bel; have q_n2 := fun (x : After _) => cell_keep n2 x.bel; (repeat (go_big_quiet_step ((go_at_call 164; exact Ans.after (Ans.eqb (HHD.out _ (hdR.keep (After.bel _))) h3))))); clear q_d0; clear q_d1; clear q_n0; clear q_n1; clear q_n2; refine wpQuiet_nil ?_; rintro _ ⟨⟨w1, hbn⟩, rfl⟩; (try simp only [After.w]); replace kg := kg.keep hbn; replace kd := kd.keep hbn; replace hO := hO.keep hbn; replace hF := OwnD.keep hF hbn; replace hb := below_toB hb hBw hbn; clear hbn)
          have HV : Hid (z = (F ++ [(x, r)], t + 1)) := by show z = _; rw [HZ.out, h1, h2, h3]; rfl
          clear d0 d1 n0 n1 n2 hdR
          go_wp2_with fail
          obtain ⟨wq, hwq⟩ := Blk.world kg
          subst hwq
          have hba := (Below.refl wq.heap.size wq).alloc (Nat.le_refl _) (.cells #[.int .i64 x, .int .i64 r] 55)
          have d0 := kd.drew.cell 0 (.int .i64 x) rfl
          have d1 := kd.drew.cell 1 (.int .i64 r) rfl
          have n4 := kg.drew.cell 4 (.slice fo F.length fc) rfl
          have n4b := (kg.keep hba).drew.cell 4 (.slice fo F.length fc) rfl
          have hBq := hb.size
          go_region_law (first
            | (refine step_append_held _ (by rfl) _ _ 29 (by rfl) B 55 i0 (.agg #[.int .i64 0, .int .i64 0]) 2 16 Try.underlying29 hi hz0 hz1 hz2 rfl (by decide) (.slice fo F.length fc) _ _ (by rfl) (World.ownsRow.alloc hF _) _ 1 1 [.int .i64 x, .int .i64 r] (by rfl) rfl (World.news_of_block (cs := #[.int .i64 x, .int .i64 r]) (t := 55) (fr := (0, 0)) (heap_alloc_new _ _)) (by intro u hu; simp at hu; rcases hu with rfl | rfl <;> rfl) (by unfold maxLen; omega) (by omega) (by simp; omega) ?_; intro v7 w7 hown _ hgrow hfr; replace hgrow := drew_grown hgrow; replace hfr := drew_fresh hfr; have hF7 := own_snocD' hown; obtain ⟨o7, c7, rfl⟩ := snoc_shape hF7; have hO7 := (hO.keep hba).far hgrow ap; have ap7 := apartR_next (hO.keep hba) ap hfr; have kg7 := (kg.keep hba).grown hgrow (fun e => nF e.symm); have nF7 : (Value.slice o7 (F.length + 1) c7).ownBlock ≠ some g := (fun e9 => by rcases hfr with h | h; (rw [h] at e9; exact nF e9); (have h8 := h g e9; have h9 := kg.lt; simp at h8; omega)); have hb7 := (Below.trans hb (hba.mono (by omega))).grown hgrow (by simp; omega) (fun k9 e9 => (World.ownsRow.lt hF k9 e9).1); have q4 := kg7.cell 4 (.slice fo F.length fc) rfl; have p4 := kg7.free 4; clear hown hgrow hfr)
            | fail)
          all_goals
            have kg8 := kg7.set 4 (.slice o7 (F.length + 1) c7)
            have hO8 := ownRows_setAvoid hO7 nO 4 (.slice o7 (F.length + 1) c7)
            have hF8 := hF7.set_ne 4 (.slice o7 (F.length + 1) c7) nF7
            have hb8 := Below.setCell (p := (⟨g, 4, none⟩ : Addr)) hb7 hBg (.slice o7 (F.length + 1) c7)
            have hl9 : (F ++ [(x, r)]).length = F.length + 1 := by simp
            clear kg7 hO7 hF7 hb7 q4 p4 d0 d1 n4 n4b
            go_wp2
            first | (refine bodyPost_ret (v := .tuple #[]) (by simp [results, Try.results98, go_sem]) rfl ?_) | (refine bodyPost_end (v := .tuple #[]) (by simp [results, Try.results98, go_sem]) rfl ?_)
            rw [HV.out]
            dsimp only; rw [hl9]
            exact ⟨o7, c7, rfl, kg8, hO8, hF8, ap7, nF7, hb8⟩
      · (refine wp_region_after (by kernel_rfl) (by kernel_rfl) ?_; have q_d0 := fun (x : After _) => cell_keep d0 x.bel; have q_d1 := fun (x : After _) => cell_keep d1 x.bel; have q_n4 := fun (x : After _) => cell_keep n4 x.bel; (repeat (go_big_quiet_step ((go_at_call 148; exact Ans.after (Ans.eqb (HCV.out _ _ _ (hdF.keep (After.bel _))) h2))))); clear q_d0; clear q_d1; clear q_n4; refine wpQuiet_nil ?_; rintro _ ⟨⟨w1, hbn⟩, rfl⟩; (try simp only [After.w]); replace kg := kg.keep hbn; replace kd := kd.keep hbn; replace hO := hO.keep hbn; replace hF := OwnD.keep hF hbn; replace hb := below_toB hb hBw hbn; clear hbn)
        have HV : Hid (z = (F, t)) := by show z = _; rw [HZ.out, h1, h2]; rfl
        clear d0 d1 n4 hdF hq
        go_wp2
        first | (refine bodyPost_ret (v := .tuple #[]) (by simp [results, Try.results98, go_sem]) rfl ?_) | (refine bodyPost_end (v := .tuple #[]) (by simp [results, Try.results98, go_sem]) rfl ?_)
        rw [HV.out]
        exact ⟨fo, fc, rfl, kg, hO, hF, ap, nF, hb⟩
    · have hq : (bits BinOp.and .i64 (x / 2 ^ r.toNat) 1 == 1) = true := h1
      (refine wp_region_after (by kernel_rfl) (by kernel_rfl) ?_; have q_d0 := fun (x : After _) => cell_keep d0 x.bel; have q_d1 := fun (x : After _) => cell_keep d1 x.bel; have q_n4 := fun (x : After _) => cell_keep n4 x.bel; (repeat (go_big_quiet_step (fail))); clear q_d0; clear q_d1; clear q_n4; refine wpQuiet_nil ?_; rintro _ ⟨⟨w1, hbn⟩, rfl⟩; (try simp only [After.w]); replace kg := kg.keep hbn; replace kd := kd.keep hbn; replace hO := hO.keep hbn; replace hF := OwnD.keep hF hbn; replace hb := below_toB hb hBw hbn; clear hbn)
      have HV : Hid (z = (F, t)) := by show z = _; rw [HZ.out, h1]; rfl
      clear d0 d1 n4 hdF hq
      go_wp2
      first | (refine bodyPost_ret (v := .tuple #[]) (by simp [results, Try.results98, go_sem]) rfl ?_) | (refine bodyPost_end (v := .tuple #[]) (by simp [results, Try.results98, go_sem]) rfl ?_)
      rw [HV.out]
      exact ⟨fo, fc, rfl, kg, hO, hF, ap, nF, hb⟩
end Go.Proofs.Ytjbmpnbfiahdhaa
namespace Go.Proofs.Ytjbmpnbfiahdhaa
open Go.RowKit
set_option linter.unusedVariables false
set_option maxRecDepth 100000

set_option maxHeartbeats 6400000 in
theorem c_RunSearch (A : Sr) (oa fa) (ca fca : Nat) (b : Int) (w : World) (hR : RowsC w oa A.R) (hD : DepsAt w fa A.F) (hnil : fa = none → fca = 0) :
    SrRes 29 #[.agg #[.int .i64 A.n, .slice oa A.R.length ca, .int .i64 A.m, .int .i64 A.a, .slice fa A.F.length fca, .int .i64 A.t], .int .i64 b] w (runSr A b) (fun v => v) := by
  unfold SrRes
  have H := fun w' h1 h2 => c_copySearch A oa fa ca fca w' h1 h2 hnil
  have HI := fun w' h1 h2 => c_IsSearch A oa fa ca fca w' h1 h2
  unfold SrRes at H
  obtain ⟨n, R, m, a, F, t⟩ := A
  dsimp only at *
  have hb := bel2 w (.cells #[.int .i64 n, .slice oa R.length ca, .int .i64 m, .int .i64 a, .slice fa F.length fca, .int .i64 t] 39) (.cells srZ 39)
  have kA := (Blk.new w #[.int .i64 n, .slice oa R.length ca, .int .i64 m, .int .i64 a, .slice fa F.length fca, .int .i64 t] 39).alloc (.cells srZ 39)
  have kZ := Blk.new (w.alloc (.cells #[.int .i64 n, .slice oa R.length ca, .int .i64 m, .int .i64 a, .slice fa F.length fca, .int .i64 t] 39)) srZ 39
  simp only [World.size_alloc] at kZ
  unfold srZ at hb kA kZ
  have s0 := kA.cell 0 (.int .i64 n) rfl
  have s1 := kA.cell 1 (.slice oa R.length ca) rfl
  have s2 := kA.cell 2 (.int .i64 m) rfl
  have s3 := kA.cell 3 (.int .i64 a) rfl
  have s4 := kA.cell 4 (.slice fa F.length fca) rfl
  have s5 := kA.cell 5 (.int .i64 t) rfl
  go_enter Try.func29, Try.ntmps29
  go_wp2_with fail
  refine (H _ (hR.keep hb) (hD.keep hb)).mono ?_
  clear H
  rintro e w1 ⟨o, c, fo, fc, xs, rfl, hO, hF, ap, hbn⟩
  simp only [World.size_alloc] at hO hF
  replace kA := kA.keep hbn
  replace kZ := kZ.keep hbn
  replace hb := bel_to hb hbn
  have hs1 : w.heap.size + 1 < w1.heap.size := kZ.lt
  clear hbn s0 s1 s2 s3 s4 s5
  have kT := Blk.new w1 #[.int .i64 n, .slice o R.length c, .int .i64 m, .int .i64 a, .slice fo F.length fc, .int .i64 t] 39
  have hba := (Below.refl w1.heap.size w1).alloc (Nat.le_refl _) (.cells #[.int .i64 n, .slice o R.length c, .int .i64 m, .int .i64 a, .slice fo F.length fc, .int .i64 t] 39)
  have nO : Avoid w1.heap.size (.slice o R.length c) xs := fun y hy e => by
    have := hO.old (Nat.le_refl _) y hy _ e
    omega
  have nF : (Value.slice fo F.length fc).ownBlock ≠ some w1.heap.size := hF.not_new (Nat.le_refl _)
  replace kA := kA.keep hba
  replace kZ := kZ.keep hba
  replace hO := hO.keep hba
  replace hF := hF.keep hba
  replace hb := bel_to hb hba
  clear hba
  have s0 := kA.cell 0 (.int .i64 n) rfl
  have s1 := kA.cell 1 (.slice oa R.length ca) rfl
  have s2 := kA.cell 2 (.int .i64 m) rfl
  have s3 := kA.cell 3 (.int .i64 a) rfl
  have s4 := kA.cell 4 (.slice fa F.length fca) rfl
  have s5 := kA.cell 5 (.int .i64 t) rfl
  go_upto_region 2 with fail
  generalize w1.alloc (.cells #[.int .i64 n, .slice o R.length c, .int .i64 m, .int .i64 a, .slice fo F.length fc, .int .i64 t] 39) = w2 at *
  generalize w1.heap.size = k5 at *
  go_wp2_with fail
  cases hs : isSrF ⟨n, R, m, a, F, t⟩
  · have HV : Hid (runSr ⟨n, R, m, a, F, t⟩ b = ⟨n, R, m, a, F, t⟩) := by show _ = _; unfold runSr; rw [hs]; rfl
    refine Calls.mono (Ans.eqb (HI _ (hR.keep hb) (hD.keep hb)) hs) ?_
    rintro e w3 ⟨rfl, hbn⟩
    replace kA := kA.keep hbn
    replace kZ := kZ.keep hbn
    replace kT := kT.keep hbn
    replace hO := hO.keep hbn
    replace hF := hF.keep hbn
    replace hb := bel_to hb hbn
    clear hbn s0 s1 s2 s3 s4 s5 hs HI
    have r0 := kT.cell 0 (.int .i64 n) rfl
    have r1 := kT.cell 1 (.slice o R.length c) rfl
    have r2 := kT.cell 2 (.int .i64 m) rfl
    have r3 := kT.cell 3 (.int .i64 a) rfl
    have r4 := kT.cell 4 (.slice fo F.length fc) rfl
    have r5 := kT.cell 5 (.int .i64 t) rfl
    have z0 := kZ.cell 0 (.int .i64 0) rfl
    have z1 := kZ.cell 1 (.slice none 0 0) rfl
    have z2 := kZ.cell 2 (.int .i64 0) rfl
    have z3 := kZ.cell 3 (.int .i64 0) rfl
    have z4 := kZ.cell 4 (.slice none 0 0) rfl
    have z5 := kZ.cell 5 (.int .i64 0) rfl
    have g0 := kZ.free 0
    have g1 := kZ.free 1
    have g2 := kZ.free 2
    have g3 := kZ.free 3
    have g4 := kZ.free 4
    have g5 := kZ.free 5
    have k6 := kZ.set6 (.int .i64 n) (.slice o R.length c) (.int .i64 m) (.int .i64 a) (.slice fo F.length fc) (.int .i64 t)
    unfold set6 at k6
    have q0 := k6.cell 0 _ rfl
    have q1 := k6.cell 1 _ rfl
    have q2 := k6.cell 2 _ rfl
    have q3 := k6.cell 3 _ rfl
    have q4 := k6.cell 4 _ rfl
    have q5 := k6.cell 5 _ rfl
    go_wp2
    refine bodyPost_ret (v := .agg #[.int .i64 n, .slice o R.length c, .int .i64 m, .int .i64 a, .slice fo F.length fc, .int .i64 t]) (by simp only [results, Try.results29]; simp [go_sem, q0, q1, q2, q3, q4, q5]) rfl ?_
    rw [HV.out]
    exact ⟨o, c, fo, fc, xs, rfl, (hO.far6 (show w.heap.size + 1 < w.heap.size + 1 + 1 by omega) _ _ _ _ _ _).based (by omega), (OwnD.set6 hF (fun e => by have := (World.ownsRow.lt hF _ e).1; omega) _ _ _ _ _ _).based (by omega), ap, bel_set6 hb (Nat.le_succ _) _ _ _ _ _ _⟩
  · obtain ⟨N, K, hnN, haK, hN1, hN5, hKM, ht, hm, hrep⟩ := isSr_of hs
    dsimp only at hnN haK ht hm hrep
    subst hnN haK
    have HV : Hid (runSr ⟨(N : Int), R, m, (K : Int), F, t⟩ b = ⟨N, R, m, (stopAt R m N (N * 2 ^ N) b t (N * 2 ^ N - K) K : Nat), (repF R m N (stopAt R m N (N * 2 ^ N) b t (N * 2 ^ N - K) K)).1, (repF R m N (stopAt R m N (N * 2 ^ N) b t (N * 2 ^ N - K) K)).2⟩) := by
      show _ = _; unfold runSr stopF; rw [hs]; simp only [Int.toNat_natCast]; rfl
    have hc160 := count_le hN5
    obtain ⟨_, _, _, hlen⟩ := isTab_of ht
    have HLR : Hid (∀ j, j < R.length → (row R j).length ≤ Room) := fun j hj => by have := hlen j hj; unfold Room; omega
    have hRl := hR.1.len
    clear hlen
    have HCO : Hid (∀ w', Ans Try.prog 101 #[.int .i64 N] w' (.int .i64 ((N * 2 ^ N : Nat) : Int))) := fun w' => c_candidatesOf N hN5 w'
    have HK : Hid (∀ k, k ≤ N * 2 ^ N → (∀ o ∈ (repF R m N k).1, St o.1 ∧ Co o.2) ∧ (repF R m N k).1.length ≤ k ∧ 0 ≤ (repF R m N k).2 ∧ (repF R m N k).2 ≤ k) := fun k hk => rep_ok hN5 hN1 k hk
    have HS : Hid (∀ k, repF R m N (k + 1) = stepF R m N k (repF R m N k)) := fun k => rfl
    have HSF : Hid (∀ (o : Option Addr) (c k : Nat) (fo : Option Addr) (fc : Nat) (g : Int) (G : List (Int × Int)) (B : Nat) (w' : World), RowsAt w' o R → k < N * 2 ^ N → OwnD w' B (.slice fo G.length fc) G → B ≤ w'.heap.size → G.length ≤ 160 → 0 ≤ g → g ≤ 160 →
        Calls Try.prog 102 #[.agg #[.int .i64 N, .slice o R.length c, .int .i64 m, .int .i64 k, .slice fo G.length fc, .int .i64 g]] w' fun e w'' => ∃ fo' fc', e = .returned (.agg #[.int .i64 N, .slice o R.length c, .int .i64 m, .int .i64 ((k : Int) + 1), .slice fo' (stepF R m N k (G, g)).1.length fc', .int .i64 (stepF R m N k (G, g)).2]) ∧ OwnD w'' B (.slice fo' (stepF R m N k (G, g)).1.length fc') (stepF R m N k (G, g)).1 ∧ Fresh w' (.slice fo G.length fc) (.slice fo' (stepF R m N k (G, g)).1.length fc') ∧ Below w'.heap.size w' w'') :=
      fun o c k fo fc g G B w' h1 h2 h3 h4 h5 h6 h7 => c_step N k o fo c fc R m g G B w' h1 ht hm h2 h3 h4 h5 h6 h7
    have ht0 : 0 ≤ t ∧ t ≤ 160 := by have := HK.out K hKM; rw [hrep] at this; dsimp only at this; omega
    have HSE : Hid (∀ k, k < N * 2 ^ N → stopAt R m N (N * 2 ^ N) b t (N * 2 ^ N - k) k = if decide (k < N * 2 ^ N) && decide ((repF R m N k).2 - t < b) then stopAt R m N (N * 2 ^ N) b t (N * 2 ^ N - (k + 1)) (k + 1) else k) := fun k hk => stopAt_step hk
    have HSX : Hid (stopAt R m N (N * 2 ^ N) b t (N * 2 ^ N - N * 2 ^ N) (N * 2 ^ N) = N * 2 ^ N) := stopAt_end
    generalize hM : N * 2 ^ N = M at *
    refine Calls.mono (Ans.eqb (HI _ (hR.keep hb) (hD.keep hb)) hs) ?_
    rintro e w3 ⟨rfl, hbn⟩
    replace kA := kA.keep hbn
    replace kZ := kZ.keep hbn
    replace kT := kT.keep hbn
    replace hO := hO.keep hbn
    replace hF := hF.keep hbn
    replace hb := bel_to hb hbn
    clear hbn s0 s1 s2 s3 s4 s5 hs HI ht hm
    obtain ⟨S, hS⟩ : ∃ S, stopAt R m N M b t (M - K) K = S := ⟨_, rfl⟩
    have HSS : Hid (stopAt R m N M b t (M - K) K = S) := hS
    go_wp2
    go_loopw [18] (fun _ wr => ∃ (k : Nat) (G : List (Int × Int)) (g : Int) (fo : Option Addr) (fc : Nat), k ≤ M ∧ stopAt R m N M b t (M - k) k = S ∧ repF R m N k = (G, g) ∧ Blk wr k5 #[.int .i64 N, .slice o R.length c, .int .i64 m, .int .i64 k, .slice fo G.length fc, .int .i64 g] 39 ∧ OwnRows wr (w.heap.size + 1 + 1) (.slice o R.length c) xs R ∧ OwnD wr (w.heap.size + 1 + 1) (.slice fo G.length fc) G ∧ ApartR (.slice o R.length c) xs (.slice fo G.length fc) ∧ (Value.slice fo G.length fc).ownBlock ≠ some k5 ∧ Blk wr w.heap.size #[.int .i64 N, .slice oa R.length ca, .int .i64 m, .int .i64 K, .slice fa F.length fca, .int .i64 t] 39 ∧ Blk wr (w.heap.size + 1) #[.int .i64 0, .slice none 0 0, .int .i64 0, .int .i64 0, .slice none 0 0, .int .i64 0] 39 ∧ Below w.heap.size w wr) (fun _ wr => M - atOf wr k5)
    case atStart => exact ⟨K, F, t, fo, fc, hKM, hS, hrep, kT, hO, hF, ap, nF, kA, kZ, hb⟩
    case round =>
      clear kT hO hF ap nF kA kZ hb hS hrep hKM
      obtain ⟨k, G, g, fo, fc, hkM, hst, hGg, kT, hO, hF, ap, nF, kA, kZ, hb⟩ := hrel
      have HST : Hid (stopAt R m N M b t (M - k) k = S) := hst
      have HG : Hid (repF R m N k = (G, g)) := hGg
      obtain ⟨_, i2, i3, i4⟩ := HK.out k hkM
      rw [hGg] at i2 i3 i4
      dsimp only at i2 i3 i4
      clear hGg hst
      have n0 := kT.cell 0 (.int .i64 N) rfl
      have n1 := kT.cell 1 (.slice o R.length c) rfl
      have n2 := kT.cell 2 (.int .i64 m) rfl
      have n3 := kT.cell 3 (.int .i64 k) rfl
      have n4 := kT.cell 4 (.slice fo G.length fc) rfl
      have n5 := kT.cell 5 (.int .i64 g) rfl
      have s5 := kA.cell 5 (.int .i64 t) rfl
      have hkz := kZ.lt
      by_cases hlt : k < M
      · have hd1 : decide ((k : Int) < (M : Int)) = true := decide_eq_true (by omega)
        by_cases hgb : g - t < b
        · have hd2 : decide (g - t < b) = true := decide_eq_true hgb
          have HST2 : Hid (stopAt R m N M b t (M - (k + 1)) (k + 1) = S) := by
            show _ = S
            have := HSE.out k hlt
            rw [HG.out, decide_eq_true hlt, hd2] at this
            rw [← HST.out, this]; rfl
          have HSK : Hid (repF R m N (k + 1) = stepF R m N k (G, g)) := by show repF R m N (k + 1) = _; rw [HS.out, HG.out]
          have HM1 : Hid (atOf wr k5 = k) := atOf_eq n3
          go_wp2_with fail
          (refine wp_region_after (by kernel_rfl) (by kernel_rfl) ?_; have q_n0 := fun (x : After _) => cell_keep n0 x.bel; have q_n1 := fun (x : After _) => cell_keep n1 x.bel; have q_n2 := fun (x : After _) => cell_keep n2 x.bel; have q_n3 := fun (x : After _) => cell_keep n3 x.bel; have q_n4 := fun (x : After _) => cell_keep n4 x.bel; have q_n5 := fun (x : After _) => cell_keep n5 x.bel; have q_s5 := fun (x : After _) => cell_keep s5 x.bel; (repeat (go_big_quiet_step ((first | (go_at_call 101; exact Ans.after (HCO.out _)))))); clear q_n0; clear q_n1; clear q_n2; clear q_n3; clear q_n4; clear q_n5; clear q_s5; refine wpQuiet_nil ?_; rintro _ ⟨⟨w1, hbn⟩, rfl⟩; (try simp only [After.w]); replace n0 := cell_keep n0 hbn; replace n1 := cell_keep n1 hbn; replace n2 := cell_keep n2 hbn; replace n3 := cell_keep n3 hbn; replace n4 := cell_keep n4 hbn; replace n5 := cell_keep n5 hbn; replace s5 := cell_keep s5 hbn; replace kT := kT.keep hbn; replace hO := hO.keep hbn; replace hF := OwnD.keep hF hbn; replace kA := kA.keep hbn; replace kZ := kZ.keep hbn; replace hb := bel_to (w := w) (by first | exact hb | exact hb.alloc hb.size _ | exact (hb.alloc hb.size _).alloc (Nat.le_trans hb.size (by simp)) _ | exact hb.setCell (by simp [hb.size]) _) hbn; clear hbn)
          go_wp2_with fail
          refine (HSF.out o c k fo fc g G (w.heap.size + 1 + 1) _ (hO.read hRl HLR.out) (by omega) hF (by have := kZ.lt; omega) (by omega) i3 (by omega)).mono ?_
          rintro e w4 ⟨fo', fc', rfl, hF', hfr, hbn⟩
          have hkl := kT.lt
          have ap' := apartR_next hO ap hfr
          have nF' : (Value.slice fo' (stepF R m N k (G, g)).1.length fc').ownBlock ≠ some k5 := fun e9 => by
            rcases hfr with h | h
            · rw [h] at e9; exact nF e9
            · have := h k5 e9; omega
          replace kT := kT.keep hbn
          replace hO := hO.keep hbn
          replace kA := kA.keep hbn
          replace kZ := kZ.keep hbn
          replace hb := bel_to hb hbn
          clear hbn hfr n0 n1 n2 n3 n4 n5 s5 hF ap nF
          obtain ⟨z9, hz9⟩ : ∃ z, stepF R m N k (G, g) = z := ⟨_, rfl⟩
          rw [hz9] at hF' ap' nF'
          have HZ9 : Hid (stepF R m N k (G, g) = z9) := hz9
          rw [hz9]
          clear hz9
          have n0 := kT.cell 0 (.int .i64 N) rfl
          have n1 := kT.cell 1 (.slice o R.length c) rfl
          have n2 := kT.cell 2 (.int .i64 m) rfl
          have n3 := kT.cell 3 (.int .i64 k) rfl
          have n4 := kT.cell 4 (.slice fo G.length fc) rfl
          have n5 := kT.cell 5 (.int .i64 g) rfl
          have g0 := kT.free 0
          have g1 := kT.free 1
          have g2 := kT.free 2
          have g3 := kT.free 3
          have g4 := kT.free 4
          have g5 := kT.free 5
          have hk5 : w.heap.size + 1 < k5 := hs1
          have kT2 := kT.set6 (.int .i64 N) (.slice o R.length c) (.int .i64 m) (.int .i64 ((k : Int) + 1)) (.slice fo' z9.1.length fc') (.int .i64 z9.2)
          have hO2 := ownRows_set6 hO nO (.int .i64 N) (.slice o R.length c) (.int .i64 m) (.int .i64 ((k : Int) + 1)) (.slice fo' z9.1.length fc') (.int .i64 z9.2)
          have hF2 := OwnD.set6 hF' nF' (.int .i64 N) (.slice o R.length c) (.int .i64 m) (.int .i64 ((k : Int) + 1)) (.slice fo' z9.1.length fc') (.int .i64 z9.2)
          have kA2 := kA.far6 (k := k5) (by omega) (.int .i64 N) (.slice o R.length c) (.int .i64 m) (.int .i64 ((k : Int) + 1)) (.slice fo' z9.1.length fc') (.int .i64 z9.2)
          have kZ2 := kZ.far6 (k := k5) (by omega) (.int .i64 N) (.slice o R.length c) (.int .i64 m) (.int .i64 ((k : Int) + 1)) (.slice fo' z9.1.length fc') (.int .i64 z9.2)
          have hb2 := bel_set6 hb (show w.heap.size ≤ k5 by omega) (.int .i64 N) (.slice o R.length c) (.int .i64 m) (.int .i64 ((k : Int) + 1)) (.slice fo' z9.1.length fc') (.int .i64 z9.2)
          have n3' := kT2.cell 3 _ rfl
          have HM2 : Hid (atOf (set6 w4 k5 (.int .i64 N) (.slice o R.length c) (.int .i64 m) (.int .i64 ((k : Int) + 1)) (.slice fo' z9.1.length fc') (.int .i64 z9.2)) k5 = k + 1) := atOf_eq (by rw [Int.natCast_add]; exact n3')
          clear n3' kT hO kA kZ hb
          unfold set6 at kT2 hO2 hF2 kA2 kZ2 hb2 HM2
          go_wp2
          go_roundw
          case rel => exact ⟨k + 1, z9.1, z9.2, fo', fc', by omega, HST2.out, by rw [HSK.out, HZ9.out], kT2, hO2, hF2, ap', nF', kA2, kZ2, hb2⟩
          case measure => rw [HM1.out, HM2.out]; omega
        · have hd2 : decide (g - t < b) = false := decide_eq_false hgb
          have HSK : Hid (S = k) := by
            show S = k
            have := HSE.out k hlt
            rw [HG.out, decide_eq_true hlt, hd2] at this
            rw [← HST.out, this]; rfl
          go_wp2_with fail
          (refine wp_region_after (by kernel_rfl) (by kernel_rfl) ?_; have q_n0 := fun (x : After _) => cell_keep n0 x.bel; have q_n1 := fun (x : After _) => cell_keep n1 x.bel; have q_n2 := fun (x : After _) => cell_keep n2 x.bel; have q_n3 := fun (x : After _) => cell_keep n3 x.bel; have q_n4 := fun (x : After _) => cell_keep n4 x.bel; have q_n5 := fun (x : After _) => cell_keep n5 x.bel; have q_s5 := fun (x : After _) => cell_keep s5 x.bel; (repeat (go_big_quiet_step ((first | (go_at_call 101; exact Ans.after (HCO.out _)))))); clear q_n0; clear q_n1; clear q_n2; clear q_n3; clear q_n4; clear q_n5; clear q_s5; refine wpQuiet_nil ?_; rintro _ ⟨⟨w1, hbn⟩, rfl⟩; (try simp only [After.w]); replace n0 := cell_keep n0 hbn; replace n1 := cell_keep n1 hbn; replace n2 := cell_keep n2 hbn; replace n3 := cell_keep n3 hbn; replace n4 := cell_keep n4 hbn; replace n5 := cell_keep n5 hbn; replace s5 := cell_keep s5 hbn; replace kT := kT.keep hbn; replace hO := hO.keep hbn; replace hF := OwnD.keep hF hbn; replace kA := kA.keep hbn; replace kZ := kZ.keep hbn; replace hb := bel_to (w := w) (by first | exact hb | exact hb.alloc hb.size _ | exact (hb.alloc hb.size _).alloc (Nat.le_trans hb.size (by simp)) _ | exact hb.setCell (by simp [hb.size]) _) hbn; clear hbn)
          have z0 := kZ.cell 0 (.int .i64 0) rfl
          have z1 := kZ.cell 1 (.slice none 0 0) rfl
          have z2 := kZ.cell 2 (.int .i64 0) rfl
          have z3 := kZ.cell 3 (.int .i64 0) rfl
          have z4 := kZ.cell 4 (.slice none 0 0) rfl
          have z5 := kZ.cell 5 (.int .i64 0) rfl
          have g0 := kZ.free 0
          have g1 := kZ.free 1
          have g2 := kZ.free 2
          have g3 := kZ.free 3
          have g4 := kZ.free 4
          have g5 := kZ.free 5
          have k6 := kZ.set6 (.int .i64 N) (.slice o R.length c) (.int .i64 m) (.int .i64 k) (.slice fo G.length fc) (.int .i64 g)
          unfold set6 at k6
          have q0 := k6.cell 0 _ rfl
          have q1 := k6.cell 1 _ rfl
          have q2 := k6.cell 2 _ rfl
          have q3 := k6.cell 3 _ rfl
          have q4 := k6.cell 4 _ rfl
          have q5 := k6.cell 5 _ rfl
          go_wp2
          refine bodyPost_ret (v := .agg #[.int .i64 N, .slice o R.length c, .int .i64 m, .int .i64 k, .slice fo G.length fc, .int .i64 g]) (by simp only [results, Try.results29]; simp [go_sem, q0, q1, q2, q3, q4, q5]) rfl ?_
          rw [HV.out, HSS.out, HSK.out, HG.out]
          exact ⟨o, c, fo, fc, xs, rfl, (hO.far6 (show w.heap.size + 1 < w.heap.size + 1 + 1 by omega) _ _ _ _ _ _).based (by omega), (OwnD.set6 hF (fun e => by have := (World.ownsRow.lt hF _ e).1; omega) _ _ _ _ _ _).based (by omega), ap, bel_set6 hb (Nat.le_succ _) _ _ _ _ _ _⟩
      · have hkk : k = M := by omega
        have HSK : Hid (S = k) := by
          show S = k
          rw [← HST.out, hkk]; exact HSX.out
        have hd1 : decide ((k : Int) < (M : Int)) = false := decide_eq_false (by omega)
        clear hkk
        go_wp2_with fail
        (refine wp_region_after (by kernel_rfl) (by kernel_rfl) ?_; have q_n0 := fun (x : After _) => cell_keep n0 x.bel; have q_n1 := fun (x : After _) => cell_keep n1 x.bel; have q_n2 := fun (x : After _) => cell_keep n2 x.bel; have q_n3 := fun (x : After _) => cell_keep n3 x.bel; have q_n4 := fun (x : After _) => cell_keep n4 x.bel; have q_n5 := fun (x : After _) => cell_keep n5 x.bel; have q_s5 := fun (x : After _) => cell_keep s5 x.bel; (repeat (go_big_quiet_step ((first | (go_at_call 101; exact Ans.after (HCO.out _)))))); clear q_n0; clear q_n1; clear q_n2; clear q_n3; clear q_n4; clear q_n5; clear q_s5; refine wpQuiet_nil ?_; rintro _ ⟨⟨w1, hbn⟩, rfl⟩; (try simp only [After.w]); replace n0 := cell_keep n0 hbn; replace n1 := cell_keep n1 hbn; replace n2 := cell_keep n2 hbn; replace n3 := cell_keep n3 hbn; replace n4 := cell_keep n4 hbn; replace n5 := cell_keep n5 hbn; replace s5 := cell_keep s5 hbn; replace kT := kT.keep hbn; replace hO := hO.keep hbn; replace hF := OwnD.keep hF hbn; replace kA := kA.keep hbn; replace kZ := kZ.keep hbn; replace hb := bel_to (w := w) (by first | exact hb | exact hb.alloc hb.size _ | exact (hb.alloc hb.size _).alloc (Nat.le_trans hb.size (by simp)) _ | exact hb.setCell (by simp [hb.size]) _) hbn; clear hbn)
        have z0 := kZ.cell 0 (.int .i64 0) rfl
        have z1 := kZ.cell 1 (.slice none 0 0) rfl
        have z2 := kZ.cell 2 (.int .i64 0) rfl
        have z3 := kZ.cell 3 (.int .i64 0) rfl
        have z4 := kZ.cell 4 (.slice none 0 0) rfl
        have z5 := kZ.cell 5 (.int .i64 0) rfl
        have g0 := kZ.free 0
        have g1 := kZ.free 1
        have g2 := kZ.free 2
        have g3 := kZ.free 3
        have g4 := kZ.free 4
        have g5 := kZ.free 5
        have k6 := kZ.set6 (.int .i64 N) (.slice o R.length c) (.int .i64 m) (.int .i64 k) (.slice fo G.length fc) (.int .i64 g)
        unfold set6 at k6
        have q0 := k6.cell 0 _ rfl
        have q1 := k6.cell 1 _ rfl
        have q2 := k6.cell 2 _ rfl
        have q3 := k6.cell 3 _ rfl
        have q4 := k6.cell 4 _ rfl
        have q5 := k6.cell 5 _ rfl
        go_wp2
        refine bodyPost_ret (v := .agg #[.int .i64 N, .slice o R.length c, .int .i64 m, .int .i64 k, .slice fo G.length fc, .int .i64 g]) (by simp only [results, Try.results29]; simp [go_sem, q0, q1, q2, q3, q4, q5]) rfl ?_
        rw [HV.out, HSS.out, HSK.out, HG.out]
        exact ⟨o, c, fo, fc, xs, rfl, (hO.far6 (show w.heap.size + 1 < w.heap.size + 1 + 1 by omega) _ _ _ _ _ _).based (by omega), (OwnD.set6 hF (fun e => by have := (World.ownsRow.lt hF _ e).1; omega) _ _ _ _ _ _).based (by omega), ap, bel_set6 hb (Nat.le_succ _) _ _ _ _ _ _⟩
end Go.Proofs.Ytjbmpnbfiahdhaa
namespace Go.Proofs.Ytjbmpnbfiahdhaa
open Go.RowKit
set_option linter.unusedVariables false
set_option maxRecDepth 100000

def candAtF (A : Sr) : Int × Int × Bool := if isSrF A && !(A.a == cntF A.n) then ((candF A.n.toNat A.a.toNat).1, (candF A.n.toNat A.a.toNat).2, true) else (0, 0, false)
theorem isSr_at {A : Sr} (h : isSrF A = true) (h' : (A.a == cntF A.n) = false) : ∃ N K : Nat, A.n = N ∧ A.a = K ∧ 1 ≤ N ∧ N ≤ 5 ∧ K < N * 2 ^ N := by
  obtain ⟨h1, h5⟩ := isSr_tab h
  unfold isSrF at h
  simp only [Bool.and_eq_true, decide_eq_true_eq] at h
  have h6 := h.1.2
  have hne : A.a ≠ cntF A.n := by simpa using h'
  unfold cntF at h6 hne
  refine ⟨A.n.toNat, A.a.toNat, by omega, by omega, by omega, by omega, ?_⟩
  generalize A.n.toNat * 2 ^ A.n.toNat = M at *
  omega

end Go.Proofs.Ytjbmpnbfiahdhaa
namespace Go.Proofs.Ytjbmpnbfiahdhaa
open Go.RowKit
set_option linter.unusedVariables false
set_option maxRecDepth 100000

theorem run_sizes {A : Sr} {b : Int} (h1 : A.R.length ≤ Room) (h4 : A.F.length ≤ Room) (h2 : (sumL A.R A.R.length : Int) ≤ 1048576) (h3 : ∀ j, j < A.R.length → (row A.R j).length ≤ Room) : (runSr A b).R.length ≤ Room ∧ (runSr A b).F.length ≤ Room ∧ (sumL (runSr A b).R (runSr A b).R.length : Int) ≤ 1048576 ∧ (∀ j, j < (runSr A b).R.length → (row (runSr A b).R j).length ≤ Room) ∧ True := by
  unfold runSr
  cases hs : isSrF A
  · exact ⟨h1, h4, h2, h3, trivial⟩
  · obtain ⟨N, K, hn, ha, hN1, hN5, hK, _⟩ := isSr_of hs
    refine ⟨h1, ?_, h2, h3, trivial⟩
    have e : stopF A b ≤ N * 2 ^ N := by
      unfold stopF; rw [hn, ha]; simp only [Int.toNat_natCast]; exact (stopAt_le _ _ hK).1
    have := (rep_ok (R := A.R) (m := A.m) hN5 hN1 _ e).2.1
    have := count_le hN5
    simp only [if_true, hn, Int.toNat_natCast]
    unfold Room; omega
set_option maxHeartbeats 12800000 in
theorem c_specRunSearch (A : Sr) (oa fa) (ca fca : Nat) (b : Int) (w : World) (hR : RowsC w oa A.R) (hRs : A.R.length ≤ 1048576 ∧ ∀ j, j < A.R.length → (row A.R j).length ≤ 1048576) (hD : DepsAt w fa A.F) (hDs : A.F.length ≤ 1048576) (hnil : fa = none → fca = 0) :
    SrRes 27 #[.agg #[.int .i64 A.n, .slice oa A.R.length ca, .int .i64 A.m, .int .i64 A.a, .slice fa A.F.length fca, .int .i64 A.t], .int .i64 b] w (runSr A b) (fun v => v) := by
  unfold SrRes
  have H := fun w' h1 h2 => c_l8Copy A oa fa ca fca w' h1 hRs h2 hDs hnil
  have HI := fun w' h1 h2 => c_specIsSearch A oa fa ca fca w' h1 h2
  unfold SrRes at H
  obtain ⟨n, R, m, a, F, t⟩ := A
  dsimp only at *
  have hb := bel2 w (.cells #[.int .i64 n, .slice oa R.length ca, .int .i64 m, .int .i64 a, .slice fa F.length fca, .int .i64 t] 39) (.cells srZ 39)
  have kA := (Blk.new w #[.int .i64 n, .slice oa R.length ca, .int .i64 m, .int .i64 a, .slice fa F.length fca, .int .i64 t] 39).alloc (.cells srZ 39)
  have kZ := Blk.new (w.alloc (.cells #[.int .i64 n, .slice oa R.length ca, .int .i64 m, .int .i64 a, .slice fa F.length fca, .int .i64 t] 39)) srZ 39
  simp only [World.size_alloc] at kZ
  unfold srZ at hb kA kZ
  have s0 := kA.cell 0 (.int .i64 n) rfl
  have s1 := kA.cell 1 (.slice oa R.length ca) rfl
  have s2 := kA.cell 2 (.int .i64 m) rfl
  have s3 := kA.cell 3 (.int .i64 a) rfl
  have s4 := kA.cell 4 (.slice fa F.length fca) rfl
  have s5 := kA.cell 5 (.int .i64 t) rfl
  go_enter Try.func27, Try.ntmps27
  go_wp2_with fail
  refine (H _ (hR.keep hb) (hD.keep hb)).mono ?_
  clear H
  rintro e w1 ⟨o, c, fo, fc, xs, rfl, hO, hF, ap, hbn⟩
  simp only [World.size_alloc] at hO hF
  replace kA := kA.keep hbn
  replace kZ := kZ.keep hbn
  replace hb := bel_to hb hbn
  have hs1 : w.heap.size + 1 < w1.heap.size := kZ.lt
  clear hbn s0 s1 s2 s3 s4 s5
  have kT := Blk.new w1 #[.int .i64 n, .slice o R.length c, .int .i64 m, .int .i64 a, .slice fo F.length fc, .int .i64 t] 39
  have hba := (Below.refl w1.heap.size w1).alloc (Nat.le_refl _) (.cells #[.int .i64 n, .slice o R.length c, .int .i64 m, .int .i64 a, .slice fo F.length fc, .int .i64 t] 39)
  have nO : Avoid w1.heap.size (.slice o R.length c) xs := fun y hy e => by
    have := hO.old (Nat.le_refl _) y hy _ e
    omega
  have nF : (Value.slice fo F.length fc).ownBlock ≠ some w1.heap.size := hF.not_new (Nat.le_refl _)
  replace kA := kA.keep hba
  replace kZ := kZ.keep hba
  replace hO := hO.keep hba
  replace hF := hF.keep hba
  replace hb := bel_to hb hba
  clear hba
  have s0 := kA.cell 0 (.int .i64 n) rfl
  have s1 := kA.cell 1 (.slice oa R.length ca) rfl
  have s2 := kA.cell 2 (.int .i64 m) rfl
  have s3 := kA.cell 3 (.int .i64 a) rfl
  have s4 := kA.cell 4 (.slice fa F.length fca) rfl
  have s5 := kA.cell 5 (.int .i64 t) rfl
  go_upto_region 2 with fail
  generalize w1.alloc (.cells #[.int .i64 n, .slice o R.length c, .int .i64 m, .int .i64 a, .slice fo F.length fc, .int .i64 t] 39) = w2 at *
  generalize w1.heap.size = k5 at *
  go_wp2_with fail
  cases hs : isSrF ⟨n, R, m, a, F, t⟩
  · have HV : Hid (runSr ⟨n, R, m, a, F, t⟩ b = ⟨n, R, m, a, F, t⟩) := by show _ = _; unfold runSr; rw [hs]; rfl
    refine Calls.mono (Ans.eqb (HI _ (hR.keep hb).1 (hD.keep hb)) hs) ?_
    rintro e w3 ⟨rfl, hbn⟩
    replace kA := kA.keep hbn
    replace kZ := kZ.keep hbn
    replace kT := kT.keep hbn
    replace hO := hO.keep hbn
    replace hF := hF.keep hbn
    replace hb := bel_to hb hbn
    clear hbn s0 s1 s2 s3 s4 s5 hs HI
    have r0 := kT.cell 0 (.int .i64 n) rfl
    have r1 := kT.cell 1 (.slice o R.length c) rfl
    have r2 := kT.cell 2 (.int .i64 m) rfl
    have r3 := kT.cell 3 (.int .i64 a) rfl
    have r4 := kT.cell 4 (.slice fo F.length fc) rfl
    have r5 := kT.cell 5 (.int .i64 t) rfl
    have z0 := kZ.cell 0 (.int .i64 0) rfl
    have z1 := kZ.cell 1 (.slice none 0 0) rfl
    have z2 := kZ.cell 2 (.int .i64 0) rfl
    have z3 := kZ.cell 3 (.int .i64 0) rfl
    have z4 := kZ.cell 4 (.slice none 0 0) rfl
    have z5 := kZ.cell 5 (.int .i64 0) rfl
    have g0 := kZ.free 0
    have g1 := kZ.free 1
    have g2 := kZ.free 2
    have g3 := kZ.free 3
    have g4 := kZ.free 4
    have g5 := kZ.free 5
    have k6 := kZ.set6 (.int .i64 n) (.slice o R.length c) (.int .i64 m) (.int .i64 a) (.slice fo F.length fc) (.int .i64 t)
    unfold set6 at k6
    have q0 := k6.cell 0 _ rfl
    have q1 := k6.cell 1 _ rfl
    have q2 := k6.cell 2 _ rfl
    have q3 := k6.cell 3 _ rfl
    have q4 := k6.cell 4 _ rfl
    have q5 := k6.cell 5 _ rfl
    go_wp2
    refine bodyPost_ret (v := .agg #[.int .i64 n, .slice o R.length c, .int .i64 m, .int .i64 a, .slice fo F.length fc, .int .i64 t]) (by simp only [results, Try.results27]; simp [go_sem, q0, q1, q2, q3, q4, q5]) rfl ?_
    rw [HV.out]
    exact ⟨o, c, fo, fc, xs, rfl, (hO.far6 (show w.heap.size + 1 < w.heap.size + 1 + 1 by omega) _ _ _ _ _ _).based (by omega), (OwnD.set6 hF (fun e => by have := (World.ownsRow.lt hF _ e).1; omega) _ _ _ _ _ _).based (by omega), ap, bel_set6 hb (Nat.le_succ _) _ _ _ _ _ _⟩
  · obtain ⟨N, K, hnN, haK, hN1, hN5, hKM, ht, hm, hrep⟩ := isSr_of hs
    dsimp only at hnN haK ht hm hrep
    subst hnN haK
    have HV : Hid (runSr ⟨(N : Int), R, m, (K : Int), F, t⟩ b = ⟨N, R, m, (stopAt R m N (N * 2 ^ N) b t (N * 2 ^ N - K) K : Nat), (repF R m N (stopAt R m N (N * 2 ^ N) b t (N * 2 ^ N - K) K)).1, (repF R m N (stopAt R m N (N * 2 ^ N) b t (N * 2 ^ N - K) K)).2⟩) := by
      show _ = _; unfold runSr stopF; rw [hs]; simp only [Int.toNat_natCast]; rfl
    have hc160 := count_le hN5
    obtain ⟨_, _, _, hlen⟩ := isTab_of ht
    have HLR : Hid (∀ j, j < R.length → (row R j).length ≤ Room) := fun j hj => by have := hlen j hj; unfold Room; omega
    have hRl := hR.1.len
    clear hlen
    have HCO : Hid (∀ w', Ans Try.prog 97 #[.int .i64 N] w' (.int .i64 ((N * 2 ^ N : Nat) : Int))) := fun w' => c_l8Count N hN5 w'
    have HK : Hid (∀ k, k ≤ N * 2 ^ N → (∀ o ∈ (repF R m N k).1, St o.1 ∧ Co o.2) ∧ (repF R m N k).1.length ≤ k ∧ 0 ≤ (repF R m N k).2 ∧ (repF R m N k).2 ≤ k) := fun k hk => rep_ok hN5 hN1 k hk
    have HS : Hid (∀ k, repF R m N (k + 1) = stepF R m N k (repF R m N k)) := fun k => rfl
    have HSF : Hid (∀ (k : Nat) (fo : Option Addr) (fc : Nat) (g : Int) (G : List (Int × Int)) (g5 B : Nat) (w' : World), Blk w' g5 #[.int .i64 N, .slice o R.length c, .int .i64 m, .int .i64 k, .slice fo G.length fc, .int .i64 g] 39 → OwnRows w' B (.slice o R.length c) xs R → OwnD w' B (.slice fo G.length fc) G → ApartR (.slice o R.length c) xs (.slice fo G.length fc) → Avoid g5 (.slice o R.length c) xs → (Value.slice fo G.length fc).ownBlock ≠ some g5 → B ≤ g5 → k < N * 2 ^ N → G.length ≤ 160 → (∀ d ∈ G, St d.1 ∧ Co d.2) → 0 ≤ g → g ≤ 160 → Calls Try.prog 98 #[.pointer (some ⟨g5, 0, none⟩)] w' fun e w'' => ∃ fo' fc', e = .returned (.tuple #[]) ∧ Blk w'' g5 #[.int .i64 N, .slice o R.length c, .int .i64 m, .int .i64 ((k : Int) + 1), .slice fo' (stepF R m N k (G, g)).1.length fc', .int .i64 (stepF R m N k (G, g)).2] 39 ∧ OwnRows w'' B (.slice o R.length c) xs R ∧ OwnD w'' B (.slice fo' (stepF R m N k (G, g)).1.length fc') (stepF R m N k (G, g)).1 ∧ ApartR (.slice o R.length c) xs (.slice fo' (stepF R m N k (G, g)).1.length fc') ∧ (Value.slice fo' (stepF R m N k (G, g)).1.length fc').ownBlock ≠ some g5 ∧ Below B w' w'') :=
      fun k fo fc g G g5 B w' h1 h2 h3 h4 h5 h6 h7 h8 h9 h10 h11 h12 => c_l8Step N k o fo c fc R m g G g5 B xs w' h1 h2 h3 h4 h5 h6 h7 ht h8 h9 h10 h11 h12
    have ht0 : 0 ≤ t ∧ t ≤ 160 := by have := HK.out K hKM; rw [hrep] at this; dsimp only at this; omega
    have HSE : Hid (∀ k, k < N * 2 ^ N → stopAt R m N (N * 2 ^ N) b t (N * 2 ^ N - k) k = if decide (k < N * 2 ^ N) && decide ((repF R m N k).2 - t < b) then stopAt R m N (N * 2 ^ N) b t (N * 2 ^ N - (k + 1)) (k + 1) else k) := fun k hk => stopAt_step hk
    have HSX : Hid (stopAt R m N (N * 2 ^ N) b t (N * 2 ^ N - N * 2 ^ N) (N * 2 ^ N) = N * 2 ^ N) := stopAt_end
    generalize hM : N * 2 ^ N = M at *
    refine Calls.mono (Ans.eqb (HI _ (hR.keep hb).1 (hD.keep hb)) hs) ?_
    rintro e w3 ⟨rfl, hbn⟩
    replace kA := kA.keep hbn
    replace kZ := kZ.keep hbn
    replace kT := kT.keep hbn
    replace hO := hO.keep hbn
    replace hF := hF.keep hbn
    replace hb := bel_to hb hbn
    clear hbn s0 s1 s2 s3 s4 s5 hs HI ht hm
    obtain ⟨S, hS⟩ : ∃ S, stopAt R m N M b t (M - K) K = S := ⟨_, rfl⟩
    have HSS : Hid (stopAt R m N M b t (M - K) K = S) := hS
    go_wp2
    go_loopw [18] (fun _ wr => ∃ (k : Nat) (G : List (Int × Int)) (g : Int) (fo : Option Addr) (fc : Nat), k ≤ M ∧ stopAt R m N M b t (M - k) k = S ∧ repF R m N k = (G, g) ∧ Blk wr k5 #[.int .i64 N, .slice o R.length c, .int .i64 m, .int .i64 k, .slice fo G.length fc, .int .i64 g] 39 ∧ OwnRows wr (w.heap.size + 1 + 1) (.slice o R.length c) xs R ∧ OwnD wr (w.heap.size + 1 + 1) (.slice fo G.length fc) G ∧ ApartR (.slice o R.length c) xs (.slice fo G.length fc) ∧ (Value.slice fo G.length fc).ownBlock ≠ some k5 ∧ Blk wr w.heap.size #[.int .i64 N, .slice oa R.length ca, .int .i64 m, .int .i64 K, .slice fa F.length fca, .int .i64 t] 39 ∧ Blk wr (w.heap.size + 1) #[.int .i64 0, .slice none 0 0, .int .i64 0, .int .i64 0, .slice none 0 0, .int .i64 0] 39 ∧ Below w.heap.size w wr) (fun _ wr => M - atOf wr k5)
    case atStart => exact ⟨K, F, t, fo, fc, hKM, hS, hrep, kT, hO, hF, ap, nF, kA, kZ, hb⟩
    case round =>
      clear kT hO hF ap nF kA kZ hb hS hrep hKM
      obtain ⟨k, G, g, fo, fc, hkM, hst, hGg, kT, hO, hF, ap, nF, kA, kZ, hb⟩ := hrel
      have HST : Hid (stopAt R m N M b t (M - k) k = S) := hst
      have HG : Hid (repF R m N k = (G, g)) := hGg
      obtain ⟨i1, i2, i3, i4⟩ := HK.out k hkM
      rw [hGg] at i1 i2 i3 i4
      dsimp only at i1 i2 i3 i4
      have HI1 : Hid (∀ d ∈ G, St d.1 ∧ Co d.2) := i1
      clear i1
      clear hGg hst
      have n0 := kT.cell 0 (.int .i64 N) rfl
      have n1 := kT.cell 1 (.slice o R.length c) rfl
      have n2 := kT.cell 2 (.int .i64 m) rfl
      have n3 := kT.cell 3 (.int .i64 k) rfl
      have n4 := kT.cell 4 (.slice fo G.length fc) rfl
      have n5 := kT.cell 5 (.int .i64 g) rfl
      have s5 := kA.cell 5 (.int .i64 t) rfl
      have hkz := kZ.lt
      by_cases hlt : k < M
      · have hd1 : decide ((k : Int) < (M : Int)) = true := decide_eq_true (by omega)
        by_cases hgb : g - t < b
        · have hd2 : decide (g - t < b) = true := decide_eq_true hgb
          have HST2 : Hid (stopAt R m N M b t (M - (k + 1)) (k + 1) = S) := by
            show _ = S
            have := HSE.out k hlt
            rw [HG.out, decide_eq_true hlt, hd2] at this
            rw [← HST.out, this]; rfl
          have HSK : Hid (repF R m N (k + 1) = stepF R m N k (G, g)) := by show repF R m N (k + 1) = _; rw [HS.out, HG.out]
          have HM1 : Hid (atOf wr k5 = k) := atOf_eq n3
          go_wp2_with fail
          (refine wp_region_after (by kernel_rfl) (by kernel_rfl) ?_; have q_n0 := fun (x : After _) => cell_keep n0 x.bel; have q_n1 := fun (x : After _) => cell_keep n1 x.bel; have q_n2 := fun (x : After _) => cell_keep n2 x.bel; have q_n3 := fun (x : After _) => cell_keep n3 x.bel; have q_n4 := fun (x : After _) => cell_keep n4 x.bel; have q_n5 := fun (x : After _) => cell_keep n5 x.bel; have q_s5 := fun (x : After _) => cell_keep s5 x.bel; (repeat (go_big_quiet_step ((first | (go_at_call 97; exact Ans.after (HCO.out _)))))); clear q_n0; clear q_n1; clear q_n2; clear q_n3; clear q_n4; clear q_n5; clear q_s5; refine wpQuiet_nil ?_; rintro _ ⟨⟨w1, hbn⟩, rfl⟩; (try simp only [After.w]); replace n0 := cell_keep n0 hbn; replace n1 := cell_keep n1 hbn; replace n2 := cell_keep n2 hbn; replace n3 := cell_keep n3 hbn; replace n4 := cell_keep n4 hbn; replace n5 := cell_keep n5 hbn; replace s5 := cell_keep s5 hbn; replace kT := kT.keep hbn; replace hO := hO.keep hbn; replace hF := OwnD.keep hF hbn; replace kA := kA.keep hbn; replace kZ := kZ.keep hbn; replace hb := bel_to (w := w) (by first | exact hb | exact hb.alloc hb.size _ | exact (hb.alloc hb.size _).alloc (Nat.le_trans hb.size (by simp)) _ | exact hb.setCell (by simp [hb.size]) _) hbn; clear hbn)
          go_wp2_with fail
          refine (HSF.out k fo fc g G k5 (w.heap.size + 1 + 1) _ kT hO hF ap nO nF hs1 (by omega) (by omega) HI1.out i3 (by omega)).mono ?_
          rintro e w4 ⟨fo', fc', rfl, kT2, hO2, hF2, ap', nF', hbn⟩
          replace kA := kA.keepTo (show w.heap.size < w.heap.size + 1 + 1 by omega) hbn
          replace kZ := kZ.keepTo (show w.heap.size + 1 < w.heap.size + 1 + 1 by omega) hbn
          replace hb := Below.trans hb (hbn.mono (show w.heap.size ≤ w.heap.size + 1 + 1 by omega))
          clear hbn n0 n1 n2 n3 n4 n5 s5 hF ap nF kT hO
          obtain ⟨z9, hz9⟩ : ∃ z, stepF R m N k (G, g) = z := ⟨_, rfl⟩
          rw [hz9] at kT2 hF2 ap' nF'
          have HZ9 : Hid (stepF R m N k (G, g) = z9) := hz9
          clear hz9
          have n3' := kT2.cell 3 _ rfl
          have HM2 : Hid (atOf w4 k5 = k + 1) := atOf_eq (by rw [Int.natCast_add]; exact n3')
          clear n3'
          go_wp2
          go_roundw
          case rel => exact ⟨k + 1, z9.1, z9.2, fo', fc', by omega, HST2.out, by rw [HSK.out, HZ9.out], kT2, hO2, hF2, ap', nF', kA, kZ, hb⟩
          case measure => rw [HM1.out, HM2.out]; omega
        · have hd2 : decide (g - t < b) = false := decide_eq_false hgb
          have HSK : Hid (S = k) := by
            show S = k
            have := HSE.out k hlt
            rw [HG.out, decide_eq_true hlt, hd2] at this
            rw [← HST.out, this]; rfl
          go_wp2_with fail
          (refine wp_region_after (by kernel_rfl) (by kernel_rfl) ?_; have q_n0 := fun (x : After _) => cell_keep n0 x.bel; have q_n1 := fun (x : After _) => cell_keep n1 x.bel; have q_n2 := fun (x : After _) => cell_keep n2 x.bel; have q_n3 := fun (x : After _) => cell_keep n3 x.bel; have q_n4 := fun (x : After _) => cell_keep n4 x.bel; have q_n5 := fun (x : After _) => cell_keep n5 x.bel; have q_s5 := fun (x : After _) => cell_keep s5 x.bel; (repeat (go_big_quiet_step ((first | (go_at_call 97; exact Ans.after (HCO.out _)))))); clear q_n0; clear q_n1; clear q_n2; clear q_n3; clear q_n4; clear q_n5; clear q_s5; refine wpQuiet_nil ?_; rintro _ ⟨⟨w1, hbn⟩, rfl⟩; (try simp only [After.w]); replace n0 := cell_keep n0 hbn; replace n1 := cell_keep n1 hbn; replace n2 := cell_keep n2 hbn; replace n3 := cell_keep n3 hbn; replace n4 := cell_keep n4 hbn; replace n5 := cell_keep n5 hbn; replace s5 := cell_keep s5 hbn; replace kT := kT.keep hbn; replace hO := hO.keep hbn; replace hF := OwnD.keep hF hbn; replace kA := kA.keep hbn; replace kZ := kZ.keep hbn; replace hb := bel_to (w := w) (by first | exact hb | exact hb.alloc hb.size _ | exact (hb.alloc hb.size _).alloc (Nat.le_trans hb.size (by simp)) _ | exact hb.setCell (by simp [hb.size]) _) hbn; clear hbn)
          have z0 := kZ.cell 0 (.int .i64 0) rfl
          have z1 := kZ.cell 1 (.slice none 0 0) rfl
          have z2 := kZ.cell 2 (.int .i64 0) rfl
          have z3 := kZ.cell 3 (.int .i64 0) rfl
          have z4 := kZ.cell 4 (.slice none 0 0) rfl
          have z5 := kZ.cell 5 (.int .i64 0) rfl
          have g0 := kZ.free 0
          have g1 := kZ.free 1
          have g2 := kZ.free 2
          have g3 := kZ.free 3
          have g4 := kZ.free 4
          have g5 := kZ.free 5
          have k6 := kZ.set6 (.int .i64 N) (.slice o R.length c) (.int .i64 m) (.int .i64 k) (.slice fo G.length fc) (.int .i64 g)
          unfold set6 at k6
          have q0 := k6.cell 0 _ rfl
          have q1 := k6.cell 1 _ rfl
          have q2 := k6.cell 2 _ rfl
          have q3 := k6.cell 3 _ rfl
          have q4 := k6.cell 4 _ rfl
          have q5 := k6.cell 5 _ rfl
          go_wp2
          refine bodyPost_ret (v := .agg #[.int .i64 N, .slice o R.length c, .int .i64 m, .int .i64 k, .slice fo G.length fc, .int .i64 g]) (by simp only [results, Try.results27]; simp [go_sem, q0, q1, q2, q3, q4, q5]) rfl ?_
          rw [HV.out, HSS.out, HSK.out, HG.out]
          exact ⟨o, c, fo, fc, xs, rfl, (hO.far6 (show w.heap.size + 1 < w.heap.size + 1 + 1 by omega) _ _ _ _ _ _).based (by omega), (OwnD.set6 hF (fun e => by have := (World.ownsRow.lt hF _ e).1; omega) _ _ _ _ _ _).based (by omega), ap, bel_set6 hb (Nat.le_succ _) _ _ _ _ _ _⟩
      · have hkk : k = M := by omega
        have HSK : Hid (S = k) := by
          show S = k
          rw [← HST.out, hkk]; exact HSX.out
        have hd1 : decide ((k : Int) < (M : Int)) = false := decide_eq_false (by omega)
        clear hkk
        go_wp2_with fail
        (refine wp_region_after (by kernel_rfl) (by kernel_rfl) ?_; have q_n0 := fun (x : After _) => cell_keep n0 x.bel; have q_n1 := fun (x : After _) => cell_keep n1 x.bel; have q_n2 := fun (x : After _) => cell_keep n2 x.bel; have q_n3 := fun (x : After _) => cell_keep n3 x.bel; have q_n4 := fun (x : After _) => cell_keep n4 x.bel; have q_n5 := fun (x : After _) => cell_keep n5 x.bel; have q_s5 := fun (x : After _) => cell_keep s5 x.bel; (repeat (go_big_quiet_step ((first | (go_at_call 97; exact Ans.after (HCO.out _)))))); clear q_n0; clear q_n1; clear q_n2; clear q_n3; clear q_n4; clear q_n5; clear q_s5; refine wpQuiet_nil ?_; rintro _ ⟨⟨w1, hbn⟩, rfl⟩; (try simp only [After.w]); replace n0 := cell_keep n0 hbn; replace n1 := cell_keep n1 hbn; replace n2 := cell_keep n2 hbn; replace n3 := cell_keep n3 hbn; replace n4 := cell_keep n4 hbn; replace n5 := cell_keep n5 hbn; replace s5 := cell_keep s5 hbn; replace kT := kT.keep hbn; replace hO := hO.keep hbn; replace hF := OwnD.keep hF hbn; replace kA := kA.keep hbn; replace kZ := kZ.keep hbn; replace hb := bel_to (w := w) (by first | exact hb | exact hb.alloc hb.size _ | exact (hb.alloc hb.size _).alloc (Nat.le_trans hb.size (by simp)) _ | exact hb.setCell (by simp [hb.size]) _) hbn; clear hbn)
        have z0 := kZ.cell 0 (.int .i64 0) rfl
        have z1 := kZ.cell 1 (.slice none 0 0) rfl
        have z2 := kZ.cell 2 (.int .i64 0) rfl
        have z3 := kZ.cell 3 (.int .i64 0) rfl
        have z4 := kZ.cell 4 (.slice none 0 0) rfl
        have z5 := kZ.cell 5 (.int .i64 0) rfl
        have g0 := kZ.free 0
        have g1 := kZ.free 1
        have g2 := kZ.free 2
        have g3 := kZ.free 3
        have g4 := kZ.free 4
        have g5 := kZ.free 5
        have k6 := kZ.set6 (.int .i64 N) (.slice o R.length c) (.int .i64 m) (.int .i64 k) (.slice fo G.length fc) (.int .i64 g)
        unfold set6 at k6
        have q0 := k6.cell 0 _ rfl
        have q1 := k6.cell 1 _ rfl
        have q2 := k6.cell 2 _ rfl
        have q3 := k6.cell 3 _ rfl
        have q4 := k6.cell 4 _ rfl
        have q5 := k6.cell 5 _ rfl
        go_wp2
        refine bodyPost_ret (v := .agg #[.int .i64 N, .slice o R.length c, .int .i64 m, .int .i64 k, .slice fo G.length fc, .int .i64 g]) (by simp only [results, Try.results27]; simp [go_sem, q0, q1, q2, q3, q4, q5]) rfl ?_
        rw [HV.out, HSS.out, HSK.out, HG.out]
        exact ⟨o, c, fo, fc, xs, rfl, (hO.far6 (show w.heap.size + 1 < w.heap.size + 1 + 1 by omega) _ _ _ _ _ _).based (by omega), (OwnD.set6 hF (fun e => by have := (World.ownsRow.lt hF _ e).1; omega) _ _ _ _ _ _).based (by omega), ap, bel_set6 hb (Nat.le_succ _) _ _ _ _ _ _⟩
end Go.Proofs.Ytjbmpnbfiahdhaa
namespace Go.Proofs.Ytjbmpnbfiahdhaa
open Go.RowKit
set_option linter.unusedVariables false
set_option maxRecDepth 100000

set_option maxHeartbeats 6400000 in
theorem w_FnExactRunSearch (w : World) {vS : Value} (inS : InSr w vS) (b : Int) (wf_b : (Lit.int .i64 b).wf = true) :
    Calls Try.prog 5 #[vS, .int .i64 b] w fun e w' => e = .returned (.bool true) ∧ Below w.heap.size w w' := by
  obtain ⟨n, m, a, t, oT, lT, cT, Ln, vD, rfl, hRI, ⟨oD, lD, cD, rfl, hmD, hDin⟩, wfm, wfa, wft⟩ := inS
  have hb := (Below.refl w.heap.size w).alloc (Nat.le_refl _) (.cells #[.int .i64 n, .slice oT lT cT, .int .i64 m, .int .i64 a, .slice oD lD cD, .int .i64 t] 47)
  have tb0 := box_at w #[.int .i64 n, .slice oT lT cT, .int .i64 m, .int .i64 a, .slice oD lD cD, .int .i64 t] 47 0 _ rfl
  have tb1 := box_at w #[.int .i64 n, .slice oT lT cT, .int .i64 m, .int .i64 a, .slice oD lD cD, .int .i64 t] 47 1 _ rfl
  have tb2 := box_at w #[.int .i64 n, .slice oT lT cT, .int .i64 m, .int .i64 a, .slice oD lD cD, .int .i64 t] 47 2 _ rfl
  have tb3 := box_at w #[.int .i64 n, .slice oT lT cT, .int .i64 m, .int .i64 a, .slice oD lD cD, .int .i64 t] 47 3 _ rfl
  have tb4 := box_at w #[.int .i64 n, .slice oT lT cT, .int .i64 m, .int .i64 a, .slice oD lD cD, .int .i64 t] 47 4 _ rfl
  have tb5 := box_at w #[.int .i64 n, .slice oT lT cT, .int .i64 m, .int .i64 a, .slice oD lD cD, .int .i64 t] 47 5 _ rfl
  go_enter Try.func5, Try.ntmps5
  go_wp2_with fail
  refine (c_szSearch n m a t _ _ _ _ _ _ _ 1048576 (by omega) (by omega) _ (hRI.keep hb) hmD).mono ?_
  rintro e w0 ⟨⟨x, rfl, hx⟩, hbn⟩
  replace tb0 := cell_keep tb0 hbn
  replace tb1 := cell_keep tb1 hbn
  replace tb2 := cell_keep tb2 hbn
  replace tb3 := cell_keep tb3 hbn
  replace tb4 := cell_keep tb4 hbn
  replace tb5 := cell_keep tb5 hbn
  replace hb := bel_to hb hbn
  clear hbn
  rcases hx with rfl | ⟨hx0, hx1, hx2, hx3⟩
  · go_wp2
    go_ret
    exact ⟨rfl, hb⟩
  obtain ⟨R0, rfl, hR, hRl⟩ := hRI.reads (by unfold Room; omega) (fun r hr => by have := sumN_one (Ln := Ln) hr; unfold Room; omega)
  obtain ⟨D0, rfl, hD⟩ := hDin (room_of (by omega))
  have hsum : (sumL R0 R0.length : Int) ≤ 1048576 := by rw [sumL_sumN hRl R0.length (Nat.le_refl _)]; omega
  have hDs : (D0.length : Int) ≤ 1048576 := by omega
  have hRoom : R0.length ≤ Room := hR.len
  have hDl : D0.length ≤ Room := hD.len
  have HRr : Hid (∀ j, j < R0.length → (row R0 j).length ≤ Room) := fun j hj => by rw [hRl j hj]; have := sumN_one (Ln := Ln) hj; unfold Room; omega
  have HRs : Hid (R0.length ≤ 1048576 ∧ ∀ j, j < R0.length → (row R0 j).length ≤ 1048576) := ⟨by omega, fun j hj => by rw [hRl j hj]; have := sumN_one (Ln := Ln) hj; omega⟩
  clear hx2 hx3 hRl hRI hmD hDin
  obtain ⟨A0, rfl, rfl, rfl, rfl, rfl, rfl⟩ : ∃ A : Sr, n = A.n ∧ R0 = A.R ∧ m = A.m ∧ a = A.a ∧ D0 = A.F ∧ t = A.t := ⟨⟨n, R0, m, a, D0, t⟩, rfl, rfl, rfl, rfl, rfl, rfl⟩
  obtain ⟨A, HA⟩ : ∃ A, Hid (runSr A0 b = A) := ⟨_, rfl⟩
  have HA0 := (show Hid _ from run_sizes (b := b) hRoom hDl hsum HRr.out)
  rw [HA.out] at HA0
  have HDS : Hid (A0.F.length ≤ 1048576) := (by show _ ≤ _; omega)
  have HSP : Hid (∀ oa ca fa fca w, RowsC w oa A0.R → DepsAt w fa A0.F → (fa = none → fca = 0) → SrRes 27 #[.agg #[.int .i64 A0.n, .slice oa A0.R.length ca, .int .i64 A0.m, .int .i64 A0.a, .slice fa A0.F.length fca, .int .i64 A0.t], .int .i64 b] w A (fun v => v)) := fun oa ca fa fca w h1 h2 h3 => by have := c_specRunSearch A0 oa fa ca fca b w h1 HRs.out h2 HDS.out h3; rwa [HA.out] at this
  have HIM : Hid (∀ oa ca fa fca w, RowsC w oa A0.R → DepsAt w fa A0.F → (fa = none → fca = 0) → SrRes 29 #[.agg #[.int .i64 A0.n, .slice oa A0.R.length ca, .int .i64 A0.m, .int .i64 A0.a, .slice fa A0.F.length fca, .int .i64 A0.t], .int .i64 b] w A (fun v => v)) := fun oa ca fa fca w h1 h2 h3 => by have := c_RunSearch A0 oa fa ca fca b w h1 h2 h3; rwa [HA.out] at this
  have HAA : Hid (A.R.length ≤ Room ∧ A.F.length ≤ Room ∧ (sumL A.R A.R.length : Int) ≤ 1048576 ∧ (∀ j, j < A.R.length → (row A.R j).length ≤ Room) ∧ True) := HA0.out
  have HRA : Hid (∀ j, j < A.R.length → (row A.R j).length ≤ Room) := HAA.out.2.2.2.1
  have hRA : A.R.length ≤ Room := HAA.out.1
  have hFA : A.F.length ≤ Room := HAA.out.2.1
  have hSA : (sumL A.R A.R.length : Int) ≤ 1048576 := HAA.out.2.2.1
  have hFA2 : A.F.length ≤ 1073741824 := hFA
  go_wp2_with fail
  refine (c_toSearch A0 _ _ _ _ _ (hR.keep hb) (hD.keep hb)).mono ?_
  rintro e w1 ⟨o_s, c_s, f_s, g_s, ys_s, rfl, sO, sF, sA, hbn⟩
  replace tb0 := cell_keep tb0 hbn
  replace tb1 := cell_keep tb1 hbn
  replace tb2 := cell_keep tb2 hbn
  replace tb3 := cell_keep tb3 hbn
  replace tb4 := cell_keep tb4 hbn
  replace tb5 := cell_keep tb5 hbn
  replace hb := bel_to hb hbn
  clear hbn
  go_wp2_with fail
  have H := HSP.out o_s c_s f_s g_s _ (sO.readC hRoom HRr.out) (sF.deps rfl hDl) sF.nilcap
  unfold SrRes at H
  refine H.mono ?_
  clear H
  rintro e w2 ⟨o8, c8, f8, g8, xs8, rfl, hO8, hF8, ap8, hbn⟩
  clear sO sF sA
  have hbz := hb.size
  replace tb0 := cell_keep tb0 hbn
  replace tb1 := cell_keep tb1 hbn
  replace tb2 := cell_keep tb2 hbn
  replace tb3 := cell_keep tb3 hbn
  replace tb4 := cell_keep tb4 hbn
  replace tb5 := cell_keep tb5 hbn
  replace hb := bel_to hb hbn
  clear hbn
  replace hO8 := hO8.based hbz
  replace hF8 := hF8.based hbz
  clear hbz
  have k8 := Blk.new w2 #[.int .i64 A.n, .slice o8 A.R.length c8, .int .i64 A.m, .int .i64 A.a, .slice f8 A.F.length g8, .int .i64 A.t] 39
  have hbn := (Below.refl w2.heap.size w2).alloc (Nat.le_refl _) (.cells #[.int .i64 A.n, .slice o8 A.R.length c8, .int .i64 A.m, .int .i64 A.a, .slice f8 A.F.length g8, .int .i64 A.t] 39)
  replace tb0 := cell_keep tb0 hbn
  replace tb1 := cell_keep tb1 hbn
  replace tb2 := cell_keep tb2 hbn
  replace tb3 := cell_keep tb3 hbn
  replace tb4 := cell_keep tb4 hbn
  replace tb5 := cell_keep tb5 hbn
  replace hO8 := hO8.keep hbn
  replace hF8 := hF8.keep hbn
  replace hb := bel_to hb hbn
  clear hbn
  go_wp2_with fail
  refine (c_toSearch A0 _ _ _ _ _ (hR.keep hb) (hD.keep hb)).mono ?_
  rintro e w3 ⟨o_x, c_x, f_x, g_x, ys_x, rfl, xO, xF, xA, hbn⟩
  have oldO8 := hO8.old (Nat.le_refl _)
  have oldF8 := fun g e => (World.ownsRow.lt hF8 g e).2
  have hk8 := k8.lt
  have hbx := hb.size
  have hnx := hbn.size
  have htb := World.block_lt_of_cell? _ _ tb0
  simp only at htb
  have lowx := low_cons (fun g e => (World.ownsRow.lt xF g e).1) xO.low
  replace tb0 := cell_keep tb0 hbn
  replace tb1 := cell_keep tb1 hbn
  replace tb2 := cell_keep tb2 hbn
  replace tb3 := cell_keep tb3 hbn
  replace tb4 := cell_keep tb4 hbn
  replace tb5 := cell_keep tb5 hbn
  replace hO8 := hO8.keep hbn
  replace hF8 := hF8.keep hbn
  replace k8 := k8.keep hbn
  replace hb := bel_to hb hbn
  clear hbn
  have kx := Blk.new w3 #[.int .i64 A0.n, .slice o_x A0.R.length c_x, .int .i64 A0.m, .int .i64 A0.a, .slice f_x A0.F.length g_x, .int .i64 A0.t] 39
  have hbn := (Below.refl w3.heap.size w3).alloc (Nat.le_refl _) (.cells #[.int .i64 A0.n, .slice o_x A0.R.length c_x, .int .i64 A0.m, .int .i64 A0.a, .slice f_x A0.F.length g_x, .int .i64 A0.t] 39)
  replace tb0 := cell_keep tb0 hbn
  replace tb1 := cell_keep tb1 hbn
  replace tb2 := cell_keep tb2 hbn
  replace tb3 := cell_keep tb3 hbn
  replace tb4 := cell_keep tb4 hbn
  replace tb5 := cell_keep tb5 hbn
  replace hO8 := hO8.keep hbn
  replace hF8 := hF8.keep hbn
  replace k8 := k8.keep hbn
  replace xO := xO.keep hbn
  replace xF := xF.keep hbn
  replace hb := bel_to hb hbn
  clear hbn
  have x0 := kx.cell 0 (.int .i64 A0.n) rfl
  have x1 := kx.cell 1 (.slice o_x A0.R.length c_x) rfl
  have x2 := kx.cell 2 (.int .i64 A0.m) rfl
  have x3 := kx.cell 3 (.int .i64 A0.a) rfl
  have x4 := kx.cell 4 (.slice f_x A0.F.length g_x) rfl
  have x5 := kx.cell 5 (.int .i64 A0.t) rfl
  go_wp2_with fail
  have H := HIM.out o_x c_x f_x g_x _ (xO.readC hRoom HRr.out) (xF.deps rfl hDl) xF.nilcap
  unfold SrRes at H
  refine H.mono ?_
  clear H
  rintro e w4 ⟨o11, c11, f11, g11, xs11, rfl, hO11, hF11, ap11, hbn⟩
  have oldX := xO.old (Nat.le_refl _)
  have hix := hi_cons (fun g e => (World.ownsRow.lt xF g e).2) (fun y hy g e => oldX y (.inr hy) g e)
  have hb11 := hb.size
  have hn11 := hbn.size
  have low11 := low_cons (fun g e => (World.ownsRow.lt hF11 g e).1) hO11.low
  have old11 := hO11.old (Nat.le_refl _)
  have hi11 := hi_cons (fun g e => (World.ownsRow.lt hF11 g e).2) (fun y hy g e => old11 y (.inr hy) g e)
  replace tb0 := cell_keep tb0 hbn
  replace tb1 := cell_keep tb1 hbn
  replace tb2 := cell_keep tb2 hbn
  replace tb3 := cell_keep tb3 hbn
  replace tb4 := cell_keep tb4 hbn
  replace tb5 := cell_keep tb5 hbn
  replace hO8 := hO8.keep hbn
  replace hF8 := hF8.keep hbn
  replace k8 := k8.keep hbn
  replace xO := xO.keep hbn
  replace xF := xF.keep hbn
  replace kx := kx.keep hbn
  replace hb := bel_to hb hbn
  clear hbn
  clear x0 x1 x2 x3 x4 x5
  have k11 := Blk.new w4 #[.int .i64 A.n, .slice o11 A.R.length c11, .int .i64 A.m, .int .i64 A.a, .slice f11 A.F.length g11, .int .i64 A.t] 39
  have hbn := (Below.refl w4.heap.size w4).alloc (Nat.le_refl _) (.cells #[.int .i64 A.n, .slice o11 A.R.length c11, .int .i64 A.m, .int .i64 A.a, .slice f11 A.F.length g11, .int .i64 A.t] 39)
  replace tb0 := cell_keep tb0 hbn
  replace tb1 := cell_keep tb1 hbn
  replace tb2 := cell_keep tb2 hbn
  replace tb3 := cell_keep tb3 hbn
  replace tb4 := cell_keep tb4 hbn
  replace tb5 := cell_keep tb5 hbn
  replace hO8 := hO8.keep hbn
  replace hF8 := hF8.keep hbn
  replace k8 := k8.keep hbn
  replace xO := xO.keep hbn
  replace xF := xF.keep hbn
  replace kx := kx.keep hbn
  replace hO11 := hO11.keep hbn
  replace hF11 := hF11.keep hbn
  replace hb := bel_to hb hbn
  clear hbn
  have p0 := k11.cell 0 (.int .i64 A.n) rfl
  have p1 := k11.cell 1 (.slice o11 A.R.length c11) rfl
  have p2 := k11.cell 2 (.int .i64 A.m) rfl
  have p3 := k11.cell 3 (.int .i64 A.a) rfl
  have p4 := k11.cell 4 (.slice f11 A.F.length g11) rfl
  have p5 := k11.cell 5 (.int .i64 A.t) rfl
  have q0 := k8.cell 0 (.int .i64 A.n) rfl
  have q1 := k8.cell 1 (.slice o8 A.R.length c8) rfl
  have q2 := k8.cell 2 (.int .i64 A.m) rfl
  have q3 := k8.cell 3 (.int .i64 A.a) rfl
  have q4 := k8.cell 4 (.slice f8 A.F.length g8) rfl
  have q5 := k8.cell 5 (.int .i64 A.t) rfl
  go_wp2_with fail
  refine Calls.mono (c_eqSearch A A _ _ _ _ _ _ _ _ _ (hO11.read hRA HRA.out) (hO8.read hRA HRA.out) (hF11.deps rfl hFA) (hF8.deps rfl hFA) rfl) ?_
  rintro e w5 ⟨rfl, hbn⟩
  replace tb0 := cell_keep tb0 hbn
  replace tb1 := cell_keep tb1 hbn
  replace tb2 := cell_keep tb2 hbn
  replace tb3 := cell_keep tb3 hbn
  replace tb4 := cell_keep tb4 hbn
  replace tb5 := cell_keep tb5 hbn
  replace hO8 := hO8.keep hbn
  replace hF8 := hF8.keep hbn
  replace k8 := k8.keep hbn
  replace xO := xO.keep hbn
  replace xF := xF.keep hbn
  replace kx := kx.keep hbn
  replace hO11 := hO11.keep hbn
  replace hF11 := hF11.keep hbn
  replace k11 := k11.keep hbn
  replace hb := bel_to hb hbn
  clear hbn
  clear p0 p1 p2 p3 p4 p5
  clear q0 q1 q2 q3 q4 q5
  have x0 := kx.cell 0 (.int .i64 A0.n) rfl
  have x1 := kx.cell 1 (.slice o_x A0.R.length c_x) rfl
  have x2 := kx.cell 2 (.int .i64 A0.m) rfl
  have x3 := kx.cell 3 (.int .i64 A0.a) rfl
  have x4 := kx.cell 4 (.slice f_x A0.F.length g_x) rfl
  have x5 := kx.cell 5 (.int .i64 A0.t) rfl
  go_upto_region 10 with fail
  go_cut [35] from 31 to 35 (fun v wx => v = .bool false ∧ Below w5.heap.size w5 wx)
  case first =>
    have hRh := hR.keep hb
    have hDh := hD.keep hb
    have dtb0 := cell_keep tb0 (Below.refl _ _).drew
    have dtb1 := cell_keep tb1 (Below.refl _ _).drew
    have dtb2 := cell_keep tb2 (Below.refl _ _).drew
    have dtb3 := cell_keep tb3 (Below.refl _ _).drew
    have dtb4 := cell_keep tb4 (Below.refl _ _).drew
    have dtb5 := cell_keep tb5 (Below.refl _ _).drew
    have dx0 := cell_keep x0 (Below.refl _ _).drew
    have dx1 := cell_keep x1 (Below.refl _ _).drew
    have dx2 := cell_keep x2 (Below.refl _ _).drew
    have dx3 := cell_keep x3 (Below.refl _ _).drew
    have dx4 := cell_keep x4 (Below.refl _ _).drew
    have dx5 := cell_keep x5 (Below.refl _ _).drew
    go_region_law (first
      | ((try go_simp); refine (c_toSearch A0 _ _ _ _ _ (hRh.keep (by first | exact Below.refl _ _ | exact (Below.refl _ _).drew)) (hDh.keep (by first | exact Below.refl _ _ | exact (Below.refl _ _).drew))).mono ?_; rintro e wz ⟨o1, c1, f1, g1, ys1, rfl, h1, h2, _, hbn⟩; have hbz := bel_to (w := w5) (by first | exact Below.refl _ _ | exact (Below.refl _ _).drew) hbn; have y0 := cell_keep x0 hbz; have y1 := cell_keep x1 hbz; have y2 := cell_keep x2 hbz; have y3 := cell_keep x3 hbz; have y4 := cell_keep x4 hbz; have y5 := cell_keep x5 hbz; clear hbn)
      | ((try go_simp); refine Calls.mono (c_eqSearch A0 A0 _ _ _ _ _ _ _ _ _ ((xO.read hRoom HRr.out).keep hbz) (h1.read hRoom HRr.out) ((xF.deps rfl hDl).keep hbz) (h2.deps rfl hDl) rfl) ?_; rintro e wy ⟨rfl, hbn⟩; have hby := bel_to (w := w5) hbz hbn; clear hbn)
      | fail)
    all_goals
      go_wp2_with fail
      go_meet
      exact ⟨rfl, hby⟩
  case rest =>
    obtain ⟨rfl, hbn⟩ := hcut
    clear x0 x1 x2 x3 x4 x5
    replace tb0 := cell_keep tb0 hbn
    replace tb1 := cell_keep tb1 hbn
    replace tb2 := cell_keep tb2 hbn
    replace tb3 := cell_keep tb3 hbn
    replace tb4 := cell_keep tb4 hbn
    replace tb5 := cell_keep tb5 hbn
    replace hO8 := hO8.keep hbn
    replace hF8 := hF8.keep hbn
    replace k8 := k8.keep hbn
    replace xO := xO.keep hbn
    replace xF := xF.keep hbn
    replace kx := kx.keep hbn
    replace hO11 := hO11.keep hbn
    replace hF11 := hF11.keep hbn
    replace k11 := k11.keep hbn
    replace hb := bel_to hb hbn
    clear hbn
    have x0 := kx.cell 0 (.int .i64 A0.n) rfl
    have x1 := kx.cell 1 (.slice o_x A0.R.length c_x) rfl
    have x2 := kx.cell 2 (.int .i64 A0.m) rfl
    have x3 := kx.cell 3 (.int .i64 A0.a) rfl
    have x4 := kx.cell 4 (.slice f_x A0.F.length g_x) rfl
    have x5 := kx.cell 5 (.int .i64 A0.t) rfl
    go_wp2_with fail
    refine (c_markSearch A0 _ _ _ _ _ ys_x 1 _ xO xF xA hRoom hDl (by omega)).mono ?_
    rintro e w6 ⟨rfl, _, _, hg⟩
    have hkx : decide ((1 : Int) + (sumL A0.R A0.R.length : Int) + 2 * (A0.F.length : Int) < 0) = false := by simp; omega
    clear x0 x1 x2 x3 x4 x5
    replace hO8 := hO8.many hg lowx oldO8
    replace hF8 := OwnD.manyOld hF8 hg lowx oldF8
    replace k8 := k8.many hg (fun y hy e => by have := lowx y hy _ e; simp at this; omega)
    replace hO11 := ownRows_manyNew hO11 hg hix (Nat.le_refl _)
    replace hF11 := OwnD.manyNew hF11 hg hix (Nat.le_refl _)
    replace k11 := k11.many hg (fun y hy e => by have := hix y hy _ e; omega)
    replace tb0 := cell_many tb0 hg lowx htb
    replace tb1 := cell_many tb1 hg lowx htb
    replace tb2 := cell_many tb2 hg lowx htb
    replace tb3 := cell_many tb3 hg lowx htb
    replace tb4 := cell_many tb4 hg lowx htb
    replace tb5 := cell_many tb5 hg lowx htb
    replace hb := below_many hb (Nat.le_refl _) hg (fun y hy g e => by have := lowx y hy g e; simp at hbx; omega)
    clear hg lowx hix oldX kx xO xF xA
    have p0 := k11.cell 0 (.int .i64 A.n) rfl
    have p1 := k11.cell 1 (.slice o11 A.R.length c11) rfl
    have p2 := k11.cell 2 (.int .i64 A.m) rfl
    have p3 := k11.cell 3 (.int .i64 A.a) rfl
    have p4 := k11.cell 4 (.slice f11 A.F.length g11) rfl
    have p5 := k11.cell 5 (.int .i64 A.t) rfl
    have q0 := k8.cell 0 (.int .i64 A.n) rfl
    have q1 := k8.cell 1 (.slice o8 A.R.length c8) rfl
    have q2 := k8.cell 2 (.int .i64 A.m) rfl
    have q3 := k8.cell 3 (.int .i64 A.a) rfl
    have q4 := k8.cell 4 (.slice f8 A.F.length g8) rfl
    have q5 := k8.cell 5 (.int .i64 A.t) rfl
    go_wp2_with fail
    refine Calls.mono (c_eqSearch A A _ _ _ _ _ _ _ _ _ (hO11.read hRA HRA.out) (hO8.read hRA HRA.out) (hF11.deps rfl hFA) (hF8.deps rfl hFA) rfl) ?_
    rintro e w7 ⟨rfl, hbn⟩
    replace tb0 := cell_keep tb0 hbn
    replace tb1 := cell_keep tb1 hbn
    replace tb2 := cell_keep tb2 hbn
    replace tb3 := cell_keep tb3 hbn
    replace tb4 := cell_keep tb4 hbn
    replace tb5 := cell_keep tb5 hbn
    replace hO8 := hO8.keep hbn
    replace hF8 := hF8.keep hbn
    replace k8 := k8.keep hbn
    replace hO11 := hO11.keep hbn
    replace hF11 := hF11.keep hbn
    replace k11 := k11.keep hbn
    replace hb := bel_to hb hbn
    clear hbn
    clear p0 p1 p2 p3 p4 p5
    clear q0 q1 q2 q3 q4 q5
    have p0 := k11.cell 0 (.int .i64 A.n) rfl
    have p1 := k11.cell 1 (.slice o11 A.R.length c11) rfl
    have p2 := k11.cell 2 (.int .i64 A.m) rfl
    have p3 := k11.cell 3 (.int .i64 A.a) rfl
    have p4 := k11.cell 4 (.slice f11 A.F.length g11) rfl
    have p5 := k11.cell 5 (.int .i64 A.t) rfl
    go_wp2_with fail
    refine (c_markSearch A _ _ _ _ _ xs11 1 _ hO11 hF11 ap11 hRA hFA (by omega)).mono ?_
    rintro e w8 ⟨rfl, mO11, mF11, hg⟩
    clear p0 p1 p2 p3 p4 p5
    replace hO11 := mO11
    replace hF11 := mF11
    clear mO11 mF11
    have lowy : ∀ y ∈ (Value.slice f11 A.F.length g11 :: xs11), ∀ g, y.ownBlock = some g → w3.heap.size ≤ g := fun y hy g e => by have := low11 y hy g e; simp at this; omega
    replace k8 := k8.many hg (fun y hy e => by have := lowy y hy _ e; have := hk8; omega)
    replace k11 := k11.many hg (fun y hy e => by have := hi11 y hy _ e; omega)
    replace hO8 := hO8.many hg lowy (oldR_le oldO8 hnx)
    replace hF8 := OwnD.manyOld hF8 hg lowy (fun g e => by have := oldF8 g e; omega)
    replace tb0 := cell_many tb0 hg lowy (by omega)
    replace tb1 := cell_many tb1 hg lowy (by omega)
    replace tb2 := cell_many tb2 hg lowy (by omega)
    replace tb3 := cell_many tb3 hg lowy (by omega)
    replace tb4 := cell_many tb4 hg lowy (by omega)
    replace tb5 := cell_many tb5 hg lowy (by omega)
    replace hb := below_many hb (Nat.le_refl _) hg (fun y hy g e => by have := lowy y hy g e; omega)
    clear hg low11 hi11 old11 lowy oldO8 oldF8
    have hs0 : decide (((1 : Int) + (sumL A.R A.R.length : Int) + 2 * (A.F.length : Int)) < 0) = false := by simp; omega
    have hs1 : (((1 : Int) + (sumL A.R A.R.length : Int) + 2 * (A.F.length : Int)) != ((1 : Int) + (sumL A.R A.R.length : Int) + 2 * (A.F.length : Int))) = false := by simp
    have p0 := k11.cell 0 (.int .i64 A.n) rfl
    have p1 := k11.cell 1 (.slice o11 A.R.length c11) rfl
    have p2 := k11.cell 2 (.int .i64 A.m) rfl
    have p3 := k11.cell 3 (.int .i64 A.a) rfl
    have p4 := k11.cell 4 (.slice f11 A.F.length g11) rfl
    have p5 := k11.cell 5 (.int .i64 A.t) rfl
    go_wp2_with fail
    refine Calls.mono (c_heldSearch A _ _ _ _ 1 _ (hO11.readSeq hRA HRA.out) (hF11.deps (seqD_length _ _).symm (by rw [seqD_length]; exact hFA)) (by omega) hFA) ?_
    rintro e w9 ⟨rfl, hbn⟩
    replace tb0 := cell_keep tb0 hbn
    replace tb1 := cell_keep tb1 hbn
    replace tb2 := cell_keep tb2 hbn
    replace tb3 := cell_keep tb3 hbn
    replace tb4 := cell_keep tb4 hbn
    replace tb5 := cell_keep tb5 hbn
    replace hO8 := hO8.keep hbn
    replace hF8 := hF8.keep hbn
    replace k8 := k8.keep hbn
    replace hO11 := hO11.keep hbn
    replace hF11 := hF11.keep hbn
    replace k11 := k11.keep hbn
    replace hb := bel_to hb hbn
    clear hbn
    clear p0 p1 p2 p3 p4 p5
    go_wp2_with fail
    refine (c_toSearch A0 _ _ _ _ _ (hR.keep hb) (hD.keep hb)).mono ?_
    rintro e w10 ⟨o_u, c_u, f_u, g_u, ys_u, rfl, uO, uF, uA, hbn⟩
    replace tb0 := cell_keep tb0 hbn
    replace tb1 := cell_keep tb1 hbn
    replace tb2 := cell_keep tb2 hbn
    replace tb3 := cell_keep tb3 hbn
    replace tb4 := cell_keep tb4 hbn
    replace tb5 := cell_keep tb5 hbn
    replace hO8 := hO8.keep hbn
    replace hF8 := hF8.keep hbn
    replace k8 := k8.keep hbn
    replace hO11 := hO11.keep hbn
    replace hF11 := hF11.keep hbn
    replace k11 := k11.keep hbn
    replace hb := bel_to hb hbn
    clear hbn
    go_wp2_with fail
    have H := HIM.out o_u c_u f_u g_u _ (uO.readC hRoom HRr.out) (uF.deps rfl hDl) uF.nilcap
    unfold SrRes at H
    refine H.mono ?_
    clear H
    rintro e w11 ⟨o6, c6, f6, g6, xs6, rfl, hO6, hF6, ap6, hbn⟩
    clear uO uF uA
    replace tb0 := cell_keep tb0 hbn
    replace tb1 := cell_keep tb1 hbn
    replace tb2 := cell_keep tb2 hbn
    replace tb3 := cell_keep tb3 hbn
    replace tb4 := cell_keep tb4 hbn
    replace tb5 := cell_keep tb5 hbn
    replace hO8 := hO8.keep hbn
    replace hF8 := hF8.keep hbn
    replace k8 := k8.keep hbn
    replace hO11 := hO11.keep hbn
    replace hF11 := hF11.keep hbn
    replace k11 := k11.keep hbn
    replace hb := bel_to hb hbn
    clear hbn
    have k6 := Blk.new w11 #[.int .i64 A.n, .slice o6 A.R.length c6, .int .i64 A.m, .int .i64 A.a, .slice f6 A.F.length g6, .int .i64 A.t] 39
    have hbn := (Below.refl w11.heap.size w11).alloc (Nat.le_refl _) (.cells #[.int .i64 A.n, .slice o6 A.R.length c6, .int .i64 A.m, .int .i64 A.a, .slice f6 A.F.length g6, .int .i64 A.t] 39)
    replace tb0 := cell_keep tb0 hbn
    replace tb1 := cell_keep tb1 hbn
    replace tb2 := cell_keep tb2 hbn
    replace tb3 := cell_keep tb3 hbn
    replace tb4 := cell_keep tb4 hbn
    replace tb5 := cell_keep tb5 hbn
    replace hO8 := hO8.keep hbn
    replace hF8 := hF8.keep hbn
    replace k8 := k8.keep hbn
    replace hO11 := hO11.keep hbn
    replace hF11 := hF11.keep hbn
    replace k11 := k11.keep hbn
    replace hO6 := hO6.keep hbn
    replace hF6 := hF6.keep hbn
    replace hb := bel_to hb hbn
    clear hbn
    have p0 := k6.cell 0 (.int .i64 A.n) rfl
    have p1 := k6.cell 1 (.slice o6 A.R.length c6) rfl
    have p2 := k6.cell 2 (.int .i64 A.m) rfl
    have p3 := k6.cell 3 (.int .i64 A.a) rfl
    have p4 := k6.cell 4 (.slice f6 A.F.length g6) rfl
    have p5 := k6.cell 5 (.int .i64 A.t) rfl
    have q0 := k8.cell 0 (.int .i64 A.n) rfl
    have q1 := k8.cell 1 (.slice o8 A.R.length c8) rfl
    have q2 := k8.cell 2 (.int .i64 A.m) rfl
    have q3 := k8.cell 3 (.int .i64 A.a) rfl
    have q4 := k8.cell 4 (.slice f8 A.F.length g8) rfl
    have q5 := k8.cell 5 (.int .i64 A.t) rfl
    go_wp2_with fail
    refine Calls.mono (c_eqSearch A A _ _ _ _ _ _ _ _ _ (hO6.read hRA HRA.out) (hO8.read hRA HRA.out) (hF6.deps rfl hFA) (hF8.deps rfl hFA) rfl) ?_
    rintro e w12 ⟨rfl, hbn⟩
    replace tb0 := cell_keep tb0 hbn
    replace tb1 := cell_keep tb1 hbn
    replace tb2 := cell_keep tb2 hbn
    replace tb3 := cell_keep tb3 hbn
    replace tb4 := cell_keep tb4 hbn
    replace tb5 := cell_keep tb5 hbn
    replace hO8 := hO8.keep hbn
    replace hF8 := hF8.keep hbn
    replace k8 := k8.keep hbn
    replace hO11 := hO11.keep hbn
    replace hF11 := hF11.keep hbn
    replace k11 := k11.keep hbn
    replace hO6 := hO6.keep hbn
    replace hF6 := hF6.keep hbn
    replace k6 := k6.keep hbn
    replace hb := bel_to hb hbn
    clear hbn
    clear p0 p1 p2 p3 p4 p5
    clear q0 q1 q2 q3 q4 q5
    have p0 := k11.cell 0 (.int .i64 A.n) rfl
    have p1 := k11.cell 1 (.slice o11 A.R.length c11) rfl
    have p2 := k11.cell 2 (.int .i64 A.m) rfl
    have p3 := k11.cell 3 (.int .i64 A.a) rfl
    have p4 := k11.cell 4 (.slice f11 A.F.length g11) rfl
    have p5 := k11.cell 5 (.int .i64 A.t) rfl
    go_wp2_with fail
    refine Calls.mono (c_heldSearch A _ _ _ _ 1 _ (hO11.readSeq hRA HRA.out) (hF11.deps (seqD_length _ _).symm (by rw [seqD_length]; exact hFA)) (by omega) hFA) ?_
    rintro e w13 ⟨rfl, hbn⟩
    replace tb0 := cell_keep tb0 hbn
    replace tb1 := cell_keep tb1 hbn
    replace tb2 := cell_keep tb2 hbn
    replace tb3 := cell_keep tb3 hbn
    replace tb4 := cell_keep tb4 hbn
    replace tb5 := cell_keep tb5 hbn
    replace hO8 := hO8.keep hbn
    replace hF8 := hF8.keep hbn
    replace k8 := k8.keep hbn
    replace hO11 := hO11.keep hbn
    replace hF11 := hF11.keep hbn
    replace k11 := k11.keep hbn
    replace hO6 := hO6.keep hbn
    replace hF6 := hF6.keep hbn
    replace k6 := k6.keep hbn
    replace hb := bel_to hb hbn
    clear hbn
    clear p0 p1 p2 p3 p4 p5
    go_wp2
    go_ret
    exact ⟨rfl, hb⟩
end Go.Proofs.Ytjbmpnbfiahdhaa
