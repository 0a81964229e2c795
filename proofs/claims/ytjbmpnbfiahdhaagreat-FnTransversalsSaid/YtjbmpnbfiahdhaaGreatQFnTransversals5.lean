/- Contracts and lemmas for FnTransversals, part 5 of 8. -/
import Derived.Test.YtjbmpnbfiahdhaaGreatQFnTransversals1
import Derived.Test.YtjbmpnbfiahdhaaGreatQFnTransversals2
import Derived.Test.YtjbmpnbfiahdhaaGreatQFnTransversals3
import Derived.Test.YtjbmpnbfiahdhaaGreatQFnTransversals4
import Derived.Deep.RegionHeld3
import Derived.Deep.AppendLies
import Derived.BigRegion
import Derived.RegionTactic
import Derived.Outline
namespace Go.Proofs.YtjbmpnbfiahdhaaGreat
open Go.RowKit
set_option linter.unusedVariables false
set_option maxRecDepth 100000

set_option maxHeartbeats 800000 in
theorem c_l1New (oa) (n cap : Nat) (hn : n ≤ 1048576) (w : World) (hB : BytesAt w oa n) :
    Calls Tryz.prog 96 #[.slice oa n cap] w fun e w' => e = .returned (.pointer (some ⟨w.heap.size, 0, none⟩)) ∧ Cur w' w.heap.size ∧ Below w.heap.size w w' := by
  go_enter Tryz.func96, Tryz.ntmps96
  go_wp2
  go_loop [3, 4] (fun h i => ∃ (x : Int) (k : Nat), h = .int .i64 x ∧ i = .int .i64 k ∧ k ≤ n) (fun _ i => n - (intOf i).toNat)
  case atStart => exact ⟨_, 0, rfl, rfl, Nat.zero_le _⟩
  case round =>
    obtain ⟨x, k, rfl, rfl, hk⟩ := hrel
    by_cases hlt : k < n
    · by_cases h4 : (k : Int) < 4000
      · obtain ⟨b, off, rfl, hbs, hc⟩ := hB.at_ (by omega)
        obtain ⟨y, hy, hy0, hy1⟩ := hc k hlt
        clear hc hB
        go_wp2
        go_round
        case rel => exact ⟨_, k + 1, rfl, by go_num, by omega⟩
        case measure => simp [intOf]; omega
      · go_wp2
        go_ret
        exact ⟨rfl, ⟨oa, n, cap, 0, x, Blk.new w _ _, Nat.zero_le _, hn, hB.keep ((Below.refl _ _).alloc (Nat.le_refl _) _), fun h0 a e => by obtain ⟨b, off, e', hlt, _⟩ := hB.at_ h0; rw [e] at e'; injection e' with e'; rw [e']; exact hlt⟩, (Below.refl _ _).alloc (Nat.le_refl _) _⟩
    · have hkk : k = n := by omega
      have HK : Hid (k = n) := hkk
      clear hkk
      go_wp2
      go_ret
      exact ⟨rfl, ⟨oa, n, cap, 0, x, Blk.new w _ _, Nat.zero_le _, hn, hB.keep ((Below.refl _ _).alloc (Nat.le_refl _) _), fun h0 a e => by obtain ⟨b, off, e', hlt, _⟩ := hB.at_ h0; rw [e] at e'; injection e' with e'; rw [e']; exact hlt⟩, (Below.refl _ _).alloc (Nat.le_refl _) _⟩
/-- Whatever was made before the cursor's own turns lies as it lay. -/
theorem Blk.cur {w w' : World} {k g : Nat} {c : Array Value} {T : TypeId} (h : Blk w k c T) (hg : w.grownBy w' (some g)) (hne : k ≠ g) : Blk w' k c T := h.gr hg (fun e => hne (by injection e))
theorem grown_new {w w2 : World} {g k j : Nat} {v : Value} (hG : w.grownBy w2 (some g)) (hk : w.heap.size ≤ k) : w.grownBy (w2.setCell ⟨k, j, none⟩ v) (some g) :=
  ⟨hG.os, hG.tape, hG.output, by have := hG.size; simpa using this, fun i hi hne => (Below.heap_setCell w2 ⟨k, j, none⟩ v i (by show i ≠ k; omega)).trans (hG.block i hi hne)⟩
theorem Cur.set {w : World} {g k j : Nat} {v : Value} (h : Cur w g) (hk : g < k) : Cur (w.setCell ⟨k, j, none⟩ v) g := h.grown (grown_set w k j v) (fun i e => by injection e with e; omega)
set_option maxHeartbeats 800000 in
theorem c_l6Dep (g : Nat) (N : Nat) (h5 : N ≤ 5) (w : World) (hc : Cur w g) :
    Calls Tryz.prog 182 #[.pointer (some ⟨g, 0, none⟩), .int .i64 N] w fun e w' => ∃ l r : Int, e = .returned (.agg #[.int .i64 l, .int .i64 r]) ∧ Cur w' g ∧ w.grownBy w' (some g) := by
  have hp := pow_wrap (n := (N : Int)) (by omega) (by omega)
  simp only [Int.toNat_natCast] at hp
  have hp1 := hp.1
  have hp2 := hp.2.1
  clear hp
  have hlt := hc.lt
  have kZ := Blk.new w #[.int .i64 0, .int .i64 0] 46
  have hG := grown_of_below ((Below.refl w.heap.size w).alloc (Nat.le_refl _) (.cells #[.int .i64 0, .int .i64 0] 46)) (some g)
  replace hc := cur_alloc hc (.cells #[.int .i64 0, .int .i64 0] 46)
  go_enter Tryz.func182, Tryz.ntmps182
  go_wp2_with fail
  refine (c_l1Below g (2 ^ N) (by omega) _ hc).mono ?_
  rintro e w1 ⟨x, rfl, _, _, _, hc1, hg⟩
  replace kZ := kZ.cur hg (by omega)
  replace hG := grown_trans hG hg
  clear hc hg
  go_wp2_with fail
  refine (c_l1Below g N (by omega) _ hc1).mono ?_
  rintro e w2 ⟨y, rfl, _, _, _, hc2, hg⟩
  replace kZ := kZ.cur hg (by omega)
  replace hG := grown_trans hG hg
  clear hc1 hg
  have z0 := kZ.cell 0 (.int .i64 0) rfl
  have z1 := kZ.cell 1 (.int .i64 0) rfl
  have f0 := kZ.free 0
  have f1 := kZ.free 1
  go_wp2
  exact bodyPost_ret (v := .agg #[.int .i64 x, .int .i64 y]) (by simp [results, Tryz.results182, go_sem, z0, z1]) rfl ⟨x, y, rfl, (hc2.set hlt).set hlt, grown_new (grown_new hG (Nat.le_refl _)) (Nat.le_refl _)⟩
set_option maxHeartbeats 1600000 in
theorem c_l6Any (g : Nat) (n : Int) (w : World) (hc : Cur w g) :
    Calls Tryz.prog 130 #[.pointer (some ⟨g, 0, none⟩), .int .i64 n] w fun e w' => ∃ l r : Int, e = .returned (.agg #[.int .i64 l, .int .i64 r]) ∧ Cur w' g ∧ w.grownBy w' (some g) := by
  have hlt := hc.lt
  have kZ := Blk.new w #[.int .i64 0, .int .i64 0] 46
  have hG := grown_of_below ((Below.refl w.heap.size w).alloc (Nat.le_refl _) (.cells #[.int .i64 0, .int .i64 0] 46)) (some g)
  replace hc := cur_alloc hc (.cells #[.int .i64 0, .int .i64 0] 46)
  cases hin : inB n 1 5
  · go_enter Tryz.func130, Tryz.ntmps130
    go_wp2_with fail
    refine Calls.mono (Ans.eqb (c_l1In _ _ _ _) hin) ?_
    rintro e w1 ⟨rfl, hbn⟩
    replace kZ := kZ.keep hbn
    replace hc := hc.keep hbn
    replace hG := grown_trans hG (grown_of_below hbn _)
    clear hbn
    go_wp2_with fail
    refine (c_l6Dep g 3 (by omega) _ hc).mono ?_
    rintro e w2 ⟨l, r, rfl, hc2, hg⟩
    replace kZ := kZ.cur hg (by omega)
    replace hG := grown_trans hG hg
    clear hc hg
    have kD := Blk.new w2 #[.int .i64 l, .int .i64 r] 46
    have hl2 := kZ.lt
    replace kZ := kZ.alloc (.cells #[.int .i64 l, .int .i64 r] 46)
    replace hc2 := cur_alloc hc2 (.cells #[.int .i64 l, .int .i64 r] 46)
    replace hG := grown_trans hG (grown_of_below ((Below.refl w2.heap.size w2).alloc (Nat.le_refl _) (.cells #[.int .i64 l, .int .i64 r] 46)) (some g))
    go_wp2_with fail
    refine (c_l1Below g 14 (by omega) _ hc2).mono ?_
    rintro e w3 ⟨q, rfl, _, _, _, hc3, hg⟩
    replace kZ := kZ.cur hg (by omega)
    replace kD := kD.cur hg (by omega)
    replace hG := grown_trans hG hg
    clear hc2 hg
    by_cases e0 : q = 0
    · go_wp2_with fail
      refine (c_l2Any g _ hc3).mono ?_
      rintro e w4 ⟨x, rfl, _, _, hc4, hg⟩
      replace kZ := kZ.cur hg (by omega)
      replace kD := kD.cur hg (by omega)
      replace hG := grown_trans hG hg
      clear hc3 hg
      have d0 := kD.cell 0 (.int .i64 l) rfl
      have d1 := kD.cell 1 (.int .i64 r) rfl
      have e0' := kD.free 0
      have z0 := kZ.cell 0 (.int .i64 0) rfl
      have z1 := kZ.cell 1 (.int .i64 0) rfl
      have f0 := kZ.free 0
      have f1 := kZ.free 1
      have kD2 : Blk _ w2.heap.size #[.int .i64 x, .int .i64 r] 46 := kD.set 0 (.int .i64 x)
      have kZ2 := kZ.far ⟨w2.heap.size, 0, none⟩ (.int .i64 x) (by simp; omega)
      have y0 := kD2.cell 0 (.int .i64 x) rfl
      have y1 := kD2.cell 1 (.int .i64 r) rfl
      have v0 := kZ2.cell 0 (.int .i64 0) rfl
      have v1 := kZ2.cell 1 (.int .i64 0) rfl
      have g0 := kZ2.free 0
      have g1 := kZ2.free 1
      have hc5 := Cur.set (j := 0) (v := .int .i64 x) hc4 (show g < w2.heap.size by omega)
      have hG5 := grown_new (j := 0) (v := .int .i64 x) hG (show w.heap.size ≤ w2.heap.size by omega)
      go_wp2
      exact bodyPost_ret (v := .agg #[.int .i64 x, .int .i64 r]) (by simp [results, Tryz.results130, go_sem, v0, v1]) rfl ⟨x, r, rfl, (hc5.set hlt).set hlt, grown_new (grown_new hG5 (Nat.le_refl _)) (Nat.le_refl _)⟩
    · by_cases e1 : q = 1
      · have hL := fun T => lit_ints w3 #[.int .i64 (-1), .int .i64 4, .int .i64 5] [-1, 4, 5] (by simp) (fun k hk => by match k, hk with | 0, _ => rfl | 1, _ => rfl | 2, _ => rfl) T
        have hlt3 := hc3.lt
        go_wp2_with fail
        refine (c_l1PickInt g _ 3 [-1, 4, 5] (by simp) (by simp) _ (cur_alloc hc3 _) (hL _) (fun a e => by injection e with e; subst e; simp; omega)).mono ?_
        rintro e w4 ⟨x, rfl, _, hc4, hg⟩
        replace hg := grown_alloc hg
        replace kZ := kZ.cur hg (by omega)
        replace kD := kD.cur hg (by omega)
        replace hG := grown_trans hG hg
        clear hc3 hg hL
        have d0 := kD.cell 0 (.int .i64 l) rfl
        have d1 := kD.cell 1 (.int .i64 r) rfl
        have e0' := kD.free 1
        have kD2 : Blk _ w2.heap.size #[.int .i64 l, .int .i64 x] 46 := kD.set 1 (.int .i64 x)
        have kZ2 := kZ.far ⟨w2.heap.size, 1, none⟩ (.int .i64 x) (by simp; omega)
        have y0 := kD2.cell 0 (.int .i64 l) rfl
        have y1 := kD2.cell 1 (.int .i64 x) rfl
        have v0 := kZ2.cell 0 (.int .i64 0) rfl
        have v1 := kZ2.cell 1 (.int .i64 0) rfl
        have g0 := kZ2.free 0
        have g1 := kZ2.free 1
        have hc5 := Cur.set (j := 1) (v := .int .i64 x) hc4 (show g < w2.heap.size by omega)
        have hG5 := grown_new (j := 1) (v := .int .i64 x) hG (show w.heap.size ≤ w2.heap.size by omega)
        go_wp2
        exact bodyPost_ret (v := .agg #[.int .i64 l, .int .i64 x]) (by simp [results, Tryz.results130, go_sem, v0, v1]) rfl ⟨l, x, rfl, (hc5.set hlt).set hlt, grown_new (grown_new hG5 (Nat.le_refl _)) (Nat.le_refl _)⟩
      · have d0 := kD.cell 0 (.int .i64 l) rfl
        have d1 := kD.cell 1 (.int .i64 r) rfl
        have z0 := kZ.cell 0 (.int .i64 0) rfl
        have z1 := kZ.cell 1 (.int .i64 0) rfl
        have f0 := kZ.free 0
        have f1 := kZ.free 1
        go_wp2
        exact bodyPost_ret (v := .agg #[.int .i64 l, .int .i64 r]) (by simp [results, Tryz.results130, go_sem, z0, z1]) rfl ⟨l, r, rfl, (hc3.set hlt).set hlt, grown_new (grown_new hG (Nat.le_refl _)) (Nat.le_refl _)⟩
  · obtain ⟨N, rfl⟩ := Int.eq_ofNat_of_zero_le (show 0 ≤ n by unfold inB at hin; simp at hin; omega)
    have hN : N ≤ 5 := by unfold inB at hin; simp at hin; omega
    go_enter Tryz.func130, Tryz.ntmps130
    go_wp2_with fail
    refine Calls.mono (Ans.eqb (c_l1In _ _ _ _) hin) ?_
    rintro e w1 ⟨rfl, hbn⟩
    replace kZ := kZ.keep hbn
    replace hc := hc.keep hbn
    replace hG := grown_trans hG (grown_of_below hbn _)
    clear hbn
    go_wp2_with fail
    refine (c_l6Dep g N (by omega) _ hc).mono ?_
    rintro e w2 ⟨l, r, rfl, hc2, hg⟩
    replace kZ := kZ.cur hg (by omega)
    replace hG := grown_trans hG hg
    clear hc hg
    have kD := Blk.new w2 #[.int .i64 l, .int .i64 r] 46
    have hl2 := kZ.lt
    replace kZ := kZ.alloc (.cells #[.int .i64 l, .int .i64 r] 46)
    replace hc2 := cur_alloc hc2 (.cells #[.int .i64 l, .int .i64 r] 46)
    replace hG := grown_trans hG (grown_of_below ((Below.refl w2.heap.size w2).alloc (Nat.le_refl _) (.cells #[.int .i64 l, .int .i64 r] 46)) (some g))
    go_wp2_with fail
    refine (c_l1Below g 14 (by omega) _ hc2).mono ?_
    rintro e w3 ⟨q, rfl, _, _, _, hc3, hg⟩
    replace kZ := kZ.cur hg (by omega)
    replace kD := kD.cur hg (by omega)
    replace hG := grown_trans hG hg
    clear hc2 hg
    by_cases e0 : q = 0
    · go_wp2_with fail
      refine (c_l2Any g _ hc3).mono ?_
      rintro e w4 ⟨x, rfl, _, _, hc4, hg⟩
      replace kZ := kZ.cur hg (by omega)
      replace kD := kD.cur hg (by omega)
      replace hG := grown_trans hG hg
      clear hc3 hg
      have d0 := kD.cell 0 (.int .i64 l) rfl
      have d1 := kD.cell 1 (.int .i64 r) rfl
      have e0' := kD.free 0
      have z0 := kZ.cell 0 (.int .i64 0) rfl
      have z1 := kZ.cell 1 (.int .i64 0) rfl
      have f0 := kZ.free 0
      have f1 := kZ.free 1
      have kD2 : Blk _ w2.heap.size #[.int .i64 x, .int .i64 r] 46 := kD.set 0 (.int .i64 x)
      have kZ2 := kZ.far ⟨w2.heap.size, 0, none⟩ (.int .i64 x) (by simp; omega)
      have y0 := kD2.cell 0 (.int .i64 x) rfl
      have y1 := kD2.cell 1 (.int .i64 r) rfl
      have v0 := kZ2.cell 0 (.int .i64 0) rfl
      have v1 := kZ2.cell 1 (.int .i64 0) rfl
      have g0 := kZ2.free 0
      have g1 := kZ2.free 1
      have hc5 := Cur.set (j := 0) (v := .int .i64 x) hc4 (show g < w2.heap.size by omega)
      have hG5 := grown_new (j := 0) (v := .int .i64 x) hG (show w.heap.size ≤ w2.heap.size by omega)
      go_wp2
      exact bodyPost_ret (v := .agg #[.int .i64 x, .int .i64 r]) (by simp [results, Tryz.results130, go_sem, v0, v1]) rfl ⟨x, r, rfl, (hc5.set hlt).set hlt, grown_new (grown_new hG5 (Nat.le_refl _)) (Nat.le_refl _)⟩
    · by_cases e1 : q = 1
      · have hL := fun T => lit_ints w3 #[.int .i64 (-1), .int .i64 4, .int .i64 5] [-1, 4, 5] (by simp) (fun k hk => by match k, hk with | 0, _ => rfl | 1, _ => rfl | 2, _ => rfl) T
        have hlt3 := hc3.lt
        go_wp2_with fail
        refine (c_l1PickInt g _ 3 [-1, 4, 5] (by simp) (by simp) _ (cur_alloc hc3 _) (hL _) (fun a e => by injection e with e; subst e; simp; omega)).mono ?_
        rintro e w4 ⟨x, rfl, _, hc4, hg⟩
        replace hg := grown_alloc hg
        replace kZ := kZ.cur hg (by omega)
        replace kD := kD.cur hg (by omega)
        replace hG := grown_trans hG hg
        clear hc3 hg hL
        have d0 := kD.cell 0 (.int .i64 l) rfl
        have d1 := kD.cell 1 (.int .i64 r) rfl
        have e0' := kD.free 1
        have kD2 : Blk _ w2.heap.size #[.int .i64 l, .int .i64 x] 46 := kD.set 1 (.int .i64 x)
        have kZ2 := kZ.far ⟨w2.heap.size, 1, none⟩ (.int .i64 x) (by simp; omega)
        have y0 := kD2.cell 0 (.int .i64 l) rfl
        have y1 := kD2.cell 1 (.int .i64 x) rfl
        have v0 := kZ2.cell 0 (.int .i64 0) rfl
        have v1 := kZ2.cell 1 (.int .i64 0) rfl
        have g0 := kZ2.free 0
        have g1 := kZ2.free 1
        have hc5 := Cur.set (j := 1) (v := .int .i64 x) hc4 (show g < w2.heap.size by omega)
        have hG5 := grown_new (j := 1) (v := .int .i64 x) hG (show w.heap.size ≤ w2.heap.size by omega)
        go_wp2
        exact bodyPost_ret (v := .agg #[.int .i64 l, .int .i64 x]) (by simp [results, Tryz.results130, go_sem, v0, v1]) rfl ⟨l, x, rfl, (hc5.set hlt).set hlt, grown_new (grown_new hG5 (Nat.le_refl _)) (Nat.le_refl _)⟩
      · have d0 := kD.cell 0 (.int .i64 l) rfl
        have d1 := kD.cell 1 (.int .i64 r) rfl
        have z0 := kZ.cell 0 (.int .i64 0) rfl
        have z1 := kZ.cell 1 (.int .i64 0) rfl
        have f0 := kZ.free 0
        have f1 := kZ.free 1
        go_wp2
        exact bodyPost_ret (v := .agg #[.int .i64 l, .int .i64 r]) (by simp [results, Tryz.results130, go_sem, z0, z1]) rfl ⟨l, r, rfl, (hc3.set hlt).set hlt, grown_new (grown_new hG (Nat.le_refl _)) (Nat.le_refl _)⟩
end Go.Proofs.YtjbmpnbfiahdhaaGreat
namespace Go.Proofs.YtjbmpnbfiahdhaaGreat
open Go.RowKit
theorem heap_two (w : World) (o1 o2 : Obj) : ((w.alloc o1).alloc o2).heap[w.heap.size + 1]? = some o2 := by
  have := heap_alloc_new (w.alloc o1) o2
  rwa [World.size_alloc] at this
end Go.Proofs.YtjbmpnbfiahdhaaGreat
namespace Go.Proofs.YtjbmpnbfiahdhaaGreat
open Go.RowKit
set_option linter.unusedVariables false
set_option maxRecDepth 100000
set_option maxHeartbeats 1600000

theorem step_append_own {P : Program} (w : World) {ops : Array Oper} {o : Oper} {a : Act} {K : Act → World → Prop} {Q : Exit → Act → World → Prop} {E : Prop} (hgd : o.guard = none) (s x : Operand) (t : TypeId)
    (ho : o.op = .call { callee := .builtin .append, args := #[s, x], argTypes := #[t, t] })
    (base : Nat) (e : TypeId) (i : TypeInfo) (z : Value) (size bytes : Nat) (ht : P.underlying t = some (.slice e)) (hi : P.info? e = some i) (hz : i.zero = some z)
    (hsize : i.size = size) (hby : i.bytes = bytes) (hzs : z.cells.size = size) (hsz : 0 < size)
    (v : Value) (n : Nat) (xs : List Value) (hs : a.eval s = v) (hown : w.ownsRow base e size v n xs)
    (ad : Addr) (m c : Nat) (news : List Value) (hx : a.eval x = .slice (some ad) m c) (hl : news.length = m * size) (hnews : ∀ j u, news[j]? = some u → w.cell? (ad.add j) = some u) (h1 : ∀ u ∈ news, u.oneCell' = true)
    (h63 : n + m ≤ maxLen) (hbytes : (n + m) * bytes ≤ 140737488355328) (hbase : base ≤ w.heap.size)
    (h : ∀ v' w', w'.ownsRow base e size v' (n + m) (xs ++ news) → w.grownBy w' v.ownBlock → K (a.put o.dst v') w') :
    if Region.wanted o (yielded ops a.tmps) = true then Oper.wp P o a w K Q else E := by
  have hw : Region.wanted o (yielded ops a.tmps) = true := by simp [Region.wanted, hgd]
  rw [if_pos hw]
  exact wp_append_own w s x t ho base e i z size bytes ht hi hz hsize hby hzs hsz v n xs hs hown ad m c news hx hl hnews h1 h63 hbytes hbase fun v' w' h2 h3 _ => h v' w' h2 h3

/-- An operation whose guard is shut, taken first. -/
theorem wpAnyH_skip {P : Program} {ops : Array Oper} {Q : Exit → Act → World → Prop} {md : Region.Mode} {S : World → Prop} {i : Nat} {oi : Oper} (d : Option Nat) {fuel : Nat} {listed : Array Bool} {a : Act} {w : World} (hi : ops[i]? = some oi) (hd : oi.dst = d)
    (hs : Region.noSelect ops = true) (hf : Region.free md ops listed i = true) (hr : (Region.ready md ops listed).contains i = true)
    (hQ : ∀ c a w, Q (.panic c) (a.put d undef) w → Q (.panic c) a w) (hy : Region.wanted oi (yielded ops a.tmps) = false) (hS : S w)
    (h : wpAnyH P md ops Q S fuel (listed.setIfInBounds i true) (a.put d undef) w) : wpAnyH P md ops Q S (fuel + 1) listed a w := by
  subst hd
  exact wpAnyH_take hi hs hf hr hQ (Or.inr ⟨hy, rfl⟩) hS h
/-- An operation that yields a value whatever the world, taken first. -/
theorem wpAnyH_val {P : Program} {ops : Array Oper} {Q : Exit → Act → World → Prop} {md : Region.Mode} {S : World → Prop} {i : Nat} {oi : Oper} (d : Option Nat) (v : Value) {fuel : Nat} {listed : Array Bool} {a : Act} {w : World} (hi : ops[i]? = some oi) (hd : oi.dst = d)
    (hs : Region.noSelect ops = true) (hf : Region.free md ops listed i = true) (hr : (Region.ready md ops listed).contains i = true)
    (hQ : ∀ c a w, Q (.panic c) (a.put d v) w → Q (.panic c) a w) (hw : Region.wanted oi (yielded ops a.tmps) = true) (hS : S w) (hy : ∀ w, S w → (execOp a.eval oi).run P w = .ok (.value v) w)
    (h : wpAnyH P md ops Q S fuel (listed.setIfInBounds i true) (a.put d v) w) : wpAnyH P md ops Q S (fuel + 1) listed a w := by
  subst hd
  exact wpAnyH_take hi hs hf hr hQ (Or.inl ⟨hw, hy⟩) hS h
theorem nl_take {D : List (Int × Int)} {i k : Nat} (h : k < i) : nl (D.take i) k = nl D k := by unfold nl; simp [List.getD, h]
theorem nr_take {D : List (Int × Int)} {i k : Nat} (h : k < i) : nr (D.take i) k = nr D k := by unfold nr; simp [List.getD, h]
theorem DepsAt.take {w : World} {oa : Option Addr} {D : List (Int × Int)} (h : DepsAt w oa D) (i : Nat) : DepsAt w oa (D.take i) := by
  refine ⟨by have := h.len; rw [List.length_take]; omega, fun h0 => ?_⟩
  rw [List.length_take] at h0
  obtain ⟨b, off, e, hlt, hc⟩ := h.at_ (by omega)
  refine ⟨b, off, e, hlt, fun k hk => ?_⟩
  rw [List.length_take] at hk
  rw [nl_take (by omega), nr_take (by omega)]
  exact hc k (by omega)
theorem c_copyTake (a : Addr) (cap i : Nat) (D : List (Int × Int)) (w : World) (hD : DepsAt w (some a) D) (hi : i ≤ D.length) :
    Calls Tryz.prog 176 #[.slice (some a) i cap] w fun e w' => ∃ v, e = .returned v ∧ OwnD w' w.heap.size v (D.take i) ∧ Below w.heap.size w w' := by
  have h := c_copyDeps (some a) cap (D.take i) w (hD.take i) (by intro h; cases h)
  rwa [List.length_take, Nat.min_eq_left hi] at h
theorem OwnD.row {w : World} {base : Nat} {v : Value} {i : Nat} {D : List (Int × Int)} (hi : i ≤ D.length) (h : OwnD w base v (D.take i)) : w.ownsRow base 46 2 v i (dcells (D.take i)) := by
  unfold OwnD at h; rwa [List.length_take, Nat.min_eq_left hi] at h

theorem no_news {w : World} {ad : Addr} : ∀ (j : Nat) (u : Value), ([] : List Value)[j]? = some u → w.cell? (ad.add j) = some u := by intro j u hj; cases hj
theorem no_one : ∀ u ∈ ([] : List Value), u.oneCell' = true := by intro u hu; cases hu
theorem c_without (oa) (cap : Nat) (D : List (Int × Int)) (i : Nat) (w : World) (hD : DepsAt w oa D) (hcap : D.length ≤ cap) (hil : i < D.length) :
    Calls Tryz.prog 157 #[.slice oa D.length cap, .int .i64 i] w fun e w' => ∃ v, e = .returned v ∧ OwnD w' w.heap.size v (eraD D i) ∧ Below w.heap.size w w' := by
  obtain ⟨i0, hi, hz0, hz1, hz2⟩ := info_parts info_dep
  have hn : D.length ≤ 1073741824 := hD.len
  obtain ⟨b, off, rfl, hbs, hc⟩ := hD.at_ (by omega)
  have hb := Below.refl w.heap.size w
  have q1 : i ≤ cap := by omega
  have q2 : (0 : Int) ≤ (i : Int) := by omega
  have q3 : (i : Int) ≤ (cap : Int) := by omega
  have q4 : (0 : Int) ≤ (i : Int) + 1 := by omega
  have q5 : (i : Int) + 1 ≤ (D.length : Int) := by omega
  have q6 : IntKind.i64.wrap ((i : Int) + 1) = (i : Int) + 1 := by simp [IntKind.wrap, IntKind.bits, IntKind.signed, wrap64]; omega
  have q7 : ((i : Int) + 1).toNat = i + 1 := by omega
  have e2 : (dcells (D.drop (i + 1))).length = (D.length - (i + 1)) * 2 := by rw [dcells_length, List.length_drop]
  have HC : Hid (∀ (w1 : World), Below w.heap.size w w1 → ∀ j u, (dcells (D.drop (i + 1)))[j]? = some u → w1.cell? ((⟨b, off + (i + 1) * 2, none⟩ : Addr).add j) = some u) := by
    intro w1 h j u hu
    rw [dcells_drop, List.getElem?_drop] at hu
    have h0 := (hD.keep h).cellsAny _ u hu
    have e : (⟨b, off + (i + 1) * 2, none⟩ : Addr).add j = (⟨b, off, none⟩ : Addr).add ((i + 1) * 2 + j) := by
      unfold Addr.add; (split <;> simp_all) <;> omega
    rw [e]; exact h0
  have hle : i ≤ D.length := by omega
  clear hc
  by_cases hcp : cap = i + 1
  · subst hcp
    have hdl : D.length = i + 1 := by omega
    have q8 : (i : Int) ≤ ((i + 1 : Nat) : Int) := by omega
    have q9 : (i : Int) ≤ (i : Int) + 1 := by omega
    have h63 : i + 0 ≤ maxLen := by unfold maxLen; omega
    have h64 : (i + 0) * 16 ≤ 140737488355328 := by omega
    go_enter Tryz.func157, Tryz.ntmps157
    go_wp2_with fail
    go_region_held3 (fun w' => Below w.heap.size w w') (first | exact hb2 | exact hb1 | exact hb.drew)
      (first
        | (go_at_call 176; rename_i hS _ _; refine (c_copyTake _ _ _ _ _ (hD.keep hS) hle).mono ?_; rintro e w1 ⟨v1, rfl, hI, hbn⟩; replace hI := (hI.based hS.size).row hle; have hb1 := bel_to hS hbn)
        | (refine step_append_own _ (by rfl) _ _ 30 (by rfl) w.heap.size 46 i0 (.agg #[.int .i64 0, .int .i64 0]) 2 16 Tryz.underlying30 hi hz0 hz1 hz2 rfl (by decide) v1 _ _ (by rfl) hI _ 0 _ [] (by rfl) rfl no_news no_one (show _ from h63) (show _ from h64) hb1.size ?_; intro v2 w2 hown hgrow; have hb2 := hb1.grown hgrow hb1.size (fun g hg => (World.ownsRow.lt hI g hg).1); have hO := ownsLast hdl hown; obtain ⟨o2, c2, rfl⟩ := hO.shape; clear hown hgrow)
        | fail)
    go_wp2
    go_ret
    exact ⟨_, rfl, hO, hb2⟩
  · have h63 : i + (D.length - (i + 1)) ≤ maxLen := by unfold maxLen; omega
    have h64 : (i + (D.length - (i + 1))) * 16 ≤ 140737488355328 := by omega
    go_enter Tryz.func157, Tryz.ntmps157
    go_wp2_with fail
    go_region_held3 (fun w' => Below w.heap.size w w') (first | exact hb2 | exact hb1 | exact hb.drew)
      (first
        | (go_at_call 176; rename_i hS _ _; refine (c_copyTake _ _ _ _ _ (hD.keep hS) hle).mono ?_; rintro e w1 ⟨v1, rfl, hI, hbn⟩; replace hI := (hI.based hS.size).row hle; have hb1 := bel_to hS hbn)
        | (refine step_append_own _ (by rfl) _ _ 30 (by rfl) w.heap.size 46 i0 (.agg #[.int .i64 0, .int .i64 0]) 2 16 Tryz.underlying30 hi hz0 hz1 hz2 rfl (by decide) v1 _ _ (by rfl) hI _ (D.length - (i + 1)) _ (dcells (D.drop (i + 1))) (by rfl) e2 (HC.out _ hb1) (dcells_one _) (show _ from h63) (show _ from h64) hb1.size ?_; intro v2 w2 hown hgrow; have hb2 := hb1.grown hgrow hb1.size (fun g hg => (World.ownsRow.lt hI g hg).1); have hO := ownsErase hil hown; obtain ⟨o2, c2, rfl⟩ := hO.shape; clear hown hgrow)
        | fail)
    go_wp2
    go_ret
    exact ⟨_, rfl, hO, hb2⟩
end Go.Proofs.YtjbmpnbfiahdhaaGreat
namespace Go.Proofs.YtjbmpnbfiahdhaaGreat
open Go.RowKit
set_option linter.unusedVariables false
set_option maxRecDepth 100000

def redStep (D : List (Int × Int)) (r x c : Int) : Int := if dif x (one c) != x && hasc (cloF D (dif x (one c))) r then dif x (one c) else x
def fiveI : List Int := [0, 1, 2, 3, 4]
def redF (D : List (Int × Int)) (l r : Int) : Int := fiveI.foldl (redStep D r) l
def reduceF (n : Int) (D : List (Int × Int)) (l r : Int) : Int := if impliesDepF n D l r then redF D l r else l

theorem redStep_st {D : List (Int × Int)} {r x c : Int} (hx : St x) (hc : Co c) : St (redStep D r x c) := by
  unfold redStep; split
  · exact dif_st hx (one_st hc)
  · exact hx
theorem dif_one_same {x c : Int} (hx : St x) (hc : Co c) : (dif x (one c) != x) = hasc x c := by
  obtain ⟨n, hn, rfl⟩ := st_nat hx; obtain ⟨k, hk, rfl⟩ := co_nat hc
  have h : ∀ n < 32, ∀ k < 5, (dif (n : Nat) (one (k : Nat)) != (n : Nat)) = hasc (n : Nat) (k : Nat) := by decide +kernel
  exact h n hn k hk
theorem redStep_no {D : List (Int × Int)} {r x c : Int} (hx : St x) (hc : Co c) (h : hasc x c = false) : redStep D r x c = x := by
  unfold redStep; rw [dif_one_same hx hc, h]; simp
theorem redStep_other {D : List (Int × Int)} {r x c e : Int} (hx : St x) (hc : Co c) (he : Co e) (hne : c ≠ e) : hasc (redStep D r x c) e = hasc x e := by
  unfold redStep; split
  · rw [hasc_dif hx (one_st hc) he, hasc_one hc he]
    simp [hne]
  · rfl
theorem impliesDepF_val {n : Int} {D : List (Int × Int)} {l r : Int} (h : impliesDepF n D l r = true) : Val D ∧ St l ∧ Co r := by
  simp only [impliesDepF, Bool.and_eq_true] at h
  have := (isDepF_val h.2.1).1
  exact ⟨(areDepsF_val h.1).1, this.1, this.2⟩

theorem five_drop (k : Nat) (hk : k < 5) (f : Int → Int → Int) (x : Int) : (fiveI.drop k).foldl f x = (fiveI.drop (k + 1)).foldl f (f x k) := by
  match k, hk with
  | 0, _ => rfl
  | 1, _ => rfl
  | 2, _ => rfl
  | 3, _ => rfl
  | 4, _ => rfl

set_option maxHeartbeats 400000 in
theorem c_specReduceLeft (n : Int) (oa) (cap : Nat) (D : List (Int × Int)) (l r : Int) (w : World) (hD : DepsAt w oa D) :
    Ans Tryz.prog 79 #[.int .i64 n, .slice oa D.length cap, .agg #[.int .i64 l, .int .i64 r]] w (.agg #[.int .i64 (reduceF n D l r), .int .i64 r]) := by
  unfold Ans
  have hb := ((Below.refl w.heap.size w).alloc (Nat.le_refl _) (.cells #[.int .i64 l, .int .i64 r] 46)).alloc (by simp) (.cells #[.int .i64 0, .int .i64 0] 46)
  have k0 := (Blk.new w #[.int .i64 l, .int .i64 r] 46).alloc (.cells #[.int .i64 0, .int .i64 0] 46)
  have k1 := Blk.new (w.alloc (.cells #[.int .i64 l, .int .i64 r] 46)) #[.int .i64 0, .int .i64 0] 46
  have es : (w.alloc (.cells #[.int .i64 l, .int .i64 r] 46)).heap.size = w.heap.size + 1 := by simp
  rw [es] at k1
  have hrun := (c_specImpliesDep n oa cap D l r _ (hD.keep hb))
  cases hi : impliesDepF n D l r
  · have HV : Hid (reduceF n D l r = l) := by unfold reduceF; rw [hi]; rfl
    go_enter Tryz.func79, Tryz.ntmps79
    go_wp2_with fail
    refine Calls.mono hrun ?_
    rintro e w1 ⟨rfl, hbn⟩
    replace k0 := k0.keep hbn
    replace k1 := k1.keep hbn
    have a0 := k0.cell 0 _ rfl
    have a1 := k0.cell 1 _ rfl
    have d0 := k1.cell 0 _ rfl
    have d1 := k1.cell 1 _ rfl
    have f0 := k1.free 0
    have f1 := k1.free 1
    replace hb := bel_to (w := w) hb hbn
    have m0 := ((k1.set 0 (.int .i64 l)).set 1 (.int .i64 r))
    have g0 := m0.cell 0 _ rfl
    have g1 := m0.cell 1 _ rfl
    clear hbn k0 k1 m0 hrun
    go_wp2
    exact bodyPost_ret (v := .agg #[.int .i64 l, .int .i64 r]) (by simp [results, Tryz.results79, go_sem, g0, g1]) rfl ⟨by rw [HV.out], (hb.setCell (by simp) _).setCell (by simp) _⟩
  · obtain ⟨hv, hl, hr⟩ := impliesDepF_val hi
    have HV : Hid (reduceF n D l r = fiveI.foldl (redStep D r) l) := by unfold reduceF; rw [hi]; rfl
    have hr0 : 0 ≤ r := hr.1
    have hr1 : r < 5 := hr.2
    go_enter Tryz.func79, Tryz.ntmps79
    go_wp2_with fail
    refine Calls.mono hrun ?_
    rintro e w1 ⟨rfl, hbn⟩
    replace k0 := k0.keep hbn
    replace k1 := k1.keep hbn
    replace hb := bel_to (w := w) hb hbn
    clear hbn hrun es
    go_wp2
    go_loopw [7] (fun i wr => ∃ (k : Nat) (x : Int), i = .int .i64 k ∧ k ≤ 5 ∧ St x ∧ (fiveI.drop k).foldl (redStep D r) x = fiveI.foldl (redStep D r) l ∧
      Blk wr w.heap.size #[.int .i64 x, .int .i64 r] 46 ∧ Blk wr (w.heap.size + 1) #[.int .i64 0, .int .i64 0] 46 ∧ Below w.heap.size w wr) (fun i _ => 5 - (intOf i).toNat)
    case atStart => exact ⟨0, l, rfl, Nat.zero_le _, hl, rfl, k0, k1, hb⟩
    case round =>
      clear k0 k1 hb
      obtain ⟨k, x, rfl, hk, hx, hfold, k0, k1, hb⟩ := hrel
      have HF : Hid ((fiveI.drop k).foldl (redStep D r) x = fiveI.foldl (redStep D r) l) := hfold
      clear hfold
      have a0 := k0.cell 0 _ rfl
      have a1 := k0.cell 1 _ rfl
      by_cases hlt : k < 5
      · have hco : Co (k : Int) := ⟨by omega, by omega⟩
        have HF2 : Hid ((fiveI.drop (k + 1)).foldl (redStep D r) (redStep D r x k) = fiveI.foldl (redStep D r) l) := by rw [← five_drop k hlt]; exact HF.out
        have hsy := dif_st hx (one_st hco)
        have HST : Hid (St (redStep D r x k)) := redStep_st hx hco
        clear HF
        cases hne : (dif x (one k) != x)
        · have hne2 : (bits BinOp.andNot IntKind.i64 x (wrap64 (2 ^ k)) != x) = false := hne
          have e : redStep D r x k = x := by unfold redStep; rw [hne]; rfl
          rw [e] at HF2 HST
          clear e
          go_wp2_with fail
          (refine wp_region_after (by kernel_rfl) (by kernel_rfl) ?_; have q_a0 := fun (x : After _) => cell_keep a0 x.bel; have q_a1 := fun (x : After _) => cell_keep a1 x.bel; (repeat (go_big_quiet_step (fail))); clear q_a0; clear q_a1; refine wpQuiet_nil ?_; rintro _ ⟨⟨w1, hbn⟩, rfl⟩; (try simp only [After.w]); replace a0 := cell_keep a0 hbn; replace a1 := cell_keep a1 hbn; replace k0 := k0.keep hbn; replace k1 := k1.keep hbn; replace hb := bel_to (w := w) (by first | exact hb | exact hb.alloc hb.size _ | exact (hb.alloc hb.size _).alloc (Nat.le_trans hb.size (by simp)) _ | exact hb.setCell (by simp [hb.size]) _) hbn; clear hbn)
          go_wp2_with fail
          (refine wp_region_after (by kernel_rfl) (by kernel_rfl) ?_; have q_a0 := fun (x : After _) => cell_keep a0 x.bel; have q_a1 := fun (x : After _) => cell_keep a1 x.bel; (repeat (go_big_quiet_step (fail))); clear q_a0; clear q_a1; refine wpQuiet_nil ?_; rintro _ ⟨⟨w1, hbn⟩, rfl⟩; (try simp only [After.w]); replace a0 := cell_keep a0 hbn; replace a1 := cell_keep a1 hbn; replace k0 := k0.keep hbn; replace k1 := k1.keep hbn; replace hb := bel_to (w := w) (by first | exact hb | exact hb.alloc hb.size _ | exact (hb.alloc hb.size _).alloc (Nat.le_trans hb.size (by simp)) _ | exact hb.setCell (by simp [hb.size]) _) hbn; clear hbn)
          go_wp2
          go_roundw
          case rel => exact ⟨k + 1, x, by go_num, by omega, hx, HF2.out, k0, k1, hb⟩
          case measure => simp [intOf]; omega
        · have hne2 : (bits BinOp.andNot IntKind.i64 x (wrap64 (2 ^ k)) != x) = true := hne
          have hne3 : (bits BinOp.andNot IntKind.i64 x (wrap64 (2 ^ k)) == x) = false := by
            have := hne2; rw [bne_iff_ne] at this; exact beq_eq_false_iff_ne.2 this
          have hDx := fun (wr : World) (hbr : Below w.heap.size w wr) (x : After wr) => hD.keep (bel_to (w := w) hbr x.bel)
          cases hh : hasc (cloF D (dif x (one k))) r
          · have e : redStep D r x k = x := by unfold redStep; rw [hne, hh]; rfl
            have hh2 : (bits BinOp.and IntKind.i64 (cloF D (bits BinOp.andNot IntKind.i64 x (wrap64 (2 ^ k))) / 2 ^ r.toNat) 1 == 1) = false := hh
            rw [e] at HF2 HST
            clear e
            go_wp2_with fail
            (refine wp_region_after (by kernel_rfl) (by kernel_rfl) ?_; have q_a0 := fun (x : After _) => cell_keep a0 x.bel; have q_a1 := fun (x : After _) => cell_keep a1 x.bel; (repeat (go_big_quiet_step (fail))); clear q_a0; clear q_a1; refine wpQuiet_nil ?_; rintro _ ⟨⟨w1, hbn⟩, rfl⟩; (try simp only [After.w]); replace a0 := cell_keep a0 hbn; replace a1 := cell_keep a1 hbn; replace k0 := k0.keep hbn; replace k1 := k1.keep hbn; replace hb := bel_to (w := w) (by first | exact hb | exact hb.alloc hb.size _ | exact (hb.alloc hb.size _).alloc (Nat.le_trans hb.size (by simp)) _ | exact hb.setCell (by simp [hb.size]) _) hbn; clear hbn)
            go_wp2_with fail
            (refine wp_region_after (by kernel_rfl) (by kernel_rfl) ?_; have q_a0 := fun (x : After _) => cell_keep a0 x.bel; have q_a1 := fun (x : After _) => cell_keep a1 x.bel; (repeat (go_big_quiet_step ((first | (go_at_call 164; exact Ans.after (c_l10Close _ _ _ _ _ (hDx _ hb _) hsy hv)))))); clear q_a0; clear q_a1; refine wpQuiet_nil ?_; rintro _ ⟨⟨w1, hbn⟩, rfl⟩; (try simp only [After.w]); replace a0 := cell_keep a0 hbn; replace a1 := cell_keep a1 hbn; replace k0 := k0.keep hbn; replace k1 := k1.keep hbn; replace hb := bel_to (w := w) (by first | exact hb | exact hb.alloc hb.size _ | exact (hb.alloc hb.size _).alloc (Nat.le_trans hb.size (by simp)) _ | exact hb.setCell (by simp [hb.size]) _) hbn; clear hbn)
            go_wp2
            go_roundw
            case rel => exact ⟨k + 1, x, by go_num, by omega, hx, HF2.out, k0, k1, hb⟩
            case measure => simp [intOf]; omega
          · have e : redStep D r x k = dif x (one k) := by unfold redStep; rw [hne, hh]; rfl
            have hh2 : (bits BinOp.and IntKind.i64 (cloF D (bits BinOp.andNot IntKind.i64 x (wrap64 (2 ^ k))) / 2 ^ r.toNat) 1 == 1) = true := hh
            rw [e] at HF2 HST
            clear e
            go_wp2_with fail
            (refine wp_region_after (by kernel_rfl) (by kernel_rfl) ?_; have q_a0 := fun (x : After _) => cell_keep a0 x.bel; have q_a1 := fun (x : After _) => cell_keep a1 x.bel; (repeat (go_big_quiet_step (fail))); clear q_a0; clear q_a1; refine wpQuiet_nil ?_; rintro _ ⟨⟨w1, hbn⟩, rfl⟩; (try simp only [After.w]); replace a0 := cell_keep a0 hbn; replace a1 := cell_keep a1 hbn; replace k0 := k0.keep hbn; replace k1 := k1.keep hbn; replace hb := bel_to (w := w) (by first | exact hb | exact hb.alloc hb.size _ | exact (hb.alloc hb.size _).alloc (Nat.le_trans hb.size (by simp)) _ | exact hb.setCell (by simp [hb.size]) _) hbn; clear hbn)
            go_wp2_with fail
            (refine wp_region_after (by kernel_rfl) (by kernel_rfl) ?_; have q_a0 := fun (x : After _) => cell_keep a0 x.bel; have q_a1 := fun (x : After _) => cell_keep a1 x.bel; (repeat (go_big_quiet_step ((first | (go_at_call 164; exact Ans.after (c_l10Close _ _ _ _ _ (hDx _ hb _) hsy hv)))))); clear q_a0; clear q_a1; refine wpQuiet_nil ?_; rintro _ ⟨⟨w1, hbn⟩, rfl⟩; (try simp only [After.w]); replace a0 := cell_keep a0 hbn; replace a1 := cell_keep a1 hbn; replace k0 := k0.keep hbn; replace k1 := k1.keep hbn; replace hb := bel_to (w := w) (by first | exact hb | exact hb.alloc hb.size _ | exact (hb.alloc hb.size _).alloc (Nat.le_trans hb.size (by simp)) _ | exact hb.setCell (by simp [hb.size]) _) hbn; clear hbn)
            have fr0 := k0.free 0
            have K0 := (show Hid _ from k0.set 0 (.int .i64 (dif x (one k))))
            have K1 := (show Hid _ from k1.far ⟨w.heap.size, 0, none⟩ (.int .i64 (dif x (one k))) (by simp))
            clear k0 k1
            go_wp2
            go_roundw
            case rel => exact ⟨k + 1, dif x (one k), by go_num, by omega, HST.out, HF2.out, K0.out, K1.out, hb.setCell (by simp) _⟩
            case measure => simp [intOf]; omega
      · have hkk : k = 5 := by omega
        have HX : Hid (x = fiveI.foldl (redStep D r) l) := by have := HF.out; rw [hkk] at this; exact this
        clear hkk
        have d0 := k1.cell 0 _ rfl
        have d1 := k1.cell 1 _ rfl
        have f0 := k1.free 0
        have f1 := k1.free 1
        have m0 := ((k1.set 0 (.int .i64 x)).set 1 (.int .i64 r))
        have g0 := m0.cell 0 _ rfl
        have g1 := m0.cell 1 _ rfl
        clear k0 k1 m0
        go_wp2
        exact bodyPost_ret (v := .agg #[.int .i64 x, .int .i64 r]) (by simp [results, Tryz.results79, go_sem, g0, g1]) rfl ⟨by rw [HV.out, HX.out], (hb.setCell (by simp) _).setCell (by simp) _⟩
end Go.Proofs.YtjbmpnbfiahdhaaGreat
namespace Go.Proofs.YtjbmpnbfiahdhaaGreat
open Go.RowKit
set_option linter.unusedVariables false
set_option maxRecDepth 100000

theorem members_mem {x c : Int} (hx : St x) : c ∈ membersF x ↔ Co c ∧ hasc x c = true := by
  have e : stB x = true := by simpa [stB] using hx
  unfold membersF membersUpTo
  rw [e, if_pos rfl, List.mem_filter, List.mem_map]
  constructor
  · rintro ⟨⟨k, hk, rfl⟩, h⟩
    exact ⟨⟨by omega, by have := List.mem_range.1 hk; omega⟩, h⟩
  · rintro ⟨hc, h⟩
    obtain ⟨k, hk, rfl⟩ := co_nat hc
    exact ⟨⟨k, List.mem_range.2 hk, rfl⟩, h⟩
theorem members_nodup (x : Int) : (membersF x).Nodup := by
  unfold membersF membersUpTo
  split
  · apply List.Pairwise.filter
    rw [show ((List.range 5).map fun (c : Nat) => (c : Int)) = fiveI from rfl]
    decide
  · exact List.Pairwise.nil
theorem fold_filter {D : List (Int × Int)} {r l : Int} : ∀ (cs : List Int) (x : Int), St x → (∀ c ∈ cs, Co c) → cs.Nodup → (∀ c ∈ cs, hasc x c = hasc l c) →
    cs.foldl (redStep D r) x = (cs.filter (hasc l)).foldl (redStep D r) x
  | [], _, _, _, _, _ => rfl
  | c :: cs, x, hx, hco, hnd, h => by
    have hc := hco c (List.mem_cons_self ..)
    have hco' : ∀ d ∈ cs, Co d := fun d hd => hco d (List.mem_cons_of_mem _ hd)
    obtain ⟨hn1, hn2⟩ := List.nodup_cons.1 hnd
    have hst := redStep_st (D := D) (r := r) hx hc
    have hs : ∀ d ∈ cs, hasc (redStep D r x c) d = hasc l d := fun d hd => by
      rw [redStep_other hx hc (hco' d hd) (fun e => hn1 (e ▸ hd))]
      exact h d (List.mem_cons_of_mem _ hd)
    have ih := fold_filter (D := D) (r := r) (l := l) cs _ hst hco' hn2 hs
    rw [List.foldl_cons, List.filter_cons]
    cases hl : hasc l c
    · have e : redStep D r x c = x := redStep_no hx hc (by rw [h c (List.mem_cons_self ..), hl])
      rw [e] at ih ⊢
      exact ih
    · simp only [if_true, List.foldl_cons]
      exact ih
theorem redF_members {D : List (Int × Int)} {l r : Int} (hl : St l) : redF D l r = (membersF l).foldl (redStep D r) l := by
  have e : stB l = true := by simpa [stB] using hl
  have hm : membersF l = fiveI.filter (hasc l) := by unfold membersF membersUpTo; rw [e, if_pos rfl]; rfl
  rw [hm]
  exact fold_filter fiveI l hl (by decide) (by decide) (fun _ _ => rfl)
theorem nth_drop {L : List Int} {k : Nat} (hk : k < L.length) : L.drop k = nth L k :: L.drop (k + 1) := by
  rw [List.drop_eq_getElem_cons hk]
  congr 1
  have := nth_eq hk
  rw [List.getElem?_eq_getElem hk] at this
  exact Option.some.inj this

set_option maxHeartbeats 800000 in
theorem c_ReduceLeft (n : Int) (oa) (cap : Nat) (D : List (Int × Int)) (l r : Int) (w : World) (hD : DepsAt w oa D) :
    Ans Tryz.prog 78 #[.int .i64 n, .slice oa D.length cap, .agg #[.int .i64 l, .int .i64 r]] w (.agg #[.int .i64 (reduceF n D l r), .int .i64 r]) := by
  unfold Ans
  have hb := ((Below.refl w.heap.size w).alloc (Nat.le_refl _) (.cells #[.int .i64 l, .int .i64 r] 46)).alloc (by simp) (.cells #[.int .i64 0, .int .i64 0] 46)
  have k0 := (Blk.new w #[.int .i64 l, .int .i64 r] 46).alloc (.cells #[.int .i64 0, .int .i64 0] 46)
  have k1 := Blk.new (w.alloc (.cells #[.int .i64 l, .int .i64 r] 46)) #[.int .i64 0, .int .i64 0] 46
  have es : (w.alloc (.cells #[.int .i64 l, .int .i64 r] 46)).heap.size = w.heap.size + 1 := by simp
  rw [es] at k1
  have hrun := (c_ImpliesDep n oa cap D l r _ (hD.keep hb))
  cases hi : impliesDepF n D l r
  · have HV : Hid (reduceF n D l r = l) := by unfold reduceF; rw [hi]; rfl
    go_enter Tryz.func78, Tryz.ntmps78
    go_wp2_with fail
    refine Calls.mono hrun ?_
    rintro e w1 ⟨rfl, hbn⟩
    replace k0 := k0.keep hbn
    replace k1 := k1.keep hbn
    have a0 := k0.cell 0 _ rfl
    have a1 := k0.cell 1 _ rfl
    have d0 := k1.cell 0 _ rfl
    have d1 := k1.cell 1 _ rfl
    have f0 := k1.free 0
    have f1 := k1.free 1
    replace hb := bel_to (w := w) hb hbn
    have m0 := ((k1.set 0 (.int .i64 l)).set 1 (.int .i64 r))
    have g0 := m0.cell 0 _ rfl
    have g1 := m0.cell 1 _ rfl
    clear hbn k0 k1 m0 hrun
    go_wp2
    exact bodyPost_ret (v := .agg #[.int .i64 l, .int .i64 r]) (by simp [results, Tryz.results78, go_sem, g0, g1]) rfl ⟨by rw [HV.out], (hb.setCell (by simp) _).setCell (by simp) _⟩
  · obtain ⟨hv, hl, hr⟩ := impliesDepF_val hi
    have HV : Hid (reduceF n D l r = (membersF l).foldl (redStep D r) l) := by unfold reduceF; rw [hi, ← redF_members hl]; rfl
    have hml := members_len l
    have hmm := fun c => members_mem (c := c) hl
    have HMM : Hid (∀ c, c ∈ membersF l ↔ Co c ∧ hasc l c = true) := hmm
    have HND : Hid ((membersF l).Nodup) := members_nodup l
    generalize hM : membersF l = M at *
    have HME : Hid (membersF l = M) := hM
    clear hmm hM
    have hr0 : 0 ≤ r := hr.1
    have hr1 : r < 5 := hr.2
    go_enter Tryz.func78, Tryz.ntmps78
    go_wp2_with fail
    refine Calls.mono hrun ?_
    rintro e w1 ⟨rfl, hbn⟩
    replace k0 := k0.keep hbn
    replace k1 := k1.keep hbn
    replace hb := bel_to (w := w) hb hbn
    have a0 := k0.cell 0 _ rfl
    have hlt1 : w.heap.size + 1 < w1.heap.size := k1.lt
    clear hbn hrun es
    go_wp2_with fail
    refine (c_Members _ _).mono ?_
    rintro e w2 ⟨v2, rfl, h2, hbn⟩
    rw [HME.out] at h2
    replace k0 := k0.keep hbn
    replace k1 := k1.keep hbn
    replace hb := bel_to (w := w) hb hbn
    obtain ⟨o2, c2, rfl, hL2⟩ := h2.reads (by unfold Room; omega)
    have hO2 : ∀ a, o2 = some a → w.heap.size + 1 < a.block := fun a ha => Nat.lt_of_lt_of_le hlt1 (owns_block h2 a ha)
    have HO : Hid (∀ a, o2 = some a → w.heap.size + 1 < a.block) := hO2
    clear hO2
    have hM0 : M.foldl (redStep D r) l = M.foldl (redStep D r) l := rfl
    clear a0 h2 hbn
    go_wp2_with fail
    obtain ⟨wo, rfl⟩ : ∃ wo : World, wo = w2 := ⟨_, rfl⟩
    go_loopw [20] (fun i wr => ∃ (k : Nat) (x : Int), i = .int .i64 k ∧ k ≤ M.length ∧ St x ∧ (M.drop k).foldl (redStep D r) x = M.foldl (redStep D r) l ∧ (∀ c, c ∈ M.drop k → hasc x c = true) ∧
      Blk wr w.heap.size #[.int .i64 x, .int .i64 r] 46 ∧ Blk wr (w.heap.size + 1) #[.int .i64 0, .int .i64 0] 46 ∧ IntsAt wr o2 M ∧ Below w.heap.size w wr) (fun i _ => M.length - (intOf i).toNat)
    case atStart => exact ⟨0, l, rfl, Nat.zero_le _, hl, rfl, fun c hc => ((HMM.out c).1 hc).2, k0, k1, hL2, hb⟩
    case round =>
      clear k0 k1 hb hL2 hM0
      obtain ⟨k, x, rfl, hk, hx, hfold, hall, k0, k1, hL, hb⟩ := hrel
      have HF : Hid ((M.drop k).foldl (redStep D r) x = M.foldl (redStep D r) l) := hfold
      have HA : Hid (∀ c, c ∈ M.drop k → hasc x c = true) := hall
      clear hfold hall
      have a0 := k0.cell 0 _ rfl
      have a1 := k0.cell 1 _ rfl
      by_cases hlt : k < M.length
      · obtain ⟨b, off, rfl, hbs, hc⟩ := hL.at_ (by omega)
        have hc1 := hc k hlt
        have hdr := nth_drop hlt
        have hmem : nth M k ∈ M := List.mem_iff_getElem?.2 ⟨k, nth_eq hlt⟩
        have hco : Co (nth M k) := ((HMM.out _).1 hmem).1
        have hhas : hasc x (nth M k) = true := HA.out _ (by rw [hdr]; exact List.mem_cons_self ..)
        have hnot : nth M k ∉ M.drop (k + 1) := by
          have h := (List.drop_sublist k M).nodup HND.out
          rw [hdr] at h
          exact (List.nodup_cons.1 h).1
        have HF2 : Hid ((M.drop (k + 1)).foldl (redStep D r) (redStep D r x (nth M k)) = M.foldl (redStep D r) l) := by
          have := HF.out; rw [hdr] at this; exact this
        have HA2 : Hid (∀ c, c ∈ M.drop (k + 1) → hasc (redStep D r x (nth M k)) c = true) := fun c hc => by
          have h1 : c ∈ M.drop k := by rw [hdr]; exact List.mem_cons_of_mem _ hc
          have h2 : Co c := ((HMM.out c).1 (List.mem_of_mem_drop h1)).1
          rw [redStep_other hx hco h2 (fun e => hnot (e ▸ hc))]
          exact HA.out c h1
        have hsy := dif_st hx (one_st hco)
        have HST : Hid (St (redStep D r x (nth M k))) := redStep_st hx hco
        have hn0 : 0 ≤ nth M k := hco.1
        have hn1 : nth M k < 5 := hco.2
        have HH : Hid (hasc x (nth M k) = true) := hhas
        have hz := k0.lt
        clear hc hdr hmem hnot hhas HF HA
        go_wp2_with fail
        go_region
        have k2 : Blk (World.drew (wr.alloc (.cells #[.int .i64 (bits BinOp.andNot IntKind.i64 x (wrap64 (2 ^ (nth M k).toNat))), .int .i64 r] 46))) wr.heap.size #[.int .i64 (bits BinOp.andNot IntKind.i64 x (wrap64 (2 ^ (nth M k).toNat))), .int .i64 r] 46 := Blk.new _ _ _
        have hbx : Below wr.heap.size wr (World.drew (wr.alloc (.cells #[.int .i64 (bits BinOp.andNot IntKind.i64 x (wrap64 (2 ^ (nth M k).toNat))), .int .i64 r] 46))) := ((Below.refl _ wr).alloc (Nat.le_refl _) _).drew
        generalize World.drew (wr.alloc (.cells #[.int .i64 (bits BinOp.andNot IntKind.i64 x (wrap64 (2 ^ (nth M k).toNat))), .int .i64 r] 46)) = w3 at *
        replace k0 := k0.keep hbx
        replace k1 := k1.keep hbx
        replace hL := hL.keep hbx
        replace hb := bel_to (w := w) hb hbx
        clear hbx a0 a1 hc1 hz
        have e0 := k2.cell 0 _ rfl
        have e1 := k2.cell 1 _ rfl
        have hrun2 := c_implies oa cap D (dif x (one (nth M k))) r w3 (hD.keep hb) hv hsy hr
        cases hh : impF D (dif x (one (nth M k))) r
        · have e : redStep D r x (nth M k) = x := by
            unfold redStep
            have : hasc (cloF D (dif x (one (nth M k)))) r = false := hh
            rw [this]; simp
          rw [e] at HF2 HA2 HST
          clear e
          go_wp2_with fail
          refine Calls.mono hrun2 ?_
          rintro e w4 ⟨rfl, hbn⟩
          replace k0 := k0.keep hbn
          replace k1 := k1.keep hbn
          replace hL := hL.keep hbn
          replace hb := bel_to (w := w) hb hbn
          clear hbn e0 e1 k2 hrun2
          go_wp2
          go_roundw
          case rel => exact ⟨k + 1, x, by go_num, by omega, hx, HF2.out, HA2.out, k0, k1, hL, hb⟩
          case measure => simp [intOf]; omega
        · have e : redStep D r x (nth M k) = dif x (one (nth M k)) := by
            unfold redStep
            have : hasc (cloF D (dif x (one (nth M k)))) r = true := hh
            rw [this, dif_one_same hx hco, HH.out]; simp
          rw [e] at HF2 HA2 HST
          clear e
          go_wp2_with fail
          refine Calls.mono hrun2 ?_
          rintro e w4 ⟨rfl, hbn⟩
          replace k0 := k0.keep hbn
          replace k1 := k1.keep hbn
          replace k2 := k2.keep hbn
          replace hL := hL.keep hbn
          replace hb := bel_to (w := w) hb hbn
          clear hbn e0 e1 hrun2
          have a0 := k0.cell 0 _ rfl
          have a1 := k0.cell 1 _ rfl
          have f0 := k0.free 0
          have f1 := k0.free 1
          have e0 := k2.cell 0 _ rfl
          have e1 := k2.cell 1 _ rfl
          have hz := k2.lt
          have K0 := (show Hid _ from (k0.set 0 (.int .i64 (dif x (one (nth M k))))).set 1 (.int .i64 r))
          have K1 := (show Hid _ from (k1.far ⟨w.heap.size, 0, none⟩ (.int .i64 (dif x (one (nth M k)))) (by simp)).far ⟨w.heap.size, 1, none⟩ (.int .i64 r) (by simp))
          have KL := (show Hid _ from (hL.set ⟨w.heap.size, 0, none⟩ (.int .i64 (dif x (one (nth M k)))) (fun a ha => by have := HO.out a ha; simp only; omega)).set ⟨w.heap.size, 1, none⟩ (.int .i64 r) (fun a ha => by have := HO.out a ha; simp only; omega))
          clear k0 k1 k2
          go_wp2
          go_roundw
          case rel => exact ⟨k + 1, dif x (one (nth M k)), by go_num, by omega, HST.out, HF2.out, HA2.out, K0.out, K1.out, KL.out, (hb.setCell (by simp) _).setCell (by simp) _⟩
          case measure => simp [intOf]; omega
      · have hkk : k = M.length := by omega
        have HX : Hid (x = M.foldl (redStep D r) l) := by have := HF.out; rw [hkk, List.drop_length] at this; exact this
        clear hkk
        have d0 := k1.cell 0 _ rfl
        have d1 := k1.cell 1 _ rfl
        have f0 := k1.free 0
        have f1 := k1.free 1
        have m0 := ((k1.set 0 (.int .i64 x)).set 1 (.int .i64 r))
        have g0 := m0.cell 0 _ rfl
        have g1 := m0.cell 1 _ rfl
        clear k0 k1 m0
        go_wp2
        exact bodyPost_ret (v := .agg #[.int .i64 x, .int .i64 r]) (by simp [results, Tryz.results78, go_sem, g0, g1]) rfl ⟨by rw [HV.out, HX.out], (hb.setCell (by simp) _).setCell (by simp) _⟩
end Go.Proofs.YtjbmpnbfiahdhaaGreat
namespace Go.Proofs.YtjbmpnbfiahdhaaGreat
open Go.RowKit
set_option linter.unusedVariables false
set_option maxRecDepth 100000

def coverBad (n : Int) (D : List (Int × Int)) (i : Nat) : Bool := impliesDepF n (eraD D i) (nl D i) (nr D i) || !(reduceF n D (nl D i) (nr D i) == nl D i)
def isCoverF (n : Int) (D : List (Int × Int)) : Bool := areDepsF n D && (List.range D.length).all fun i => !coverBad n D i
theorem OwnD.cap {w : World} {base : Nat} {v : Value} {L : List (Int × Int)} (h : OwnD w base v L) : ∃ oa cap, v = .slice oa L.length cap ∧ L.length ≤ cap ∧ (oa = none → cap = 0) := by
  rcases h.2 with ⟨hv, h0⟩ | ⟨g, cap, cur, hv, hb, hg, hl, _⟩
  · exact ⟨none, 0, by rw [hv, h0], by omega, fun _ => rfl⟩
  · exact ⟨_, cap, hv, hl, fun h => by cases h⟩
theorem range_all_succ (p : Nat → Bool) (k : Nat) : (List.range (k + 1)).all p = ((List.range k).all p && p k) := by
  rw [List.range_succ, List.all_append]; simp
theorem range_all_false (p : Nat → Bool) (k n : Nat) (hk : k < n) (h : p k = false) : (List.range n).all p = false := by
  rw [List.all_eq_false]; exact ⟨k, List.mem_range.2 hk, by simp [h]⟩
theorem eraD_len {D : List (Int × Int)} {i : Nat} (h : i < D.length) : (eraD D i).length = D.length - 1 := by
  unfold eraD; rw [List.length_append, List.length_take, List.length_drop]; omega

set_option maxHeartbeats 1600000 in
theorem c_specIsCover (n : Int) (oa) (cap : Nat) (D : List (Int × Int)) (w : World) (hD : DepsAt w oa D) (hcap : D.length ≤ cap) :
    Ans Tryz.prog 80 #[.int .i64 n, .slice oa D.length cap] w (.bool (isCoverF n D)) := by
  unfold Ans
  have hb := Below.refl w.heap.size w
  have hn : D.length ≤ 1073741824 := hD.len
  cases ha : areDepsF n D
  · have HM : Hid (isCoverF n D = false) := by unfold isCoverF; rw [ha]; rfl
    go_enter Tryz.func80, Tryz.ntmps80
    go_wp2
    go_loopw [5] (fun i wr => i = .int .i64 0 ∧ Below w.heap.size w wr) (fun i _ => 0)
    case atStart => exact ⟨rfl, hb⟩
    case round =>
      clear hb
      obtain ⟨rfl, hb⟩ := hrel
      have hx := c_specAreDeps n oa cap D
      by_cases h0 : 0 < D.length
      · go_wp2_with (first | (go_at_call 63; refine Calls.mono (c_specAreDeps _ _ _ _ _ (hD.keep hb)) ?_; rintro e w1 ⟨rfl, hbn⟩; replace hb := bel_to (w := w) (by first | exact hb | exact hb.alloc hb.size _ | exact (hb.alloc hb.size _).alloc (Nat.le_trans hb.size (by simp)) _ | exact hb.setCell (by simp [hb.size]) _) hbn; clear hbn))
        go_ret
        exact ⟨ret_bool (by rw [HM.out]), hb⟩
      · go_wp2_with (first | (go_at_call 63; refine Calls.mono (c_specAreDeps _ _ _ _ _ (hD.keep hb)) ?_; rintro e w1 ⟨rfl, hbn⟩; replace hb := bel_to (w := w) (by first | exact hb | exact hb.alloc hb.size _ | exact (hb.alloc hb.size _).alloc (Nat.le_trans hb.size (by simp)) _ | exact hb.setCell (by simp [hb.size]) _) hbn; clear hbn))
        go_ret
        exact ⟨ret_bool (by rw [HM.out]), hb⟩
  · have HM : Hid (isCoverF n D = (List.range D.length).all fun i => !coverBad n D i) := by unfold isCoverF; rw [ha]; rfl
    go_enter Tryz.func80, Tryz.ntmps80
    go_wp2
    go_loopw [5] (fun i wr => ∃ k : Nat, i = .int .i64 k ∧ k ≤ D.length ∧ ((List.range k).all fun i => !coverBad n D i) = true ∧ Below w.heap.size w wr) (fun i _ => D.length - (intOf i).toNat)
    case atStart => exact ⟨0, rfl, Nat.zero_le _, rfl, hb⟩
    case round =>
      clear hb
      obtain ⟨k, rfl, hk, hall, hb⟩ := hrel
      have HA : Hid (((List.range k).all fun i => !coverBad n D i) = true) := hall
      clear hall
      by_cases hlt : k < D.length
      · obtain ⟨b, off, rfl, hbs, hc⟩ := hD.at_ (by omega)
        have hc1 := cell_keep (hc k hlt).1 hb
        have hc2 := cell_keep (hc k hlt).2 hb
        have HT : Hid (((List.range (k + 1)).all fun i => !coverBad n D i) = (((List.range k).all fun i => !coverBad n D i) && !coverBad n D k)) := range_all_succ _ k
        have HF : Hid (coverBad n D k = true → ((List.range D.length).all fun i => !coverBad n D i) = false) := fun h => range_all_false _ k _ hlt (by rw [h]; rfl)
        have hle : (eraD D k).length ≤ Room := by rw [eraD_len hlt]; unfold Room; omega
        clear hc
        go_wp2_with (first | (go_at_call 63; refine Calls.mono (c_specAreDeps _ _ _ _ _ (hD.keep hb)) ?_; rintro e w1 ⟨rfl, hbn⟩; replace hc1 := cell_keep hc1 hbn; replace hc2 := cell_keep hc2 hbn; replace hb := bel_to (w := w) (by first | exact hb | exact hb.alloc hb.size _ | exact (hb.alloc hb.size _).alloc (Nat.le_trans hb.size (by simp)) _ | exact hb.setCell (by simp [hb.size]) _) hbn; clear hbn))
        cases himp : impliesDepF n (eraD D k) (nl D k) (nr D k)
        · cases hr : (reduceF n D (nl D k) (nr D k) == nl D k)
          · have hr2 : (reduceF n D (nl D k) (nr D k) != nl D k) = true := by simp [bne, hr]
            go_region_held3 (fun w' => w'.cell? ⟨b, off + k * 2, none⟩ = some (.int .i64 (nl D k)) ∧ w'.cell? ⟨b, off + k * 2 + 1, none⟩ = some (.int .i64 (nr D k)) ∧ Below w.heap.size w w')
              (first | (rename_i hS _ _; exact ⟨cell_keep hS.1 hbn, cell_keep hS.2.1 hbn, bel_to hS.2.2 hbn⟩) | exact ⟨cell_keep hc1 (Below.refl _ _).drew, cell_keep hc2 (Below.refl _ _).drew, hb.drew⟩)
              (first
                | (go_at_call 159; rename_i hS _ _; refine (c_l11Without _ _ _ _ _ (hD.keep hS.2.2) hcap hlt).mono ?_; rintro e w1 ⟨v1, rfl, hO, hbn⟩; obtain ⟨o1, c1, rfl⟩ := hO.shape; have hL := hO.deps rfl hle; clear hO)
                | (go_at_call 160; refine Calls.mono (Ans.eqb (c_specImpliesDep _ _ _ _ _ _ _ hL) himp) ?_; rintro e w1 ⟨rfl, hbn⟩; clear hL)
                | (go_at_call 79; rename_i hS _ _; refine Calls.mono (c_specReduceLeft _ _ _ _ _ _ _ (hD.keep hS.2.2)) ?_; rintro e w1 ⟨rfl, hbn⟩)
                | fail)
            rename_i hS
            replace hb := hS.2.2
            clear hS hbn
            go_wp2
            go_ret
            exact ⟨ret_bool (by rw [HM.out, HF.out (by unfold coverBad; rw [himp, hr]; rfl)]), hb⟩
          · have hr2 : (reduceF n D (nl D k) (nr D k) != nl D k) = false := by simp [bne, hr]
            go_region_held3 (fun w' => w'.cell? ⟨b, off + k * 2, none⟩ = some (.int .i64 (nl D k)) ∧ w'.cell? ⟨b, off + k * 2 + 1, none⟩ = some (.int .i64 (nr D k)) ∧ Below w.heap.size w w')
              (first | (rename_i hS _ _; exact ⟨cell_keep hS.1 hbn, cell_keep hS.2.1 hbn, bel_to hS.2.2 hbn⟩) | exact ⟨cell_keep hc1 (Below.refl _ _).drew, cell_keep hc2 (Below.refl _ _).drew, hb.drew⟩)
              (first
                | (go_at_call 159; rename_i hS _ _; refine (c_l11Without _ _ _ _ _ (hD.keep hS.2.2) hcap hlt).mono ?_; rintro e w1 ⟨v1, rfl, hO, hbn⟩; obtain ⟨o1, c1, rfl⟩ := hO.shape; have hL := hO.deps rfl hle; clear hO)
                | (go_at_call 160; refine Calls.mono (Ans.eqb (c_specImpliesDep _ _ _ _ _ _ _ hL) himp) ?_; rintro e w1 ⟨rfl, hbn⟩; clear hL)
                | (go_at_call 79; rename_i hS _ _; refine Calls.mono (c_specReduceLeft _ _ _ _ _ _ _ (hD.keep hS.2.2)) ?_; rintro e w1 ⟨rfl, hbn⟩)
                | fail)
            rename_i hS
            replace hb := hS.2.2
            clear hS hbn
            go_wp2
            go_roundw
            case rel => exact ⟨k + 1, by go_num, by omega, by rw [HT.out, HA.out]; unfold coverBad; rw [himp, hr]; rfl, hb⟩
            case measure => simp [intOf]; omega
        · refine wp_region_held_drew (S := fun w' => w'.cell? ⟨b, off + k * 2, none⟩ = some (.int .i64 (nl D k)) ∧ w'.cell? ⟨b, off + k * 2 + 1, none⟩ = some (.int .i64 (nr D k)) ∧ Below w.heap.size w w') (by kernel_rfl) ⟨cell_keep hc1 (Below.refl _ _).drew, cell_keep hc2 (Below.refl _ _).drew, hb.drew⟩ (fun hS => ?_)
          (refine wpAnyH_val (i := 0) (some 17) ?_ rfl rfl (by kernel_rfl) (by kernel_rfl) (by kernel_rfl) (fun _ _ _ h => h) (by rfl) (by assumption) ?_ ?_; rotate_left; (intro w hSw; go_simp; (try with_reducible rfl)); (try simp only [Act.put, List.setIfInBounds_toArray, List.set_cons_zero, List.set_cons_succ])); (refine wpAnyH_val (i := 1) (some 18) ?_ rfl rfl (by kernel_rfl) (by kernel_rfl) (by kernel_rfl) (fun _ _ _ h => h) (by rfl) (by assumption) ?_ ?_; rotate_left; (intro w hSw; go_simp; (try with_reducible rfl)); (try simp only [Act.put, List.setIfInBounds_toArray, List.set_cons_zero, List.set_cons_succ])); (refine wpAnyH_val (i := 2) (some 19) ?_ rfl rfl (by kernel_rfl) (by kernel_rfl) (by kernel_rfl) (fun _ _ _ h => h) (by rfl) (by assumption) ?_ ?_; rotate_left; (intro w hSw; go_simp; (try with_reducible rfl)); (try simp only [Act.put, List.setIfInBounds_toArray, List.set_cons_zero, List.set_cons_succ])); (refine wpAnyH_val (i := 4) (some 21) ?_ rfl rfl (by kernel_rfl) (by kernel_rfl) (by kernel_rfl) (fun _ _ _ h => h) (by rfl) (by assumption) ?_ ?_; rotate_left; (intro w hSw; go_simp; (try with_reducible rfl)); (try simp only [Act.put, List.setIfInBounds_toArray, List.set_cons_zero, List.set_cons_succ])); (refine wpAnyH_val (i := 5) (some 22) ?_ rfl rfl (by kernel_rfl) (by kernel_rfl) (by kernel_rfl) (fun _ _ _ h => h) (by rfl) (by assumption) ?_ ?_; rotate_left; (intro w hSw; go_simp; (try with_reducible rfl)); (try simp only [Act.put, List.setIfInBounds_toArray, List.set_cons_zero, List.set_cons_succ])); (refine wpAnyH_val (i := 6) (some 23) ?_ rfl rfl (by kernel_rfl) (by kernel_rfl) (by kernel_rfl) (fun _ _ _ h => h) (by rfl) (by assumption) ?_ ?_; rotate_left; (intro w hSw; go_simp; (try with_reducible rfl)); (try simp only [Act.put, List.setIfInBounds_toArray, List.set_cons_zero, List.set_cons_succ])); (refine wpAnyH_val (i := 7) (some 24) ?_ rfl rfl (by kernel_rfl) (by kernel_rfl) (by kernel_rfl) (fun _ _ _ h => h) (by rfl) (by assumption) ?_ ?_; rotate_left; (intro w hSw; go_simp; (try with_reducible rfl)); (try simp only [Act.put, List.setIfInBounds_toArray, List.set_cons_zero, List.set_cons_succ]))
          (refine wpAnyH_ready (rs := [3]) (by kernel_rfl) (by simp) ?_; refine AllReadyH.cons rfl (fun K hK => ?_) AllReadyH.nil; go_simp)
          refine (c_l11Without _ _ _ _ _ (hD.keep hS.2.2) hcap hlt).mono ?_
          rintro e w1 ⟨v1, rfl, hO, hbn⟩
          obtain ⟨o1, c1, rfl⟩ := hO.shape
          have hL := hO.deps rfl hle
          clear hO
          refine hK.out _ _ ⟨cell_keep hS.1 hbn, cell_keep hS.2.1 hbn, bel_to hS.2.2 hbn⟩ (fun hS2 => ?_)
          clear hK hbn hS hb hc1 hc2
          (try simp only [Act.put, List.setIfInBounds_toArray, List.set_cons_zero, List.set_cons_succ])
          (refine wpAnyH_ready (rs := [8]) (by kernel_rfl) (by simp) ?_; refine AllReadyH.cons rfl (fun K hK => ?_) AllReadyH.nil; go_simp)
          refine Calls.mono (Ans.eqb (c_specImpliesDep _ _ _ _ _ _ _ hL) himp) ?_
          rintro e w2 ⟨rfl, hbn⟩
          clear hL
          refine hK.out _ _ ⟨cell_keep hS2.1 hbn, cell_keep hS2.2.1 hbn, bel_to hS2.2.2 hbn⟩ (fun hS3 => ?_)
          clear hK hbn
          (try simp only [Act.put, List.setIfInBounds_toArray, List.set_cons_zero, List.set_cons_succ])
          (refine wpAnyH_val (i := 9) (some 26) ?_ rfl rfl (by kernel_rfl) (by kernel_rfl) (by kernel_rfl) (fun _ _ _ h => h) (by rfl) (by assumption) ?_ ?_; rotate_left; (intro w hSw; go_simp; (try with_reducible rfl)); (try simp only [Act.put, List.setIfInBounds_toArray, List.set_cons_zero, List.set_cons_succ])); (refine wpAnyH_skip (i := 10) (some 27) rfl rfl (by kernel_rfl) (by kernel_rfl) (by kernel_rfl) (fun _ _ _ h => h) (by rfl) (by assumption) ?_; (try simp only [Act.put, List.setIfInBounds_toArray, List.set_cons_zero, List.set_cons_succ])); (refine wpAnyH_skip (i := 11) (some 28) rfl rfl (by kernel_rfl) (by kernel_rfl) (by kernel_rfl) (fun _ _ _ h => h) (by rfl) (by assumption) ?_; (try simp only [Act.put, List.setIfInBounds_toArray, List.set_cons_zero, List.set_cons_succ])); (refine wpAnyH_skip (i := 12) (some 29) rfl rfl (by kernel_rfl) (by kernel_rfl) (by kernel_rfl) (fun _ _ _ h => h) (by rfl) (by assumption) ?_; (try simp only [Act.put, List.setIfInBounds_toArray, List.set_cons_zero, List.set_cons_succ])); (refine wpAnyH_skip (i := 13) (some 30) rfl rfl (by kernel_rfl) (by kernel_rfl) (by kernel_rfl) (fun _ _ _ h => h) (by rfl) (by assumption) ?_; (try simp only [Act.put, List.setIfInBounds_toArray, List.set_cons_zero, List.set_cons_succ])); (refine wpAnyH_skip (i := 14) (some 31) rfl rfl (by kernel_rfl) (by kernel_rfl) (by kernel_rfl) (fun _ _ _ h => h) (by rfl) (by assumption) ?_; (try simp only [Act.put, List.setIfInBounds_toArray, List.set_cons_zero, List.set_cons_succ])); (refine wpAnyH_skip (i := 15) (some 32) rfl rfl (by kernel_rfl) (by kernel_rfl) (by kernel_rfl) (fun _ _ _ h => h) (by rfl) (by assumption) ?_; (try simp only [Act.put, List.setIfInBounds_toArray, List.set_cons_zero, List.set_cons_succ])); (refine wpAnyH_skip (i := 16) (some 33) rfl rfl (by kernel_rfl) (by kernel_rfl) (by kernel_rfl) (fun _ _ _ h => h) (by rfl) (by assumption) ?_; (try simp only [Act.put, List.setIfInBounds_toArray, List.set_cons_zero, List.set_cons_succ])); (refine wpAnyH_skip (i := 17) (some 34) rfl rfl (by kernel_rfl) (by kernel_rfl) (by kernel_rfl) (fun _ _ _ h => h) (by rfl) (by assumption) ?_; (try simp only [Act.put, List.setIfInBounds_toArray, List.set_cons_zero, List.set_cons_succ])); (refine wpAnyH_skip (i := 18) (some 35) rfl rfl (by kernel_rfl) (by kernel_rfl) (by kernel_rfl) (fun _ _ _ h => h) (by rfl) (by assumption) ?_; (try simp only [Act.put, List.setIfInBounds_toArray, List.set_cons_zero, List.set_cons_succ])); (refine wpAnyH_skip (i := 19) (some 36) rfl rfl (by kernel_rfl) (by kernel_rfl) (by kernel_rfl) (fun _ _ _ h => h) (by rfl) (by assumption) ?_; (try simp only [Act.put, List.setIfInBounds_toArray, List.set_cons_zero, List.set_cons_succ])); (refine wpAnyH_skip (i := 20) (some 37) rfl rfl (by kernel_rfl) (by kernel_rfl) (by kernel_rfl) (fun _ _ _ h => h) (by rfl) (by assumption) ?_; (try simp only [Act.put, List.setIfInBounds_toArray, List.set_cons_zero, List.set_cons_succ])); (refine wpAnyH_skip (i := 21) (some 38) rfl rfl (by kernel_rfl) (by kernel_rfl) (by kernel_rfl) (fun _ _ _ h => h) (by rfl) (by assumption) ?_; (try simp only [Act.put, List.setIfInBounds_toArray, List.set_cons_zero, List.set_cons_succ])); (refine wpAnyH_val (i := 22) (some 39) ?_ rfl rfl (by kernel_rfl) (by kernel_rfl) (by kernel_rfl) (fun _ _ _ h => h) (by rfl) (by assumption) ?_ ?_; rotate_left; (intro w hSw; go_simp; (try with_reducible rfl)); (try simp only [Act.put, List.setIfInBounds_toArray, List.set_cons_zero, List.set_cons_succ]))
          refine wpAnyH_done (by kernel_rfl) ?_ _
          try dsimp only [NoPanic, Exit.then]
          go_wp2
          go_ret
          exact ⟨ret_bool (by rw [HM.out, HF.out (by unfold coverBad; rw [himp]; rfl)]), hS3.2.2⟩
      · have hkk : k = D.length := by omega
        have HS : Hid (((List.range D.length).all fun i => !coverBad n D i) = true) := by rw [← hkk]; exact HA.out
        clear hkk
        go_wp2_with (first | (go_at_call 63; refine Calls.mono (c_specAreDeps _ _ _ _ _ (hD.keep hb)) ?_; rintro e w1 ⟨rfl, hbn⟩; replace hb := bel_to (w := w) (by first | exact hb | exact hb.alloc hb.size _ | exact (hb.alloc hb.size _).alloc (Nat.le_trans hb.size (by simp)) _ | exact hb.setCell (by simp [hb.size]) _) hbn; clear hbn))
        go_ret
        exact ⟨ret_bool (by rw [HM.out, HS.out]), hb⟩
theorem mem_eraD {D : List (Int × Int)} {i : Nat} {d : Int × Int} (h : d ∈ eraD D i) : d ∈ D := by
  unfold eraD at h
  rcases List.mem_append.1 h with h | h
  · exact List.mem_of_mem_take h
  · exact List.mem_of_mem_drop h
theorem nth_mem {D : List (Int × Int)} {k : Nat} (h : k < D.length) : (nl D k, nr D k) ∈ D := List.mem_iff_getElem?.2 ⟨k, dnth_eq h⟩
theorem areDepsF_mem {n : Int} {D : List (Int × Int)} (h : areDepsF n D = true) {d : Int × Int} (hd : d ∈ D) : isDepF n d.1 d.2 = true := by
  simp only [areDepsF, Bool.and_eq_true, decide_eq_true_eq, List.all_eq_true] at h
  exact h.1 d hd
theorem areDepsF_sub {n : Int} {D E : List (Int × Int)} (h : areDepsF n D = true) (hs : ∀ d ∈ E, d ∈ D) (hl : E.length ≤ D.length) : areDepsF n E = true := by
  simp only [areDepsF, Bool.and_eq_true, decide_eq_true_eq, List.all_eq_true] at h ⊢
  exact ⟨fun d hd => h.1 d (hs d hd), h.2.1, by omega⟩
theorem areDepsF_era {n : Int} {D : List (Int × Int)} (h : areDepsF n D = true) {i : Nat} (hi : i < D.length) : areDepsF n (eraD D i) = true :=
  areDepsF_sub h (fun _ hd => mem_eraD hd) (by rw [eraD_len hi]; omega)

set_option maxHeartbeats 1600000 in
theorem c_IsCover (n : Int) (oa) (cap : Nat) (D : List (Int × Int)) (w : World) (hD : DepsAt w oa D) (hcap : D.length ≤ cap) :
    Ans Tryz.prog 65 #[.int .i64 n, .slice oa D.length cap] w (.bool (isCoverF n D)) := by
  unfold Ans
  have hb := Below.refl w.heap.size w
  have hn : D.length ≤ 1073741824 := hD.len
  cases ha : areDepsF n D
  · have HM : Hid (isCoverF n D = false) := by unfold isCoverF; rw [ha]; rfl
    go_enter Tryz.func65, Tryz.ntmps65
    go_wp2_with (first | (go_at_call 155; refine Calls.mono (c_AreDeps _ _ _ _ _ (hD.keep hb)) ?_; rintro e w1 ⟨rfl, hbn⟩; replace hb := bel_to (w := w) (by first | exact hb | exact hb.alloc hb.size _ | exact (hb.alloc hb.size _).alloc (Nat.le_trans hb.size (by simp)) _ | exact hb.setCell (by simp [hb.size]) _) hbn; clear hbn))
    go_ret
    exact ⟨ret_bool (by rw [HM.out]), hb⟩
  · have HM : Hid (isCoverF n D = (List.range D.length).all fun i => !coverBad n D i) := by unfold isCoverF; rw [ha]; rfl
    go_enter Tryz.func65, Tryz.ntmps65
    go_wp2_with (first | (go_at_call 155; refine Calls.mono (c_AreDeps _ _ _ _ _ (hD.keep hb)) ?_; rintro e w1 ⟨rfl, hbn⟩; replace hb := bel_to (w := w) (by first | exact hb | exact hb.alloc hb.size _ | exact (hb.alloc hb.size _).alloc (Nat.le_trans hb.size (by simp)) _ | exact hb.setCell (by simp [hb.size]) _) hbn; clear hbn))
    go_loopw [13] (fun i wr => ∃ k : Nat, i = .int .i64 k ∧ k ≤ D.length ∧ ((List.range k).all fun i => !coverBad n D i) = true ∧ Below w.heap.size w wr) (fun i _ => D.length - (intOf i).toNat)
    case atStart => exact ⟨0, rfl, Nat.zero_le _, rfl, hb⟩
    case round =>
      clear hb
      obtain ⟨k, rfl, hk, hall, hb⟩ := hrel
      have HA : Hid (((List.range k).all fun i => !coverBad n D i) = true) := hall
      clear hall
      by_cases hlt : k < D.length
      · obtain ⟨b, off, rfl, hbs, hc⟩ := hD.at_ (by omega)
        have hc1 := cell_keep (hc k hlt).1 hb
        have hc2 := cell_keep (hc k hlt).2 hb
        have HT : Hid (((List.range (k + 1)).all fun i => !coverBad n D i) = (((List.range k).all fun i => !coverBad n D i) && !coverBad n D k)) := range_all_succ _ k
        have HF : Hid (coverBad n D k = true → ((List.range D.length).all fun i => !coverBad n D i) = false) := fun h => range_all_false _ k _ hlt (by rw [h]; rfl)
        have hle : (eraD D k).length ≤ Room := by rw [eraD_len hlt]; unfold Room; omega
        have hdk := areDepsF_mem ha (nth_mem hlt)
        obtain ⟨⟨hl, hr⟩, _⟩ := isDepF_val hdk
        have hera := areDepsF_era ha hlt
        have hv := (areDepsF_val hera).1
        have HI : Hid (impliesDepF n (eraD D k) (nl D k) (nr D k) = impF (eraD D k) (nl D k) (nr D k)) := by unfold impliesDepF; rw [hera, hdk]; rfl
        clear hc hdk hera
        generalize hdl : nl D k = l at *
        generalize hdr : nr D k = r at *
        go_wp2_with fail
        cases himp : impF (eraD D k) l r
        · cases hrd : (reduceF n D l r == l)
          · have hr2 : (reduceF n D l r != l) = true := by simp [bne, hrd]
            refine wp_region_held_drew (S := fun w' => w'.cell? ⟨wr.heap.size, 0, none⟩ = some (.int .i64 l) ∧ w'.cell? ⟨wr.heap.size, 1, none⟩ = some (.int .i64 r) ∧ Below w.heap.size w w') (by kernel_rfl) ⟨cell_keep (box_at wr #[.int .i64 l, .int .i64 r] 46 0 _ rfl) (Below.refl _ _).drew, cell_keep (box_at wr #[.int .i64 l, .int .i64 r] 46 1 _ rfl) (Below.refl _ _).drew, (hb.alloc hb.size _).drew⟩ (fun hS => ?_)
            (refine wpAnyH_val (i := 0) (some 18) ?_ rfl rfl (by kernel_rfl) (by kernel_rfl) (by kernel_rfl) (fun _ _ _ h => h) (by rfl) (by assumption) ?_ ?_; rotate_left; (intro w hSw; go_simp; (try with_reducible rfl)); (try simp only [Act.put, List.setIfInBounds_toArray, List.set_cons_zero, List.set_cons_succ])); (refine wpAnyH_val (i := 1) (some 19) ?_ rfl rfl (by kernel_rfl) (by kernel_rfl) (by kernel_rfl) (fun _ _ _ h => h) (by rfl) (by assumption) ?_ ?_; rotate_left; (intro w hSw; go_simp; (try with_reducible rfl)); (try simp only [Act.put, List.setIfInBounds_toArray, List.set_cons_zero, List.set_cons_succ])); (refine wpAnyH_val (i := 3) (some 21) ?_ rfl rfl (by kernel_rfl) (by kernel_rfl) (by kernel_rfl) (fun _ _ _ h => h) (by rfl) (by assumption) ?_ ?_; rotate_left; (intro w hSw; go_simp; (try with_reducible rfl)); (try simp only [Act.put, List.setIfInBounds_toArray, List.set_cons_zero, List.set_cons_succ]))
            (refine wpAnyH_ready (rs := [2]) (by kernel_rfl) (by simp) ?_; refine AllReadyH.cons rfl (fun K hK => ?_) AllReadyH.nil; go_simp)
            refine (c_without _ _ _ _ _ (hD.keep hS.2.2) hcap hlt).mono ?_
            rintro e w1 ⟨v1, rfl, hO, hbn⟩
            obtain ⟨o1, c1, rfl⟩ := hO.shape
            have hL := hO.deps rfl hle
            clear hO
            refine hK.out _ _ ⟨cell_keep hS.1 hbn, cell_keep hS.2.1 hbn, bel_to hS.2.2 hbn⟩ (fun hS2 => ?_)
            clear hK hbn hS hb hc1 hc2
            (try simp only [Act.put, List.setIfInBounds_toArray, List.set_cons_zero, List.set_cons_succ])
            (refine wpAnyH_ready (rs := [4]) (by kernel_rfl) (by simp) ?_; refine AllReadyH.cons rfl (fun K hK => ?_) AllReadyH.nil; go_simp)
            refine Calls.mono (Ans.eqb (c_implies _ _ _ _ _ _ hL hv hl hr) himp) ?_
            rintro e w2 ⟨rfl, hbn⟩
            clear hL
            refine hK.out _ _ ⟨cell_keep hS2.1 hbn, cell_keep hS2.2.1 hbn, bel_to hS2.2.2 hbn⟩ (fun hS3 => ?_)
            clear hK hbn hS2
            (try simp only [Act.put, List.setIfInBounds_toArray, List.set_cons_zero, List.set_cons_succ])
            (refine wpAnyH_val (i := 5) (some 23) ?_ rfl rfl (by kernel_rfl) (by kernel_rfl) (by kernel_rfl) (fun _ _ _ h => h) (by rfl) (by assumption) ?_ ?_; rotate_left; (intro w hSw; go_simp; (try with_reducible rfl)); (try simp only [Act.put, List.setIfInBounds_toArray, List.set_cons_zero, List.set_cons_succ])); (refine wpAnyH_val (i := 6) (some 24) ?_ rfl rfl (by kernel_rfl) (by kernel_rfl) (by kernel_rfl) (fun _ _ _ h => h) (by rfl) (by assumption) ?_ ?_; rotate_left; (intro w hSw; go_simp; (try with_reducible rfl)); (try simp only [Act.put, List.setIfInBounds_toArray, List.set_cons_zero, List.set_cons_succ])); (refine wpAnyH_val (i := 7) (some 25) ?_ rfl rfl (by kernel_rfl) (by kernel_rfl) (by kernel_rfl) (fun _ _ _ h => h) (by rfl) (by assumption) ?_ ?_; rotate_left; (intro w hSw; go_simp; (try with_reducible rfl)); (try simp only [Act.put, List.setIfInBounds_toArray, List.set_cons_zero, List.set_cons_succ])); (refine wpAnyH_val (i := 8) (some 26) ?_ rfl rfl (by kernel_rfl) (by kernel_rfl) (by kernel_rfl) (fun _ _ _ h => h) (by rfl) (by assumption) ?_ ?_; rotate_left; (intro w hSw; go_simp; (try with_reducible rfl)); (try simp only [Act.put, List.setIfInBounds_toArray, List.set_cons_zero, List.set_cons_succ])); (refine wpAnyH_val (i := 10) (some 28) ?_ rfl rfl (by kernel_rfl) (by kernel_rfl) (by kernel_rfl) (fun _ _ _ h => h) (by rfl) (by assumption) ?_ ?_; rotate_left; (intro w hSw; go_simp; (try with_reducible rfl)); (try simp only [Act.put, List.setIfInBounds_toArray, List.set_cons_zero, List.set_cons_succ]))
            (refine wpAnyH_ready (rs := [9]) (by kernel_rfl) (by simp) ?_; refine AllReadyH.cons rfl (fun K hK => ?_) AllReadyH.nil; go_simp)
            refine Calls.mono (c_ReduceLeft _ _ _ _ _ _ _ (hD.keep hS3.2.2)) ?_
            rintro e w3 ⟨rfl, hbn⟩
            refine hK.out _ _ ⟨cell_keep hS3.1 hbn, cell_keep hS3.2.1 hbn, bel_to hS3.2.2 hbn⟩ (fun hS4 => ?_)
            clear hK hbn hS3
            (try simp only [Act.put, List.setIfInBounds_toArray, List.set_cons_zero, List.set_cons_succ])
            (refine wpAnyH_val (i := 11) (some 29) ?_ rfl rfl (by kernel_rfl) (by kernel_rfl) (by kernel_rfl) (fun _ _ _ h => h) (by rfl) (by assumption) ?_ ?_; rotate_left; (intro w hSw; go_simp; (try with_reducible rfl)); (try simp only [Act.put, List.setIfInBounds_toArray, List.set_cons_zero, List.set_cons_succ])); (refine wpAnyH_val (i := 12) (some 30) ?_ rfl rfl (by kernel_rfl) (by kernel_rfl) (by kernel_rfl) (fun _ _ _ h => h) (by rfl) (by assumption) ?_ ?_; rotate_left; (intro w hSw; go_simp; (try with_reducible rfl)); (try simp only [Act.put, List.setIfInBounds_toArray, List.set_cons_zero, List.set_cons_succ]))
            refine wpAnyH_done (by kernel_rfl) ?_ _
            try dsimp only [NoPanic, Exit.then]
            go_wp2
            go_ret
            exact ⟨ret_bool (by rw [HM.out, HF.out (by unfold coverBad; rw [hdl, hdr, hrd]; simp)]), hS4.2.2⟩
          · have hr2 : (reduceF n D l r != l) = false := by simp [bne, hrd]
            refine wp_region_held_drew (S := fun w' => w'.cell? ⟨wr.heap.size, 0, none⟩ = some (.int .i64 l) ∧ w'.cell? ⟨wr.heap.size, 1, none⟩ = some (.int .i64 r) ∧ Below w.heap.size w w') (by kernel_rfl) ⟨cell_keep (box_at wr #[.int .i64 l, .int .i64 r] 46 0 _ rfl) (Below.refl _ _).drew, cell_keep (box_at wr #[.int .i64 l, .int .i64 r] 46 1 _ rfl) (Below.refl _ _).drew, (hb.alloc hb.size _).drew⟩ (fun hS => ?_)
            (refine wpAnyH_val (i := 0) (some 18) ?_ rfl rfl (by kernel_rfl) (by kernel_rfl) (by kernel_rfl) (fun _ _ _ h => h) (by rfl) (by assumption) ?_ ?_; rotate_left; (intro w hSw; go_simp; (try with_reducible rfl)); (try simp only [Act.put, List.setIfInBounds_toArray, List.set_cons_zero, List.set_cons_succ])); (refine wpAnyH_val (i := 1) (some 19) ?_ rfl rfl (by kernel_rfl) (by kernel_rfl) (by kernel_rfl) (fun _ _ _ h => h) (by rfl) (by assumption) ?_ ?_; rotate_left; (intro w hSw; go_simp; (try with_reducible rfl)); (try simp only [Act.put, List.setIfInBounds_toArray, List.set_cons_zero, List.set_cons_succ])); (refine wpAnyH_val (i := 3) (some 21) ?_ rfl rfl (by kernel_rfl) (by kernel_rfl) (by kernel_rfl) (fun _ _ _ h => h) (by rfl) (by assumption) ?_ ?_; rotate_left; (intro w hSw; go_simp; (try with_reducible rfl)); (try simp only [Act.put, List.setIfInBounds_toArray, List.set_cons_zero, List.set_cons_succ]))
            (refine wpAnyH_ready (rs := [2]) (by kernel_rfl) (by simp) ?_; refine AllReadyH.cons rfl (fun K hK => ?_) AllReadyH.nil; go_simp)
            refine (c_without _ _ _ _ _ (hD.keep hS.2.2) hcap hlt).mono ?_
            rintro e w1 ⟨v1, rfl, hO, hbn⟩
            obtain ⟨o1, c1, rfl⟩ := hO.shape
            have hL := hO.deps rfl hle
            clear hO
            refine hK.out _ _ ⟨cell_keep hS.1 hbn, cell_keep hS.2.1 hbn, bel_to hS.2.2 hbn⟩ (fun hS2 => ?_)
            clear hK hbn hS hb hc1 hc2
            (try simp only [Act.put, List.setIfInBounds_toArray, List.set_cons_zero, List.set_cons_succ])
            (refine wpAnyH_ready (rs := [4]) (by kernel_rfl) (by simp) ?_; refine AllReadyH.cons rfl (fun K hK => ?_) AllReadyH.nil; go_simp)
            refine Calls.mono (Ans.eqb (c_implies _ _ _ _ _ _ hL hv hl hr) himp) ?_
            rintro e w2 ⟨rfl, hbn⟩
            clear hL
            refine hK.out _ _ ⟨cell_keep hS2.1 hbn, cell_keep hS2.2.1 hbn, bel_to hS2.2.2 hbn⟩ (fun hS3 => ?_)
            clear hK hbn hS2
            (try simp only [Act.put, List.setIfInBounds_toArray, List.set_cons_zero, List.set_cons_succ])
            (refine wpAnyH_val (i := 5) (some 23) ?_ rfl rfl (by kernel_rfl) (by kernel_rfl) (by kernel_rfl) (fun _ _ _ h => h) (by rfl) (by assumption) ?_ ?_; rotate_left; (intro w hSw; go_simp; (try with_reducible rfl)); (try simp only [Act.put, List.setIfInBounds_toArray, List.set_cons_zero, List.set_cons_succ])); (refine wpAnyH_val (i := 6) (some 24) ?_ rfl rfl (by kernel_rfl) (by kernel_rfl) (by kernel_rfl) (fun _ _ _ h => h) (by rfl) (by assumption) ?_ ?_; rotate_left; (intro w hSw; go_simp; (try with_reducible rfl)); (try simp only [Act.put, List.setIfInBounds_toArray, List.set_cons_zero, List.set_cons_succ])); (refine wpAnyH_val (i := 7) (some 25) ?_ rfl rfl (by kernel_rfl) (by kernel_rfl) (by kernel_rfl) (fun _ _ _ h => h) (by rfl) (by assumption) ?_ ?_; rotate_left; (intro w hSw; go_simp; (try with_reducible rfl)); (try simp only [Act.put, List.setIfInBounds_toArray, List.set_cons_zero, List.set_cons_succ])); (refine wpAnyH_val (i := 8) (some 26) ?_ rfl rfl (by kernel_rfl) (by kernel_rfl) (by kernel_rfl) (fun _ _ _ h => h) (by rfl) (by assumption) ?_ ?_; rotate_left; (intro w hSw; go_simp; (try with_reducible rfl)); (try simp only [Act.put, List.setIfInBounds_toArray, List.set_cons_zero, List.set_cons_succ])); (refine wpAnyH_val (i := 10) (some 28) ?_ rfl rfl (by kernel_rfl) (by kernel_rfl) (by kernel_rfl) (fun _ _ _ h => h) (by rfl) (by assumption) ?_ ?_; rotate_left; (intro w hSw; go_simp; (try with_reducible rfl)); (try simp only [Act.put, List.setIfInBounds_toArray, List.set_cons_zero, List.set_cons_succ]))
            (refine wpAnyH_ready (rs := [9]) (by kernel_rfl) (by simp) ?_; refine AllReadyH.cons rfl (fun K hK => ?_) AllReadyH.nil; go_simp)
            refine Calls.mono (c_ReduceLeft _ _ _ _ _ _ _ (hD.keep hS3.2.2)) ?_
            rintro e w3 ⟨rfl, hbn⟩
            refine hK.out _ _ ⟨cell_keep hS3.1 hbn, cell_keep hS3.2.1 hbn, bel_to hS3.2.2 hbn⟩ (fun hS4 => ?_)
            clear hK hbn hS3
            (try simp only [Act.put, List.setIfInBounds_toArray, List.set_cons_zero, List.set_cons_succ])
            (refine wpAnyH_val (i := 11) (some 29) ?_ rfl rfl (by kernel_rfl) (by kernel_rfl) (by kernel_rfl) (fun _ _ _ h => h) (by rfl) (by assumption) ?_ ?_; rotate_left; (intro w hSw; go_simp; (try with_reducible rfl)); (try simp only [Act.put, List.setIfInBounds_toArray, List.set_cons_zero, List.set_cons_succ])); (refine wpAnyH_val (i := 12) (some 30) ?_ rfl rfl (by kernel_rfl) (by kernel_rfl) (by kernel_rfl) (fun _ _ _ h => h) (by rfl) (by assumption) ?_ ?_; rotate_left; (intro w hSw; go_simp; (try with_reducible rfl)); (try simp only [Act.put, List.setIfInBounds_toArray, List.set_cons_zero, List.set_cons_succ]))
            refine wpAnyH_done (by kernel_rfl) ?_ _
            try dsimp only [NoPanic, Exit.then]
            go_wp2
            go_roundw
            case rel => exact ⟨k + 1, by go_num, by omega, by rw [HT.out, HA.out]; unfold coverBad; rw [hdl, hdr, HI.out, himp, hrd]; rfl, hS4.2.2⟩
            case measure => simp [intOf]; omega
        · refine wp_region_held_drew (S := fun w' => w'.cell? ⟨wr.heap.size, 0, none⟩ = some (.int .i64 l) ∧ w'.cell? ⟨wr.heap.size, 1, none⟩ = some (.int .i64 r) ∧ Below w.heap.size w w') (by kernel_rfl) ⟨cell_keep (box_at wr #[.int .i64 l, .int .i64 r] 46 0 _ rfl) (Below.refl _ _).drew, cell_keep (box_at wr #[.int .i64 l, .int .i64 r] 46 1 _ rfl) (Below.refl _ _).drew, (hb.alloc hb.size _).drew⟩ (fun hS => ?_)
          (refine wpAnyH_val (i := 0) (some 18) ?_ rfl rfl (by kernel_rfl) (by kernel_rfl) (by kernel_rfl) (fun _ _ _ h => h) (by rfl) (by assumption) ?_ ?_; rotate_left; (intro w hSw; go_simp; (try with_reducible rfl)); (try simp only [Act.put, List.setIfInBounds_toArray, List.set_cons_zero, List.set_cons_succ])); (refine wpAnyH_val (i := 1) (some 19) ?_ rfl rfl (by kernel_rfl) (by kernel_rfl) (by kernel_rfl) (fun _ _ _ h => h) (by rfl) (by assumption) ?_ ?_; rotate_left; (intro w hSw; go_simp; (try with_reducible rfl)); (try simp only [Act.put, List.setIfInBounds_toArray, List.set_cons_zero, List.set_cons_succ])); (refine wpAnyH_val (i := 3) (some 21) ?_ rfl rfl (by kernel_rfl) (by kernel_rfl) (by kernel_rfl) (fun _ _ _ h => h) (by rfl) (by assumption) ?_ ?_; rotate_left; (intro w hSw; go_simp; (try with_reducible rfl)); (try simp only [Act.put, List.setIfInBounds_toArray, List.set_cons_zero, List.set_cons_succ]))
          (refine wpAnyH_ready (rs := [2]) (by kernel_rfl) (by simp) ?_; refine AllReadyH.cons rfl (fun K hK => ?_) AllReadyH.nil; go_simp)
          refine (c_without _ _ _ _ _ (hD.keep hS.2.2) hcap hlt).mono ?_
          rintro e w1 ⟨v1, rfl, hO, hbn⟩
          obtain ⟨o1, c1, rfl⟩ := hO.shape
          have hL := hO.deps rfl hle
          clear hO
          refine hK.out _ _ ⟨cell_keep hS.1 hbn, cell_keep hS.2.1 hbn, bel_to hS.2.2 hbn⟩ (fun hS2 => ?_)
          clear hK hbn hS hb hc1 hc2
          (try simp only [Act.put, List.setIfInBounds_toArray, List.set_cons_zero, List.set_cons_succ])
          (refine wpAnyH_ready (rs := [4]) (by kernel_rfl) (by simp) ?_; refine AllReadyH.cons rfl (fun K hK => ?_) AllReadyH.nil; go_simp)
          refine Calls.mono (Ans.eqb (c_implies _ _ _ _ _ _ hL hv hl hr) himp) ?_
          rintro e w2 ⟨rfl, hbn⟩
          clear hL
          refine hK.out _ _ ⟨cell_keep hS2.1 hbn, cell_keep hS2.2.1 hbn, bel_to hS2.2.2 hbn⟩ (fun hS3 => ?_)
          clear hK hbn hS2
          (try simp only [Act.put, List.setIfInBounds_toArray, List.set_cons_zero, List.set_cons_succ])
          (refine wpAnyH_val (i := 5) (some 23) ?_ rfl rfl (by kernel_rfl) (by kernel_rfl) (by kernel_rfl) (fun _ _ _ h => h) (by rfl) (by assumption) ?_ ?_; rotate_left; (intro w hSw; go_simp; (try with_reducible rfl)); (try simp only [Act.put, List.setIfInBounds_toArray, List.set_cons_zero, List.set_cons_succ])); (refine wpAnyH_skip (i := 6) (some 24) rfl rfl (by kernel_rfl) (by kernel_rfl) (by kernel_rfl) (fun _ _ _ h => h) (by rfl) (by assumption) ?_; (try simp only [Act.put, List.setIfInBounds_toArray, List.set_cons_zero, List.set_cons_succ])); (refine wpAnyH_skip (i := 7) (some 25) rfl rfl (by kernel_rfl) (by kernel_rfl) (by kernel_rfl) (fun _ _ _ h => h) (by rfl) (by assumption) ?_; (try simp only [Act.put, List.setIfInBounds_toArray, List.set_cons_zero, List.set_cons_succ])); (refine wpAnyH_skip (i := 8) (some 26) rfl rfl (by kernel_rfl) (by kernel_rfl) (by kernel_rfl) (fun _ _ _ h => h) (by rfl) (by assumption) ?_; (try simp only [Act.put, List.setIfInBounds_toArray, List.set_cons_zero, List.set_cons_succ])); (refine wpAnyH_skip (i := 9) (some 27) rfl rfl (by kernel_rfl) (by kernel_rfl) (by kernel_rfl) (fun _ _ _ h => h) (by rfl) (by assumption) ?_; (try simp only [Act.put, List.setIfInBounds_toArray, List.set_cons_zero, List.set_cons_succ])); (refine wpAnyH_skip (i := 10) (some 28) rfl rfl (by kernel_rfl) (by kernel_rfl) (by kernel_rfl) (fun _ _ _ h => h) (by rfl) (by assumption) ?_; (try simp only [Act.put, List.setIfInBounds_toArray, List.set_cons_zero, List.set_cons_succ])); (refine wpAnyH_skip (i := 11) (some 29) rfl rfl (by kernel_rfl) (by kernel_rfl) (by kernel_rfl) (fun _ _ _ h => h) (by rfl) (by assumption) ?_; (try simp only [Act.put, List.setIfInBounds_toArray, List.set_cons_zero, List.set_cons_succ])); (refine wpAnyH_val (i := 12) (some 30) ?_ rfl rfl (by kernel_rfl) (by kernel_rfl) (by kernel_rfl) (fun _ _ _ h => h) (by rfl) (by assumption) ?_ ?_; rotate_left; (intro w hSw; go_simp; (try with_reducible rfl)); (try simp only [Act.put, List.setIfInBounds_toArray, List.set_cons_zero, List.set_cons_succ]))
          refine wpAnyH_done (by kernel_rfl) ?_ _
          try dsimp only [NoPanic, Exit.then]
          go_wp2
          go_ret
          exact ⟨ret_bool (by rw [HM.out, HF.out (by unfold coverBad; rw [hdl, hdr, HI.out, himp]; rfl)]), hS3.2.2⟩
      · have hkk : k = D.length := by omega
        have HS : Hid (((List.range D.length).all fun i => !coverBad n D i) = true) := by rw [← hkk]; exact HA.out
        clear hkk
        go_wp2
        go_ret
        exact ⟨ret_bool (by rw [HM.out, HS.out]), hb⟩
end Go.Proofs.YtjbmpnbfiahdhaaGreat
namespace Go.Proofs.YtjbmpnbfiahdhaaGreat
open Go.RowKit
set_option linter.unusedVariables false
set_option maxRecDepth 100000

def addF (n : Int) (D A : List (Int × Int)) (d : Int × Int) : List (Int × Int) := if A.contains (reduceF n D d.1 d.2, d.2) then A else A ++ [(reduceF n D d.1 d.2, d.2)]
def dstF (n : Int) (D : List (Int × Int)) (k : Nat) : List (Int × Int) := (D.take k).foldl (addF n D) []
def pruneF (n : Int) : Nat → List (Int × Int) → Nat → List (Int × Int)
  | 0, A, _ => A
  | f + 1, A, i => if i < A.length then (if impliesDepF n (eraD A i) (nl A i) (nr A i) then pruneF n f (eraD A i) i else pruneF n f A (i + 1)) else A
def coverOfF (n : Int) (D : List (Int × Int)) : List (Int × Int) := if areDepsF n D then pruneF n (dstF n D D.length).length (dstF n D D.length) 0 else []
theorem dstF_succ {n : Int} {D : List (Int × Int)} {k : Nat} (hk : k < D.length) : dstF n D (k + 1) = addF n D (dstF n D k) (nl D k, nr D k) := by
  unfold dstF; rw [List.take_add_one, dnth_eq hk, List.foldl_append]; rfl
theorem dstF_len (n : Int) (D : List (Int × Int)) : ∀ k, k ≤ D.length → (dstF n D k).length ≤ k
  | 0, _ => by simp [dstF]
  | k + 1, hk => by
    rw [dstF_succ (by omega)]
    have := dstF_len n D k (by omega)
    unfold addF; split
    · omega
    · simp; omega
theorem dif_leC {x c : Int} (hx : St x) (hc : Co c) : dif x (one c) ≤ x := by
  obtain ⟨n, hn, rfl⟩ := st_nat hx; obtain ⟨k, hk, rfl⟩ := co_nat hc
  have h : ∀ n < 32, ∀ k < 5, dif (n : Nat) (one (k : Nat)) ≤ (n : Nat) := by decide +kernel
  exact h n hn k hk
theorem foldl_le {D : List (Int × Int)} {r : Int} : ∀ (C : List Int) (x : Int), (∀ c ∈ C, Co c) → St x → C.foldl (redStep D r) x ≤ x ∧ St (C.foldl (redStep D r) x)
  | [], x, _, hx => ⟨Int.le_refl x, hx⟩
  | c :: C, x, hC, hx => by
    have hc := hC c (List.mem_cons_self ..)
    have h1 : redStep D r x c ≤ x := by
      unfold redStep; split
      · exact dif_leC hx hc
      · exact Int.le_refl x
    have h2 := foldl_le (D := D) (r := r) C (redStep D r x c) (fun d hd => hC d (List.mem_cons_of_mem _ hd)) (redStep_st hx hc)
    exact ⟨Int.le_trans h2.1 h1, h2.2⟩
theorem five_co : ∀ c ∈ fiveI, Co c := by decide
theorem reduceF_dep {n l r : Int} {D : List (Int × Int)} (h : isDepF n l r = true) : isDepF n (reduceF n D l r) r = true := by
  unfold reduceF
  split
  · have hst := (isDepF_val h).1.1
    have := foldl_le (D := D) (r := r) fiveI l five_co hst
    simp only [isDepF, isAttr, Bool.and_eq_true, decide_eq_true_eq] at h ⊢
    unfold redF
    exact ⟨⟨⟨h.1.1.1, ⟨h.1.1.2.1.1, this.2.1⟩, Int.lt_of_le_of_lt this.1 h.1.1.2.2⟩, h.1.2⟩, h.2⟩
  · exact h
theorem dstF_dep {n : Int} {D : List (Int × Int)} (ha : areDepsF n D = true) : ∀ k, k ≤ D.length → ∀ d ∈ dstF n D k, isDepF n d.1 d.2 = true
  | 0, _, d, hd => by simp [dstF] at hd
  | k + 1, hk, d, hd => by
    rw [dstF_succ (by omega)] at hd
    unfold addF at hd
    split at hd
    · exact dstF_dep ha k (by omega) d hd
    · rcases List.mem_append.1 hd with hd | hd
      · exact dstF_dep ha k (by omega) d hd
      · simp at hd; subst hd
        exact reduceF_dep (areDepsF_mem ha (nth_mem (k := k) (by omega)))
theorem pruneF_end {n : Int} {A : List (Int × Int)} {i : Nat} (h : A.length ≤ i) (f : Nat) : pruneF n f A i = A := by
  cases f with
  | zero => rfl
  | succ f => unfold pruneF; rw [if_neg (by omega)]
theorem pruneF_del {n : Int} {A : List (Int × Int)} {i : Nat} (h : i < A.length) (hi : impliesDepF n (eraD A i) (nl A i) (nr A i) = true) : pruneF n (A.length - i) A i = pruneF n ((eraD A i).length - i) (eraD A i) i := by
  have e : A.length - i = ((eraD A i).length - i) + 1 := by rw [eraD_len h]; omega
  rw [e]; conv => lhs; unfold pruneF
  rw [if_pos h, hi]; rfl
theorem pruneF_keep {n : Int} {A : List (Int × Int)} {i : Nat} (h : i < A.length) (hi : impliesDepF n (eraD A i) (nl A i) (nr A i) = false) : pruneF n (A.length - i) A i = pruneF n (A.length - (i + 1)) A (i + 1) := by
  have e : A.length - i = (A.length - (i + 1)) + 1 := by omega
  rw [e]; conv => lhs; unfold pruneF
  rw [if_pos h, hi]; rfl
theorem contains_succ {A : List (Int × Int)} {k : Nat} (h : k < A.length) (d : Int × Int) : (A.take (k + 1)).contains d = ((A.take k).contains d || (nl A k == d.1 && nr A k == d.2)) := by
  rw [List.take_add_one, dnth_eq h, Bool.eq_iff_iff]
  simp only [Option.toList, List.contains_iff_mem, List.mem_append, List.mem_singleton, Bool.or_eq_true, Bool.and_eq_true, beq_iff_eq, Prod.ext_iff]
  constructor
  · rintro (h | ⟨h1, h2⟩)
    · exact .inl h
    · exact .inr ⟨h1.symm, h2.symm⟩
  · rintro (h | ⟨h1, h2⟩)
    · exact .inl h
    · exact .inr ⟨h1.symm, h2.symm⟩
theorem contains_at {A : List (Int × Int)} {k : Nat} (h : k < A.length) {l r : Int} (h1 : nl A k = l) (h2 : nr A k = r) : A.contains (l, r) = true := by
  subst h1; subst h2
  simp only [List.contains_iff_mem]; exact nth_mem h
def slen : Value → Nat
  | .slice _ n _ => n
  | _ => 0

set_option maxHeartbeats 800000 in
theorem c_hasDep (oa) (cap : Nat) (A : List (Int × Int)) (l r : Int) (w : World) (hD : DepsAt w oa A) :
    Ans Tryz.prog 156 #[.slice oa A.length cap, .agg #[.int .i64 l, .int .i64 r]] w (.bool (A.contains (l, r))) := by
  unfold Ans
  have hn : A.length ≤ 1073741824 := hD.len
  have hb := (Below.refl w.heap.size w).alloc (Nat.le_refl _) (.cells #[.int .i64 l, .int .i64 r] 46)
  have b0 := box_at w #[.int .i64 l, .int .i64 r] 46 0 _ rfl
  have b1 := box_at w #[.int .i64 l, .int .i64 r] 46 1 _ rfl
  go_enter Tryz.func156, Tryz.ntmps156
  go_wp2
  go_loopw [9] (fun i wr => ∃ k : Nat, i = .int .i64 k ∧ k ≤ A.length ∧ (A.take k).contains (l, r) = false ∧ wr.cell? ⟨w.heap.size, 0, none⟩ = some (.int .i64 l) ∧ wr.cell? ⟨w.heap.size, 1, none⟩ = some (.int .i64 r) ∧ Below w.heap.size w wr) (fun i _ => A.length - (intOf i).toNat)
  case atStart => exact ⟨0, rfl, Nat.zero_le _, by simp, b0, b1, hb⟩
  case round =>
    clear b0 b1 hb
    obtain ⟨k, rfl, hk, hall, b0, b1, hb⟩ := hrel
    have HA : Hid ((A.take k).contains (l, r) = false) := hall
    clear hall
    by_cases hlt : k < A.length
    · obtain ⟨b, off, rfl, hbs, hc⟩ := hD.at_ (by omega)
      have hc1 := cell_keep (hc k hlt).1 hb
      have hc2 := cell_keep (hc k hlt).2 hb
      have d0 := cell_keep b0 ((Below.refl wr.heap.size wr).alloc (Nat.le_refl _) (.cells #[.int .i64 (nl A k), .int .i64 (nr A k)] 46))
      have d1 := cell_keep b1 ((Below.refl wr.heap.size wr).alloc (Nat.le_refl _) (.cells #[.int .i64 (nl A k), .int .i64 (nr A k)] 46))
      have hb2 := hb.alloc hb.size (.cells #[.int .i64 (nl A k), .int .i64 (nr A k)] 46)
      have HT : Hid ((A.take (k + 1)).contains (l, r) = ((A.take k).contains (l, r) || (nl A k == l && nr A k == r))) := contains_succ hlt (l, r)
      have HF : Hid (nl A k = l → nr A k = r → A.contains (l, r) = true) := contains_at hlt
      clear hc
      cases he : (nl A k == l && nr A k == r)
      · have he1 : ¬ (nl A k = l ∧ nr A k = r) := by simpa using he
        by_cases h1 : nl A k = l
        · have h2 : ¬ (nr A k = r) := fun h => he1 ⟨h1, h⟩
          have e1 : (nl A k == l) = true := by simp [h1]
          have e2 : (nr A k == r) = false := by simp [h2]
          clear he1 h1 h2
          go_wp2
          go_roundw
          case rel => exact ⟨k + 1, by go_num, by omega, by rw [HT.out, HA.out, he]; rfl, d0, d1, hb2⟩
          case measure => simp [intOf]; omega
        · have e1 : (nl A k == l) = false := by simp [h1]
          clear he1 h1
          go_wp2
          go_roundw
          case rel => exact ⟨k + 1, by go_num, by omega, by rw [HT.out, HA.out, he]; rfl, d0, d1, hb2⟩
          case measure => simp [intOf]; omega
      · have he1 : nl A k = l ∧ nr A k = r := by simpa using he
        have HV : Hid (A.contains (l, r) = true) := HF.out he1.1 he1.2
        have e1 : (nl A k == l) = true := by simp [he1.1]
        have e2 : (nr A k == r) = true := by simp [he1.2]
        clear he1 he
        go_wp2
        go_ret
        exact ⟨ret_bool HV.out.symm, hb2⟩
    · have hkk : k = A.length := by omega
      have HS : Hid (A.contains (l, r) = false) := by have := HA.out; rw [hkk, List.take_length] at this; exact this
      clear hkk
      go_wp2
      go_ret
      exact ⟨ret_bool HS.out.symm, hb⟩
end Go.Proofs.YtjbmpnbfiahdhaaGreat
namespace Go.Proofs.YtjbmpnbfiahdhaaGreat
open Go.RowKit
set_option linter.unusedVariables false
set_option maxRecDepth 100000

theorem OwnD.snoc {w : World} {base : Nat} {v : Value} {A : List (Int × Int)} {l r : Int} (h : w.ownsRow base 46 2 v (A.length + 1) (dcells A ++ [.int .i64 l, .int .i64 r])) : OwnD w base v (A ++ [(l, r)]) := OwnD.joined (B := [(l, r)]) h

set_option maxHeartbeats 3200000 in
theorem c_specCoverOf (n : Int) (oa) (cap : Nat) (D : List (Int × Int)) (w : World) (hD : DepsAt w oa D) :
    Calls Tryz.prog 62 #[.int .i64 n, .slice oa D.length cap] w fun e w' => ∃ v, e = .returned v ∧ OwnD w' w.heap.size v (coverOfF n D) ∧ Below w.heap.size w w' := by
  obtain ⟨i0, hi, hz0, hz1, hz2⟩ := info_parts info_dep
  have hn : D.length ≤ 1073741824 := hD.len
  have hb := (Below.refl w.heap.size w).alloc (Nat.le_refl _) (.cells #[] 46)
  have hI := OwnD.empty w w.heap.size (Nat.le_refl _)
  cases ha : areDepsF n D
  · have HM : Hid (coverOfF n D = []) := by unfold coverOfF; rw [ha]; rfl
    go_enter Tryz.func62, Tryz.ntmps62
    go_wp2_with (first | (go_at_call 63; refine Calls.mono (c_specAreDeps _ _ _ _ _ (hD.keep hb)) ?_; rintro e w1 ⟨rfl, hbn⟩; replace hI := hI.keep hbn; replace hb := bel_to (w := w) (by first | exact hb | exact hb.alloc hb.size _ | exact (hb.alloc hb.size _).alloc (Nat.le_trans hb.size (by simp)) _ | exact hb.setCell (by simp [hb.size]) _) hbn; clear hbn))
    go_ret
    exact ⟨_, rfl, by rw [HM.out]; exact hI, hb⟩
  · have HM : Hid (coverOfF n D = pruneF n (dstF n D D.length).length (dstF n D D.length) 0) := by unfold coverOfF; rw [ha]; rfl
    go_enter Tryz.func62, Tryz.ntmps62
    go_wp2_with (first | (go_at_call 63; refine Calls.mono (c_specAreDeps _ _ _ _ _ (hD.keep hb)) ?_; rintro e w1 ⟨rfl, hbn⟩; replace hI := hI.keep hbn; replace hb := bel_to (w := w) (by first | exact hb | exact hb.alloc hb.size _ | exact (hb.alloc hb.size _).alloc (Nat.le_trans hb.size (by simp)) _ | exact hb.setCell (by simp [hb.size]) _) hbn; clear hbn))
    go_loopw [5, 6] (fun v i wr => ∃ k : Nat, i = .int .i64 k ∧ k ≤ D.length ∧ OwnD wr w.heap.size v (dstF n D k) ∧ Below w.heap.size w wr) (fun _ i _ => D.length - (intOf i).toNat)
    case atStart => exact ⟨0, rfl, Nat.zero_le _, hI, hb⟩
    case round =>
      clear hI hb
      obtain ⟨k, rfl, hk, hI, hb⟩ := hrel
      have HS : Hid (k < D.length → dstF n D (k + 1) = addF n D (dstF n D k) (nl D k, nr D k)) := dstF_succ
      have hle := dstF_len n D k hk
      by_cases hlt : k < D.length
      · obtain ⟨b, off, rfl, hbs, hc⟩ := hD.at_ (by omega)
        have hc1 := cell_keep (hc k hlt).1 hb
        have hc2 := cell_keep (hc k hlt).2 hb
        have HS2 := HS.out hlt
        clear hc HS
        generalize hA : dstF n D k = A at *
        generalize hx : reduceF n D (nl D k) (nr D k) = x at *
        have HS0 : dstF n D (k + 1) = if A.contains (x, nr D k) then A else A ++ [(x, nr D k)] := by rw [HS2]; unfold addF; simp only [hx]
        have HS : Hid (_) := HS0
        clear HS0
        clear HS2
        obtain ⟨o1, c1, rfl⟩ := hI.shape
        go_wp2_with fail
        refine Calls.mono (c_specReduceLeft _ _ _ _ _ _ _ (hD.keep hb)) ?_
        rintro e w1 ⟨rfl, hbn⟩
        rw [hx]
        replace hI := hI.keep hbn
        replace hb := bel_to hb hbn
        clear hbn hc1 hc2
        have hbx := (Below.refl w1.heap.size w1).alloc (Nat.le_refl _) (.cells #[.int .i64 x, .int .i64 (nr D k)] 46)
        have hI2 := hI.keep hbx
        have hb2 := bel_to hb hbx
        have k0 := Blk.new w1 #[.int .i64 x, .int .i64 (nr D k)] 46
        clear hI hb hbx
        go_wp2
        go_loopw [8, 9] (fun f j wr => ∃ m : Nat, j = .int .i64 m ∧ m ≤ A.length ∧ f = .bool ((A.take m).contains (x, nr D k)) ∧ Blk wr w1.heap.size #[.int .i64 x, .int .i64 (nr D k)] 46 ∧ OwnD wr w.heap.size (.slice o1 A.length c1) A ∧ Below w.heap.size w wr) (fun _ j _ => A.length - (intOf j).toNat)
        case atStart => exact ⟨0, rfl, Nat.zero_le _, by simp, k0, hI2, hb2⟩
        case round =>
          clear hI2 hb2 k0
          obtain ⟨m, rfl, hm, rfl, k0, hI, hb⟩ := hrel
          by_cases hml : m < A.length
          · have HT : Hid ((A.take (m + 1)).contains (x, nr D k) = ((A.take m).contains (x, nr D k) || (nl A m == x && nr A m == nr D k))) := contains_succ hml (x, nr D k)
            obtain ⟨b2, off2, rfl, hbs2, hc2⟩ := (hI.deps rfl (by unfold Room; omega)).at_ (by omega)
            have f0 := (hc2 m hml).1
            have f1 := (hc2 m hml).2
            have g0 := k0.cell 0 _ rfl
            have g1 := k0.cell 1 _ rfl
            clear hc2 HS HM
            generalize hB : (A.take m).contains (x, nr D k) = B at *
            cases B
            · cases e1 : (nl A m == x)
              · go_wp2_with fail
                (refine wp_region_after (by kernel_rfl) (by kernel_rfl) ?_; have q_f0 := fun (x : After _) => cell_keep f0 x.bel; have q_f1 := fun (x : After _) => cell_keep f1 x.bel; have q_g0 := fun (x : After _) => cell_keep g0 x.bel; have q_g1 := fun (x : After _) => cell_keep g1 x.bel; (repeat (go_big_quiet_step (fail))); clear q_f0; clear q_f1; clear q_g0; clear q_g1; refine wpQuiet_nil ?_; rintro _ ⟨⟨w1, hbn⟩, rfl⟩; (try simp only [After.w]); replace f0 := cell_keep f0 hbn; replace f1 := cell_keep f1 hbn; replace g0 := cell_keep g0 hbn; replace g1 := cell_keep g1 hbn; replace k0 := k0.keep hbn; replace hI := hI.keep hbn; replace hb := bel_to (w := w) (by first | exact hb | exact hb.alloc hb.size _ | exact (hb.alloc hb.size _).alloc (Nat.le_trans hb.size (by simp)) _ | exact hb.setCell (by simp [hb.size]) _) hbn; clear hbn)
                go_wp2
                go_roundw
                case rel => exact ⟨m + 1, by go_num, by omega, by rw [HT.out, e1]; rfl, k0, hI, hb⟩
                case measure => simp [intOf]; omega
              · cases e2 : (nr A m == nr D k)
                · go_wp2_with fail
                  (refine wp_region_after (by kernel_rfl) (by kernel_rfl) ?_; have q_f0 := fun (x : After _) => cell_keep f0 x.bel; have q_f1 := fun (x : After _) => cell_keep f1 x.bel; have q_g0 := fun (x : After _) => cell_keep g0 x.bel; have q_g1 := fun (x : After _) => cell_keep g1 x.bel; (repeat (go_big_quiet_step (fail))); clear q_f0; clear q_f1; clear q_g0; clear q_g1; refine wpQuiet_nil ?_; rintro _ ⟨⟨w1, hbn⟩, rfl⟩; (try simp only [After.w]); replace f0 := cell_keep f0 hbn; replace f1 := cell_keep f1 hbn; replace g0 := cell_keep g0 hbn; replace g1 := cell_keep g1 hbn; replace k0 := k0.keep hbn; replace hI := hI.keep hbn; replace hb := bel_to (w := w) (by first | exact hb | exact hb.alloc hb.size _ | exact (hb.alloc hb.size _).alloc (Nat.le_trans hb.size (by simp)) _ | exact hb.setCell (by simp [hb.size]) _) hbn; clear hbn)
                  go_wp2
                  go_roundw
                  case rel => exact ⟨m + 1, by go_num, by omega, by rw [HT.out, e1, e2]; rfl, k0, hI, hb⟩
                  case measure => simp [intOf]; omega
                · go_wp2_with fail
                  (refine wp_region_after (by kernel_rfl) (by kernel_rfl) ?_; have q_f0 := fun (x : After _) => cell_keep f0 x.bel; have q_f1 := fun (x : After _) => cell_keep f1 x.bel; have q_g0 := fun (x : After _) => cell_keep g0 x.bel; have q_g1 := fun (x : After _) => cell_keep g1 x.bel; (repeat (go_big_quiet_step (fail))); clear q_f0; clear q_f1; clear q_g0; clear q_g1; refine wpQuiet_nil ?_; rintro _ ⟨⟨w1, hbn⟩, rfl⟩; (try simp only [After.w]); replace f0 := cell_keep f0 hbn; replace f1 := cell_keep f1 hbn; replace g0 := cell_keep g0 hbn; replace g1 := cell_keep g1 hbn; replace k0 := k0.keep hbn; replace hI := hI.keep hbn; replace hb := bel_to (w := w) (by first | exact hb | exact hb.alloc hb.size _ | exact (hb.alloc hb.size _).alloc (Nat.le_trans hb.size (by simp)) _ | exact hb.setCell (by simp [hb.size]) _) hbn; clear hbn)
                  go_wp2
                  go_roundw
                  case rel => exact ⟨m + 1, by go_num, by omega, by rw [HT.out, e1, e2]; rfl, k0, hI, hb⟩
                  case measure => simp [intOf]; omega
            · go_wp2_with fail
              (refine wp_region_after (by kernel_rfl) (by kernel_rfl) ?_; have q_f0 := fun (x : After _) => cell_keep f0 x.bel; have q_f1 := fun (x : After _) => cell_keep f1 x.bel; have q_g0 := fun (x : After _) => cell_keep g0 x.bel; have q_g1 := fun (x : After _) => cell_keep g1 x.bel; (repeat (go_big_quiet_step (fail))); clear q_f0; clear q_f1; clear q_g0; clear q_g1; refine wpQuiet_nil ?_; rintro _ ⟨⟨w1, hbn⟩, rfl⟩; (try simp only [After.w]); replace f0 := cell_keep f0 hbn; replace f1 := cell_keep f1 hbn; replace g0 := cell_keep g0 hbn; replace g1 := cell_keep g1 hbn; replace k0 := k0.keep hbn; replace hI := hI.keep hbn; replace hb := bel_to (w := w) (by first | exact hb | exact hb.alloc hb.size _ | exact (hb.alloc hb.size _).alloc (Nat.le_trans hb.size (by simp)) _ | exact hb.setCell (by simp [hb.size]) _) hbn; clear hbn)
              go_wp2
              go_roundw
              case rel => exact ⟨m + 1, by go_num, by omega, by rw [HT.out]; rfl, k0, hI, hb⟩
              case measure => simp [intOf]; omega
          · have hmm : m = A.length := by omega
            subst hmm
            rw [List.take_length]
            have g0 := k0.cell 0 _ rfl
            have g1 := k0.cell 1 _ rfl
            cases hB : A.contains (x, nr D k)
            · have HV : Hid (dstF n D (k + 1) = A ++ [(x, nr D k)]) := by have := HS.out; rw [hB] at this; exact this
              clear HS HM hB k0
              go_wp2_with (first | (at_builtin; refine wpList_append_own _ rfl _ _ 30 rfl w.heap.size 46 i0 (.agg #[.int .i64 0, .int .i64 0]) 2 16 Tryz.underlying30 hi hz0 hz1 hz2 rfl (by decide) _ _ _ rfl (World.ownsRow.alloc hI _) _ 1 1 [.int .i64 (x), .int .i64 (nr D k)] rfl rfl (World.news_of_block (cs := #[.int .i64 (x), .int .i64 (nr D k)]) (t := 46) (fr := (0, 0)) (heap_alloc_new _ _)) (by intro u hu; simp at hu; rcases hu with rfl | rfl <;> rfl) (by unfold maxLen; omega) (by omega) (by have := hb.size; simp; omega) ?_; intro v' w1 hown hgrow _; replace hb := (hb.alloc hb.size _).grown hgrow (by have := hb.size; simp; omega) (fun g hg => (World.ownsRow.lt hI g hg).1); replace hI := OwnD.snoc hown; clear hown hgrow))
              go_roundw
              case rel => exact ⟨k + 1, by go_num, by omega, by rw [HV.out]; exact hI, hb⟩
              case measure => simp [intOf]; omega
            · have HV : Hid (dstF n D (k + 1) = A) := by have := HS.out; rw [hB] at this; exact this
              clear HS HM hB k0 g0 g1
              go_wp2_with fail
              go_roundw
              case rel => exact ⟨k + 1, by go_num, by omega, by rw [HV.out]; exact hI, hb⟩
              case measure => simp [intOf]; omega
      · have hkk : k = D.length := by omega
        subst hkk
        have hle2 := dstF_len n D D.length (Nat.le_refl _)
        clear HS hle
        generalize hL : dstF n D D.length = L at *
        clear hL
        obtain ⟨o1, c1, rfl⟩ := hI.shape
        go_wp2_with fail
        go_loopw [5, 10] (fun v i wr => ∃ (A : List (Int × Int)) (m : Nat), i = .int .i64 m ∧ m ≤ A.length ∧ A.length ≤ D.length ∧ pruneF n (A.length - m) A m = coverOfF n D ∧ OwnD wr w.heap.size v A ∧ Below w.heap.size w wr) (fun v i _ => slen v - (intOf i).toNat)
        case atStart => exact ⟨L, 0, rfl, Nat.zero_le _, hle2, HM.out.symm, hI, hb⟩
        case round =>
          clear hI hb hle2 HM
          obtain ⟨A, m, rfl, hm, hAl, hP, hI, hb⟩ := hrel
          have HP : Hid (pruneF n (A.length - m) A m = coverOfF n D) := hP
          clear hP
          obtain ⟨o2, c2, rfl, hcp, hnl⟩ := hI.cap
          by_cases hml : m < A.length
          · have hD2 := hI.deps rfl (by unfold Room; omega)
            obtain ⟨b2, off2, rfl, hbs2, hc2⟩ := hD2.at_ (by omega)
            have f0 := (hc2 m hml).1
            have f1 := (hc2 m hml).2
            have hle2 : (eraD A m).length ≤ Room := by rw [eraD_len hml]; unfold Room; omega
            have hel : Hid ((eraD A m).length = A.length - 1) := eraD_len hml
            clear hc2 hnl
            go_wp2_with fail
            refine (c_l11Without _ _ _ _ _ hD2 hcp hml).mono ?_
            rintro e w1 ⟨v1, rfl, hO, hbn⟩
            replace f0 := cell_keep f0 hbn
            replace f1 := cell_keep f1 hbn
            replace hO := hO.based hb.size
            replace hI := hI.keep hbn
            replace hb := bel_to hb hbn
            clear hD2 hbn
            obtain ⟨o3, c3, rfl⟩ := hO.shape
            cases himp : impliesDepF n (eraD A m) (nl A m) (nr A m)
            · have HQ : Hid (pruneF n (A.length - (m + 1)) A (m + 1) = coverOfF n D) := by rw [← pruneF_keep hml himp]; exact HP.out
              clear HP
              go_wp2_with fail
              refine Calls.mono (Ans.eqb (c_specImpliesDep _ _ _ _ _ _ _ (hO.deps rfl hle2)) himp) ?_
              rintro e w2 ⟨rfl, hbn⟩
              replace hI := hI.keep hbn
              replace hb := bel_to hb hbn
              clear hbn f0 f1 hO himp
              go_wp2
              go_roundw
              case rel => exact ⟨A, m + 1, by go_num, by omega, hAl, HQ.out, hI, hb⟩
              case measure => simp [slen, intOf]; omega
            · have HQ : Hid (pruneF n ((eraD A m).length - m) (eraD A m) m = coverOfF n D) := by rw [← pruneF_del hml himp]; exact HP.out
              clear HP
              go_wp2_with fail
              refine Calls.mono (Ans.eqb (c_specImpliesDep _ _ _ _ _ _ _ (hO.deps rfl hle2)) himp) ?_
              rintro e w2 ⟨rfl, hbn⟩
              replace hO := hO.keep hbn
              replace hb := bel_to hb hbn
              clear hbn f0 f1 hI himp
              go_wp2
              go_roundw
              case rel => exact ⟨eraD A m, m, by go_num, by have := hel.out; omega, by have := hel.out; omega, HQ.out, hO, hb⟩
              case measure => have := hel.out; simp [slen, intOf]; omega
          · have HQ : Hid (A = coverOfF n D) := by rw [← HP.out]; exact (pruneF_end (by omega) _).symm
            clear HP
            go_wp2
            go_ret
            exact ⟨_, rfl, by rw [← HQ.out]; exact hI, hb⟩
end Go.Proofs.YtjbmpnbfiahdhaaGreat
namespace Go.Proofs.YtjbmpnbfiahdhaaGreat
open Go.RowKit
set_option linter.unusedVariables false
set_option maxRecDepth 100000

theorem grown_more {w a b : World} {g : Nat} {row : Option Nat} (hG : w.grownBy a (some g)) (hg : a.grownBy b row) (hr : ∀ k, row = some k → w.heap.size ≤ k) : w.grownBy b (some g) :=
  ⟨hg.os.trans hG.os, hg.tape.trans hG.tape, hg.output.trans hG.output, Nat.le_trans hG.size hg.size, fun i hi hne => (hg.block i (Nat.lt_of_lt_of_le hi hG.size) (fun e => by have := hr i e.symm; omega)).trans (hG.block i hi hne)⟩
theorem owns_cur {w w' : World} {B size n g : Nat} {e : TypeId} {v : Value} {xs : List Value} (h : w.ownsRow B e size v n xs) (hg : w.grownBy w' (some g)) (hB : g < B) : w'.ownsRow B e size v n xs :=
  World.ownsRow.kept h hg (.inr fun e => by have := (World.ownsRow.lt h g e).1; omega)
theorem OwnD.cur {w w' : World} {B g : Nat} {v : Value} {D : List (Int × Int)} (h : OwnD w B v D) (hg : w.grownBy w' (some g)) (hB : g < B) : OwnD w' B v D := owns_cur h hg hB
/-- What the cursor has turned lies behind the base. -/
theorem below_cur {w a b : World} {g : Nat} (hb : Below w.heap.size w a) (hg : a.grownBy b (some g)) (hB : w.heap.size ≤ g) : Below w.heap.size w b := hb.grown hg hb.size (fun k e => by injection e with e; omega)
set_option maxHeartbeats 1600000 in
theorem c_l6Deps (g : Nat) (N : Nat) (h5 : N ≤ 5) (w : World) (hc : Cur w g) :
    Calls Tryz.prog 203 #[.pointer (some ⟨g, 0, none⟩), .int .i64 N] w fun e w' => ∃ o c D, e = .returned (.slice o (D.length : Nat) c) ∧ OwnD w' w.heap.size (.slice o D.length c) D ∧ D.length ≤ 4 ∧ Cur w' g ∧ w.grownBy w' (some g) := by
  obtain ⟨i0, hi0, hz0, hz1, hz2⟩ := info_parts info_dep
  have hlt := hc.lt
  have hI := OwnD.empty w w.heap.size (Nat.le_refl _)
  have hG := grown_of_below ((Below.refl w.heap.size w).alloc (Nat.le_refl _) (.cells #[] 46)) (some g)
  replace hc := cur_alloc hc (.cells #[] 46)
  go_enter Tryz.func203, Tryz.ntmps203
  go_wp2_with fail
  refine (c_l1Below g 5 (by omega) _ hc).mono ?_
  rintro e w1 ⟨q, rfl, hq0, hq1, _, hc1, hg⟩
  replace hI := hI.cur hg hlt
  replace hG := grown_trans hG hg
  obtain ⟨k0, rfl⟩ := Int.eq_ofNat_of_zero_le hq0
  have hk0 : k0 ≤ 4 := by have := hq1 (by omega); omega
  clear hc hg hq0 hq1
  go_wp2_with fail
  go_loopw [5, 6] (fun v i wr => ∃ (k : Nat) (D : List (Int × Int)), i = .int .i64 k ∧ D.length + k ≤ 4 ∧ OwnD wr w.heap.size v D ∧ Cur wr g ∧ w.grownBy wr (some g)) (fun _ i _ => (intOf i).toNat)
  case atStart => exact ⟨k0, [], rfl, by simpa using hk0, hI, hc1, hG⟩
  case round =>
    clear hI hc1 hG
    obtain ⟨k, D, rfl, hk, hI, hc, hG⟩ := hrel
    have hi := hi0
    have HDL : D.length ≤ 4 := by omega
    by_cases hlt0 : 0 < k
    · go_wp2_with fail
      refine (c_l6Dep g N h5 _ hc).mono ?_
      rintro e w2 ⟨l, r, rfl, hc2, hg⟩
      replace hI := hI.cur hg hlt
      replace hG := grown_trans hG hg
      clear hc hg
      have d0 := box_at w2 #[.int .i64 l, .int .i64 r] 46 0 _ rfl
      have d1 := box_at w2 #[.int .i64 l, .int .i64 r] 46 1 _ rfl
      have hba := (Below.refl w2.heap.size w2).alloc (Nat.le_refl _) (.cells #[.int .i64 l, .int .i64 r] 46)
      replace hI := hI.keep hba
      replace hG := grown_trans hG (grown_of_below hba _)
      replace hc2 := hc2.keep hba
      clear hba
      go_wp2_with (first | (at_builtin; refine wpList_append_own _ rfl _ _ 30 rfl w.heap.size 46 i0 (.agg #[.int .i64 0, .int .i64 0]) 2 16 Tryz.underlying30 hi hz0 hz1 hz2 rfl (by decide) _ _ _ rfl (World.ownsRow.alloc hI _) _ 1 1 [.int .i64 l, .int .i64 r] rfl rfl (World.news_of_block (cs := #[.int .i64 l, .int .i64 r]) (t := 46) (fr := (0, 0)) (heap_two _ _ _)) (by intro u hu; simp at hu; rcases hu with rfl | rfl <;> rfl) (by unfold maxLen; omega) (by omega) (by have := hG.size; simp at this ⊢; omega) ?_; intro v' w3 hown hgrow _; have hc3 := Cur.grown (cur_alloc hc2 _) hgrow (fun k e => by have := (World.ownsRow.lt hI k e).1; omega); have hG3 := grown_more (grown_trans hG (grown_of_below ((Below.refl _ _).alloc (Nat.le_refl _) _) _)) hgrow (fun k e => (World.ownsRow.lt hI k e).1); replace hI := OwnD.snoc hown; clear hown hgrow hG hc2) | fail)
      go_roundw
      case rel => exact ⟨k - 1, D ++ [(l, r)], by go_num, by simp; omega, hI, hc3, hG3⟩
      case measure => simp [intOf]; omega
    · have HK : Hid (k = 0) := by show k = 0; omega
      obtain ⟨o, c, rfl⟩ := hI.shape
      go_wp2
      go_ret
      exact ⟨o, c, D, rfl, hI, HDL, hc, hG⟩
end Go.Proofs.YtjbmpnbfiahdhaaGreat
namespace Go.Proofs.YtjbmpnbfiahdhaaGreat
open Go.RowKit
set_option linter.unusedVariables false
set_option maxRecDepth 100000

theorem c_eqIntSS (oa ob) (ca cb : Nat) (R : List (List Int)) (w : World) (hA : RowsAt w oa R) (hB : RowsAt w ob R) :
    Ans Tryz.prog 177 #[.slice oa R.length ca, .slice ob R.length cb] w (.bool true) := by
  unfold Ans
  have hn : R.length ≤ 1073741824 := hA.len
  have hne : ((R.length : Int) != R.length) = false := by simp
  go_enter Tryz.func177, Tryz.ntmps177
  go_wp2
  go_loopw [5] (fun i wr => ∃ k : Nat, i = .int .i64 k ∧ k ≤ R.length ∧ Below w.heap.size w wr) (fun i _ => R.length - (intOf i).toNat)
  case atStart => exact ⟨0, rfl, Nat.zero_le _, Below.refl _ _⟩
  case round =>
    obtain ⟨k, rfl, hk, hb⟩ := hrel
    by_cases hlt : k < R.length
    · obtain ⟨b1, off1, rfl, hbs1, hca⟩ := hA.at_ (by omega)
      obtain ⟨b2, off2, rfl, hbs2, hcb⟩ := hB.at_ (by omega)
      obtain ⟨o1, c1, h1, hr1⟩ := hca k hlt
      obtain ⟨o2, c2, h2, hr2⟩ := hcb k hlt
      have hc1 := cell_keep h1 hb
      have hc2 := cell_keep h2 hb
      have hx1 := fun (x : After wr) => (hr1.keep hb).keep x.bel
      have hx2 := fun (x : After wr) => (hr2.keep hb).keep x.bel
      clear hca hcb h1 h2 hr1 hr2
      go_wp2_with fail
      (refine wp_region_after (by kernel_rfl) (by kernel_rfl) ?_; have q_hc1 := fun (x : After _) => cell_keep hc1 x.bel; have q_hc2 := fun (x : After _) => cell_keep hc2 x.bel; (repeat (go_big_quiet_step ((first | (go_at_call 206; exact Ans.after (Ans.eqb (b' := true) (c_eqIntS _ _ _ _ _ _ _ (hx1 _) (hx2 _)) (by simp))))))); clear q_hc1; clear q_hc2; refine wpQuiet_nil ?_; rintro _ ⟨⟨w1, hbn⟩, rfl⟩; (try simp only [After.w]); replace hc1 := cell_keep hc1 hbn; replace hc2 := cell_keep hc2 hbn; replace hb := bel_to (w := w) (by first | exact hb | exact hb.alloc hb.size _ | exact (hb.alloc hb.size _).alloc (Nat.le_trans hb.size (by simp)) _ | exact hb.setCell (by simp [hb.size]) _) hbn; clear hbn)
      go_wp2
      go_roundw
      case rel => exact ⟨k + 1, by go_num, by omega, hb⟩
      case measure => simp [intOf]; omega
    · go_wp2
      go_ret
      exact ⟨rfl, hb⟩

def tabV (n : Int) (o : Option Addr) (l c : Nat) : Value := .agg #[.int .i64 n, .slice o l c]
theorem c_szTable (n : Int) (oa) (l cap : Nat) (Ln : Nat → Nat) (w : World) (h : RowsIn w oa l Ln) :
    Calls Tryz.prog 82 #[.agg #[.int .i64 n, .slice oa l cap], .int .i64 1048576] w fun e w' => (∃ x : Int, e = .returned (.int .i64 x) ∧ (x = -1 ∨ (0 ≤ x ∧ x ≤ 1048576 ∧ l ≤ 1048576 ∧ ∀ r, r < l → Ln r ≤ 1048576))) ∧ Below w.heap.size w w' := by
  have hb := (Below.refl w.heap.size w).alloc (Nat.le_refl _) (.cells #[.int .i64 n, .slice oa l cap] 24)
  have h2 : RowsIn (w.alloc (.cells #[.int .i64 n, .slice oa l cap] 24)) oa l Ln := ⟨h.len, fun h0 => by
    obtain ⟨b, off, e, hlt, hr⟩ := h.rows h0
    have hk := (Below.refl w.heap.size w).alloc (Nat.le_refl _) (.cells #[.int .i64 n, .slice oa l cap] 24)
    exact ⟨b, off, e, Nat.lt_of_lt_of_le hlt hk.size, fun r hrl => by
      obtain ⟨m, o, c, h1, h2⟩ := hr r hrl
      exact ⟨m, o, c, cell_keep h1 hk, fun hq => by
        obtain ⟨L, e1, e2⟩ := h2 hq
        exact ⟨L, e1, e2.keep hk⟩⟩⟩⟩
  go_enter Tryz.func82, Tryz.ntmps82
  go_wp2_with fail
  refine (c_szIntSS _ _ _ _ _ h2).mono ?_
  rintro e w1 ⟨⟨x, rfl, hx⟩, hbn⟩
  replace hb := bel_to hb hbn
  clear hbn
  rcases hx with rfl | ⟨h0, h1, h3, h4⟩
  · go_wp2
    go_ret
    exact ⟨⟨_, rfl, .inl rfl⟩, hb⟩
  · go_wp2
    go_ret
    exact ⟨⟨_, rfl, .inr ⟨h0, h1, h3, h4⟩⟩, hb⟩
theorem c_eqTable (n : Int) (oa ob) (ca cb : Nat) (R : List (List Int)) (w : World) (hA : RowsAt w oa R) (hB : RowsAt w ob R) :
    Ans Tryz.prog 90 #[.agg #[.int .i64 n, .slice oa R.length ca], .agg #[.int .i64 n, .slice ob R.length cb]] w (.bool true) := by
  unfold Ans
  have hne : (n != n) = false := by simp
  have hb := ((Below.refl w.heap.size w).alloc (Nat.le_refl _) (.cells #[.int .i64 n, .slice oa R.length ca] 29)).alloc (by simp) (.cells #[.int .i64 n, .slice ob R.length cb] 29)
  go_enter Tryz.func90, Tryz.ntmps90
  go_wp2_with (first | (go_at_call 177; refine Calls.mono (c_eqIntSS _ _ _ _ _ _ (hA.keep hb) (hB.keep hb)) ?_; rintro e w1 ⟨rfl, hbn⟩; replace hb := bel_to (w := w) (by first | exact hb | exact hb.alloc hb.size _ | exact (hb.alloc hb.size _).alloc (Nat.le_trans hb.size (by simp)) _ | exact hb.setCell (by simp [hb.size]) _) hbn; clear hbn))
  go_ret
  exact ⟨rfl, hb⟩
theorem c_toTable (n : Int) (oa) (ca : Nat) (R : List (List Int)) (w : World) (hR : RowsAt w oa R) :
    Calls Tryz.prog 86 #[.agg #[.int .i64 n, .slice oa R.length ca]] w fun e w' => ∃ o c, e = .returned (.agg #[.int .i64 n, .slice o R.length c]) ∧ RowsAt w' o R ∧ Below w.heap.size w w' := by
  have hb0 := ((((Below.refl w.heap.size w).alloc (Nat.le_refl _) (.cells #[.int .i64 n, .slice oa R.length ca] 24)).alloc (by simp) (.cells #[.int .i64 0, .slice none 0 0] 29)).alloc (by simp; omega) (.cells #[.int .i64 n, .slice none 0 0] 29))
  go_enter Tryz.func86, Tryz.ntmps86
  go_wp2_with fail
  refine (c_toIntSS _ _ _ _ (hR.keep hb0)).mono ?_
  rintro e w1 ⟨o, c, rfl, hN, hbn⟩
  have k1 : Blk w1 (w.heap.size + 1) #[.int .i64 0, .slice none 0 0] 29 := by
    have := (Blk.new (w.alloc (.cells #[.int .i64 n, .slice oa R.length ca] 24)) #[.int .i64 0, .slice none 0 0] 29).alloc (.cells #[.int .i64 n, .slice none 0 0] 29)
    simp only [World.size_alloc] at this
    exact this.keep hbn
  have k2 : Blk w1 (w.heap.size + 1 + 1) #[.int .i64 n, .slice none 0 0] 29 := by
    have := Blk.new ((w.alloc (.cells #[.int .i64 n, .slice oa R.length ca] 24)).alloc (.cells #[.int .i64 0, .slice none 0 0] 29)) #[.int .i64 n, .slice none 0 0] 29
    simp only [World.size_alloc] at this
    exact this.keep hbn
  have a10 := k1.cell 0 _ rfl
  have a11 := k1.cell 1 _ rfl
  have f10 := k1.free 0
  have f11 := k1.free 1
  have a20 := k2.cell 0 _ rfl
  have a21 := k2.cell 1 _ rfl
  have f20 := k2.free 0
  have f21 := k2.free 1
  replace hb0 := bel_to hb0 hbn
  clear hbn k1 k2
  go_wp2
  exact bodyPost_ret (v := .agg #[.int .i64 n, .slice o R.length c]) (by simp [results, Tryz.results86, go_sem, a10, a11]) rfl
    ⟨o, c, rfl, (((hN.far 1 _ (by simp)).far 0 _ (by simp)).far 1 _ (by simp)).rows, Below.setCell (Below.setCell (Below.setCell hb0 (by simp; omega) _) (by simp) _) (by simp) _⟩
end Go.Proofs.YtjbmpnbfiahdhaaGreat
namespace Go.Proofs.YtjbmpnbfiahdhaaGreat
open Go.RowKit
set_option linter.unusedVariables false
set_option maxRecDepth 100000

structure OwnRows (w : World) (B : Nat) (v : Value) (xs : List Value) (R : List (List Int)) : Prop where
  len : xs.length = R.length
  outer : OwnV w B v xs
  rows : ∀ j, j < R.length → ∃ o c, xs[j]? = some (.slice o (row R j).length c) ∧ OwnI w B (.slice o (row R j).length c) (row R j) ∧ Apart v (.slice o (row R j).length c)
  pair : ∀ i j, i < j → j < R.length → ∀ u u', xs[i]? = some u → xs[j]? = some u' → Apart u u'
theorem OwnRows.keep {w w' : World} {B : Nat} {v : Value} {xs : List Value} {R : List (List Int)} (h : OwnRows w B v xs R) (hb : Below w.heap.size w w') : OwnRows w' B v xs R :=
  ⟨h.len, h.outer.keep hb, fun j hj => by
    obtain ⟨o, c, h1, h2, h3⟩ := h.rows j hj
    exact ⟨o, c, h1, h2.keep hb, h3⟩, h.pair⟩
theorem OwnRows.based {w : World} {B B' : Nat} {v : Value} {xs : List Value} {R : List (List Int)} (h : OwnRows w B v xs R) (hb : B' ≤ B) : OwnRows w B' v xs R :=
  ⟨h.len, owns_base h.outer hb, fun j hj => by
    obtain ⟨o, c, h1, h2, h3⟩ := h.rows j hj
    exact ⟨o, c, h1, h2.based hb, h3⟩, h.pair⟩
theorem OwnRows.shape {w : World} {B : Nat} {v : Value} {xs : List Value} {R : List (List Int)} (h : OwnRows w B v xs R) : ∃ oa c, v = .slice oa R.length c := by
  obtain ⟨oa, c, e, _⟩ := owns_cells h.outer
  exact ⟨oa, c, by rw [e, h.len]⟩
theorem OwnRows.at_ {w : World} {B : Nat} {oa : Option Addr} {n c : Nat} {xs : List Value} {R : List (List Int)} (h : OwnRows w B (.slice oa n c) xs R) (h0 : 0 < R.length) :
    ∃ g, oa = some ⟨g, 0, none⟩ ∧ B ≤ g ∧ g < w.heap.size ∧ ∀ j, j < R.length → w.cell? ⟨g, j, none⟩ = xs[j]? := by
  obtain ⟨oa', c', e, hg⟩ := owns_cells h.outer
  simp only [Value.slice.injEq] at e
  obtain ⟨rfl, _, rfl⟩ := e
  obtain ⟨g, h1, h2, h3, _, h4, _⟩ := hg (by rw [h.len]; exact h0)
  exact ⟨g, h1, h2, h3, fun j hj => h4 j (by rw [h.len]; omega)⟩
theorem OwnRows.read {w : World} {B : Nat} {oa : Option Addr} {n c : Nat} {xs : List Value} {R : List (List Int)} (h : OwnRows w B (.slice oa n c) xs R) (hR : R.length ≤ Room) (hr : ∀ j, j < R.length → (row R j).length ≤ Room) : RowsAt w oa R :=
  ⟨hR, fun h0 => by
    obtain ⟨g, e, _, hlt, hc⟩ := h.at_ h0
    refine ⟨g, 0, e, hlt, fun j hj => ?_⟩
    obtain ⟨o, c', h1, h2, _⟩ := h.rows j hj
    exact ⟨o, c', by rw [Nat.zero_add, hc j hj]; exact h1, h2.ints rfl (hr j hj)⟩⟩

/-- Nothing has turned but in the blocks of these slices. -/
structure GrownMany (w w' : World) (vs : List Value) : Prop where
  os : w'.os = w.os
  tape : w'.tape = w.tape
  output : w'.output = w.output
  size : w.heap.size ≤ w'.heap.size
  block : ∀ k, k < w.heap.size → (∀ y ∈ vs, y.ownBlock ≠ some k) → w'.heap[k]? = w.heap[k]?
theorem GrownMany.refl (w : World) (vs : List Value) : GrownMany w w vs := ⟨rfl, rfl, rfl, Nat.le_refl _, fun _ _ _ => rfl⟩
theorem GrownMany.trans {a b c : World} {vs : List Value} (h : GrownMany a b vs) (k : GrownMany b c vs) : GrownMany a c vs :=
  ⟨k.os.trans h.os, k.tape.trans h.tape, k.output.trans h.output, Nat.le_trans h.size k.size, fun j hj hy => (k.block j (Nat.lt_of_lt_of_le hj h.size) hy).trans (h.block j hj hy)⟩
theorem GrownMany.one {a b : World} {vs : List Value} {u : Value} (h : a.grownBy b u.ownBlock) (hu : u ∈ vs) : GrownMany a b vs :=
  ⟨h.os, h.tape, h.output, h.size, fun j hj hy => h.block j hj fun e => hy u hu e.symm⟩
theorem GrownMany.of {a b : World} {vs : List Value} (h : Below a.heap.size a b) : GrownMany a b vs := ⟨h.os, h.tape, h.output, h.size, fun j hj _ => h.block j hj⟩
theorem owns_many {w w' : World} {base : Nat} {e : TypeId} {size : Nat} {v : Value} {n : Nat} {xs vs : List Value} (h : w.ownsRow base e size v n xs) (hg : GrownMany w w' vs) (ha : ∀ y ∈ vs, Apart v y) : w'.ownsRow base e size v n xs := by
  refine ⟨h.1, ?_⟩
  rcases h.2 with hn | ⟨g, cap, cur, rfl, hb, hgg, rest⟩
  · exact .inl hn
  · refine .inr ⟨g, cap, cur, rfl, hb, ?_, rest⟩
    rw [hg.block g (Array.getElem?_eq_some_iff.1 hgg).1 (fun y hy e => by
      rcases ha y hy with h' | h'
      · simp [Value.ownBlock] at h'
      · exact h' (by rw [e]; rfl))]
    exact hgg
theorem OwnI.many {w w' : World} {base : Nat} {v : Value} {L : List Int} {vs : List Value} (h : OwnI w base v L) (hg : GrownMany w w' vs) (ha : ∀ y ∈ vs, Apart v y) : OwnI w' base v L := owns_many h hg ha
theorem OwnD.many {w w' : World} {base : Nat} {v : Value} {L : List (Int × Int)} {vs : List Value} (h : OwnD w base v L) (hg : GrownMany w w' vs) (ha : ∀ y ∈ vs, Apart v y) : OwnD w' base v L := owns_many h hg ha
theorem below_many {B : Nat} {w a b : World} {vs : List Value} (h : Below B w a) (hB0 : B ≤ w.heap.size) (hg : GrownMany a b vs) (hB : ∀ y ∈ vs, ∀ g, y.ownBlock = some g → B ≤ g) : Below B w b :=
  h.trans ⟨hg.os, hg.tape, hg.output, hg.size, fun k hk => hg.block k (by have := h.size; omega) fun y hy e => by have := hB y hy k e; omega⟩
theorem OwnRows.low {w : World} {B : Nat} {v : Value} {xs : List Value} {R : List (List Int)} (h : OwnRows w B v xs R) : ∀ y ∈ xs, ∀ g, y.ownBlock = some g → B ≤ g := by
  intro y hy g hg
  obtain ⟨j, hj⟩ := List.mem_iff_getElem?.1 hy
  have hjl : j < R.length := by rw [← h.len]; exact (List.getElem?_eq_some_iff.1 hj).1
  obtain ⟨o, c, h1, h2, _⟩ := h.rows j hjl
  rw [h1] at hj
  injection hj with hj
  subst hj
  exact (World.ownsRow.lt h2 g hg).1
/-- What the call made before, and what it makes behind, lies apart from all of it. -/
theorem OwnRows.before {w w' : World} {base size n : Nat} {e : TypeId} {u v : Value} {ys xs : List Value} {R : List (List Int)} (h : w.ownsRow base e size u n ys) (h' : OwnRows w' w.heap.size v xs R) : ∀ y ∈ xs, Apart u y := by
  intro y hy
  obtain ⟨j, hj⟩ := List.mem_iff_getElem?.1 hy
  have hjl : j < R.length := by rw [← h'.len]; exact (List.getElem?_eq_some_iff.1 hj).1
  obtain ⟨o, c, h1, h2, _⟩ := h'.rows j hjl
  rw [h1] at hj
  injection hj with hj
  subst hj
  exact apart_old h h2
theorem OwnRows.behind {w w' : World} {size n : Nat} {e : TypeId} {u v : Value} {ys xs : List Value} {R : List (List Int)} {B : Nat} (h : OwnRows w B v xs R) (h' : w'.ownsRow w.heap.size e size u n ys) : ∀ y ∈ xs, Apart u y := by
  intro y hy
  obtain ⟨j, hj⟩ := List.mem_iff_getElem?.1 hy
  have hjl : j < R.length := by rw [← h.len]; exact (List.getElem?_eq_some_iff.1 hj).1
  obtain ⟨o, c, h1, h2, _⟩ := h.rows j hjl
  rw [h1] at hj
  injection hj with hj
  subst hj
  exact (apart_old h2 h').symm

def sumL (R : List (List Int)) (i : Nat) : Nat := ((R.take i).map List.length).sum
theorem sumL_succ {R : List (List Int)} {i : Nat} (h : i < R.length) : sumL R (i + 1) = sumL R i + (row R i).length := by
  unfold sumL
  rw [List.take_add_one, row_eq h]
  simp
theorem sumL_mono {R : List (List Int)} : ∀ {i j : Nat}, i ≤ j → j ≤ R.length → sumL R i ≤ sumL R j := by
  intro i j hij
  induction j with
  | zero => intro _; have : i = 0 := by omega
            subst this; exact Nat.le_refl _
  | succ j ih =>
    intro hj
    rcases Nat.lt_or_ge i (j + 1) with h | h
    · rw [sumL_succ (by omega)]; have := ih (by omega) (by omega); omega
    · have : i = j + 1 := by omega
      subst this; exact Nat.le_refl _
def seqR (k : Int) (R : List (List Int)) : List (List Int) := (List.range R.length).map fun j => seqI (k + sumL R j) (row R j).length
theorem seqR_length (k : Int) (R : List (List Int)) : (seqR k R).length = R.length := by simp [seqR]
theorem seqR_row {k : Int} {R : List (List Int)} {j : Nat} (h : j < R.length) : row (seqR k R) j = seqI (k + sumL R j) (row R j).length := by simp [row, seqR, List.getD, h]
theorem rows_ext {R S : List (List Int)} (hl : R.length = S.length) (h : ∀ j, j < R.length → row R j = row S j) : R = S := by
  apply List.ext_getElem hl
  intro j h1 h2
  have := h j h1
  simp [row, List.getD, h1, h2] at this
  exact this

set_option maxHeartbeats 800000 in
theorem c_markIntSS (oa) (c B : Nat) (xs : List Value) (R : List (List Int)) (k0 : Int) (w : World) (h : OwnRows w B (.slice oa R.length c) xs R) (hR : R.length ≤ Room) (hk0 : 0 ≤ k0 ∧ k0 + sumL R R.length ≤ 1073741824) :
    Calls Tryz.prog 179 #[.slice oa R.length c, .int .i64 k0] w fun e w' => e = .returned (.int .i64 (k0 + sumL R R.length)) ∧ OwnRows w' B (.slice oa R.length c) xs (seqR k0 R) ∧ GrownMany w w' xs := by
  unfold Room at hR
  obtain ⟨h01, h02⟩ := hk0
  have HX : Hid (k0 + sumL R R.length ≤ 1073741824) := h02
  clear h02
  go_enter Tryz.func179, Tryz.ntmps179
  go_wp2
  go_loopw [1, 5] (fun k i wr => ∃ (j : Nat) (M : List (List Int)), k = .int .i64 (k0 + sumL R j) ∧ i = .int .i64 j ∧ j ≤ R.length ∧ M.length = R.length ∧ (∀ t, t < R.length → (row M t).length = (row R t).length) ∧ (∀ t, t < j → row M t = seqI (k0 + sumL R t) (row R t).length) ∧
    OwnRows wr B (.slice oa R.length c) xs M ∧ GrownMany w wr xs) (fun _ i _ => R.length - (intOf i).toNat)
  case atStart => exact ⟨0, R, by simp [sumL], rfl, Nat.zero_le _, rfl, fun _ _ => rfl, fun t ht => absurd ht (by omega), h, GrownMany.refl _ _⟩
  case round =>
    clear h
    obtain ⟨j, M, rfl, rfl, hj, hM, hlen, hall, hO, hg⟩ := hrel
    have HM : Hid (M.length = R.length) := hM
    have HL : Hid (∀ t, t < R.length → (row M t).length = (row R t).length) := hlen
    have HA : Hid (∀ t, t < j → row M t = seqI (k0 + sumL R t) (row R t).length) := hall
    clear hM hlen hall
    by_cases hlt : j < R.length
    · obtain ⟨g, rfl, hBg, hgl, hcell⟩ := hO.at_ (by have := HM.out; omega)
      obtain ⟨o, c', h1, h2, h3⟩ := hO.rows j (by have := HM.out; omega)
      have hc1 := (hcell j (by have := HM.out; omega)).trans h1
      have hmono := sumL_mono (R := R) (i := j + 1) (j := R.length) (by omega) (Nat.le_refl _)
      have hsucc := sumL_succ hlt
      have hrl : (row M j).length ≤ 1073741824 := by have := HL.out j hlt; have := HX.out; omega
      have hk : 0 ≤ k0 + (sumL R j : Int) ∧ k0 + (sumL R j : Int) ≤ 1073741824 := by have := HX.out; omega
      have HS : Hid (sumL R (j + 1) = sumL R j + (row R j).length) := hsucc
      clear hcell hmono hsucc
      go_wp2_with fail
      refine (c_markIntS _ _ B _ _ hk _ hrl h2).mono ?_
      rintro e w1 ⟨rfl, hI, hg1⟩
      have HO2 : Hid (OwnRows w1 B (.slice (some ⟨g, 0, none⟩) R.length c) xs (M.set j (seqI (k0 + sumL R j) (row M j).length))) := by
        refine ⟨by rw [List.length_set]; exact hO.len, World.ownsRow.kept hO.outer hg1 h3, fun t ht => ?_, fun i t hi ht => hO.pair i t hi (by rw [List.length_set] at ht; exact ht)⟩
        rw [List.length_set] at ht
        by_cases e : t = j
        · subst e
          have er : row (M.set t (seqI (k0 + sumL R t) (row M t).length)) t = seqI (k0 + sumL R t) (row M t).length := by simp [row, List.getD, List.getElem?_set_self ht]
          rw [er, seqI_length]
          exact ⟨o, c', h1, hI, h3⟩
        · have er : row (M.set j (seqI (k0 + sumL R j) (row M j).length)) t = row M t := by simp [row, List.getD, List.getElem?_set_ne (Ne.symm e)]
          rw [er]
          obtain ⟨o2, c2, q1, q2, q3⟩ := hO.rows t ht
          refine ⟨o2, c2, q1, q2.far hg1 ?_, q3⟩
          rcases Nat.lt_or_ge t j with h' | h'
          · exact hO.pair t j h' (by have := HM.out; omega) _ _ q1 h1
          · exact (hO.pair j t (by omega) ht _ _ h1 q1).symm
      have HG : Hid (GrownMany w w1 xs) := hg.trans (GrownMany.one hg1 (List.mem_iff_getElem?.2 ⟨j, h1⟩))
      clear hO hg hI hg1 h1 h2 h3
      go_wp2
      go_roundw
      case rel =>
        refine ⟨j + 1, _, ?_, by go_num, by omega, by rw [List.length_set]; exact HM.out, fun t ht => ?_, ?_, HO2.out, HG.out⟩
        · rw [HS.out]; have := HL.out j hlt; simp; omega
        · by_cases e : t = j
          · subst e
            have er : row (M.set t (seqI (k0 + sumL R t) (row M t).length)) t = seqI (k0 + sumL R t) (row M t).length := by simp [row, List.getD, List.getElem?_set_self (show t < M.length by have := HM.out; omega)]
            rw [er, seqI_length]; exact HL.out t ht
          · have er : row (M.set j (seqI (k0 + sumL R j) (row M j).length)) t = row M t := by simp [row, List.getD, List.getElem?_set_ne (Ne.symm e)]
            rw [er]; exact HL.out t ht
        · refine lt_step (fun t ht => ?_) ?_
          · have er : row (M.set j (seqI (k0 + sumL R j) (row M j).length)) t = row M t := by simp [row, List.getD, List.getElem?_set_ne (show j ≠ t by omega)]
            rw [er]; exact HA.out t ht
          · have er : row (M.set j (seqI (k0 + sumL R j) (row M j).length)) j = seqI (k0 + sumL R j) (row M j).length := by simp [row, List.getD, List.getElem?_set_self (show j < M.length by have := HM.out; omega)]
            rw [er, HL.out j hlt]
      case measure => simp [intOf]; omega
    · have hjj : j = R.length := by omega
      have HJ : Hid (j = R.length) := hjj
      have HV : Hid (M = seqR k0 R) := rows_ext (by rw [seqR_length]; exact HM.out) fun t ht => by
        have h1 := HM.out
        rw [seqR_row (by omega)]
        exact HA.out t (by omega)
      clear hjj
      go_wp2
      go_ret
      exact ⟨ret_int (by rw [HJ.out]), by rw [← HV.out]; exact hO, hg⟩
theorem c_heldIntSS (oa) (c : Nat) (R : List (List Int)) (k0 : Int) (w : World) (hR : RowsAt w oa (seqR k0 R)) (hk0 : 0 ≤ k0 ∧ k0 + sumL R R.length ≤ 1073741824) :
    Ans Tryz.prog 180 #[.slice oa R.length c, .int .i64 k0] w (.int .i64 (k0 + sumL R R.length)) := by
  unfold Ans
  have hn : R.length ≤ 1073741824 := by have := hR.len; rw [seqR_length] at this; exact this
  obtain ⟨h01, h02⟩ := hk0
  have HX : Hid (k0 + sumL R R.length ≤ 1073741824) := h02
  clear h02
  go_enter Tryz.func180, Tryz.ntmps180
  go_wp2
  go_loopw [1, 5] (fun k i wr => ∃ j : Nat, k = .int .i64 (k0 + sumL R j) ∧ i = .int .i64 j ∧ j ≤ R.length ∧ Below w.heap.size w wr) (fun _ i _ => R.length - (intOf i).toNat)
  case atStart => exact ⟨0, by simp [sumL], rfl, Nat.zero_le _, Below.refl _ _⟩
  case round =>
    obtain ⟨j, rfl, rfl, hj, hb⟩ := hrel
    by_cases hlt : j < R.length
    · obtain ⟨b, off, rfl, hbs, hca⟩ := hR.at_ (by rw [seqR_length]; omega)
      obtain ⟨o, c', h1, h2⟩ := hca j (by rw [seqR_length]; omega)
      rw [seqR_row hlt, seqI_length] at h1
      rw [seqR_row hlt] at h2
      have hc1 := cell_keep h1 hb
      have hmono := sumL_mono (R := R) (i := j + 1) (j := R.length) (by omega) (Nat.le_refl _)
      have HS : Hid (sumL R (j + 1) = sumL R j + (row R j).length) := sumL_succ hlt
      have hk : 0 ≤ k0 + (sumL R j : Int) ∧ k0 + (sumL R j : Int) ≤ 1073741824 := by have := HX.out; have := HS.out; omega
      clear hca h1 hmono
      go_wp2_with fail
      refine Calls.mono (c_heldIntS _ _ _ _ hk _ (h2.keep hb)) ?_
      rintro e w1 ⟨rfl, hbn⟩
      replace hb := bel_to hb hbn
      clear hbn hc1 h2
      go_wp2
      go_roundw
      case rel => exact ⟨j + 1, by rw [HS.out]; simp; omega, by go_num, by omega, hb⟩
      case measure => simp [intOf]; omega
    · have hjj : j = R.length := by omega
      have HJ : Hid (j = R.length) := hjj
      clear hjj
      go_wp2
      go_ret
      exact ⟨ret_int (by rw [HJ.out]), hb⟩
end Go.Proofs.YtjbmpnbfiahdhaaGreat
namespace Go.Proofs.YtjbmpnbfiahdhaaGreat
open Go.RowKit
set_option linter.unusedVariables false
set_option maxRecDepth 100000

set_option maxHeartbeats 800000 in
theorem c_toIntSSo (oa) (ca : Nat) (R : List (List Int)) (w : World) (hR : RowsAt w oa R) :
    Calls Tryz.prog 174 #[.slice oa R.length ca] w fun e w' => ∃ o c xs, e = .returned (.slice o R.length c) ∧ OwnRows w' w.heap.size (.slice o R.length c) xs R ∧ Below w.heap.size w w' := by
  have hn : R.length ≤ 1073741824 := hR.len
  obtain ⟨i0, hi, hz0, hz1, hz2⟩ := info_parts info_ints
  go_enter Tryz.func174, Tryz.ntmps174
  go_wp2_with (first | (at_make; refine wpList_make_full _ rfl _ _ 22 rfl w.heap.size 58 i0 (.slice none 0 0) 1 Tryz.underlying22 hi hz0 hz1 .i64 .i64 _ _ R.length rfl rfl rfl rfl (by rw [hz2]; omega) (by unfold maxLen; omega) (Nat.le_refl _) ?_; intro w1 hown hgrow))
  have hI := ownV_made hown
  have hb1 : Below w.heap.size w w1 := below_grown hgrow (Nat.le_refl _) (by simp)
  clear hown hgrow hi hz0 hz1 hz2 i0
  go_loopw [4] (fun i wr => ∃ (k : Nat) (xs : List Value), i = .int .i64 k ∧ k ≤ R.length ∧ xs.length = R.length ∧ (∀ j, j < k → ∃ o c, xs[j]? = some (.slice o (row R j).length c) ∧ OwnI wr (w.heap.size + 1) (.slice o (row R j).length c) (row R j)) ∧ (∀ i j, i < j → j < k → ∀ u u', xs[i]? = some u → xs[j]? = some u' → Apart u u') ∧
      OwnV wr w.heap.size (.slice (some ⟨w.heap.size, 0, none⟩) R.length R.length) xs ∧ Below w.heap.size w wr) (fun i _ => R.length - (intOf i).toNat)
  case atStart => exact ⟨0, _, rfl, Nat.zero_le _, by simp, fun j hj => absurd hj (by omega), fun i j _ hj => absurd hj (by omega), hI, hb1⟩
  case round =>
    clear hI hb1
    obtain ⟨k, xs, rfl, hk, hM, hall, hpair, hI, hb⟩ := hrel
    have HM : Hid (xs.length = R.length) := hM
    have HA : Hid (∀ j, j < k → ∃ o c, xs[j]? = some (.slice o (row R j).length c) ∧ OwnI wr (w.heap.size + 1) (.slice o (row R j).length c) (row R j)) := hall
    have HP : Hid (∀ i j, i < j → j < k → ∀ u u', xs[i]? = some u → xs[j]? = some u' → Apart u u') := hpair
    clear hall hM hpair
    by_cases hlt : k < R.length
    · obtain ⟨b, off, rfl, hbs, hc⟩ := hR.at_ (by omega)
      obtain ⟨o, c, hc0, hrow⟩ := hc k hlt
      have hc1 := cell_keep hc0 hb
      have hgl := (World.ownsRow.lt hI w.heap.size rfl).2
      clear hc hc0
      go_wp2_with fail
      refine (c_toIntS _ _ _ _ (hrow.keep hb)).mono ?_
      rintro en w1 ⟨v1, rfl, h1, hbn⟩
      obtain ⟨o1, c1, rfl⟩ := h1.shape
      have hwr : OwnI wr w.heap.size (.slice o1 (row R k).length c1) (row R k) → True := fun _ => trivial
      have HP2 : Hid (∀ i, i < k → ∀ u, xs[i]? = some u → Apart u (.slice o1 (row R k).length c1)) := fun i hi u hu => by
        obtain ⟨o', c', q1, q2⟩ := HA.out i hi
        rw [q1] at hu
        injection hu with hu
        subst hu
        exact apart_old q2 h1
      replace hI := hI.keep hbn
      replace hb := bel_to hb hbn
      obtain ⟨hg1, hg2⟩ := hI.cell HM.out.symm k hlt
      rw [List.getElem?_eq_getElem (by have := HM.out; omega)] at hg1
      have hapart : ∀ {v : Value} {L : List Int}, OwnI w1 (w.heap.size + 1) v L → OwnI (w1.setCell ⟨w.heap.size, k, none⟩ (.slice o1 (row R k).length c1)) (w.heap.size + 1) v L := fun {v L} hv =>
        World.ownsRow.kept hv (grown_set w1 w.heap.size k _) (by
          cases e : v.ownBlock with
          | none => exact .inl rfl
          | some b => exact .inr (fun e' => by injection e' with e'; have := (World.ownsRow.lt hv b e).1; omega))
      have HI2 := (show Hid _ from hI.store HM.out.symm k (.slice o1 (row R k).length c1) rfl)
      have HB2 := (show Hid _ from Below.setCell (p := (⟨w.heap.size, k, none⟩ : Addr)) hb (Nat.le_refl _) (.slice o1 (row R k).length c1))
      have HR2 : Hid (OwnI (w1.setCell ⟨w.heap.size, k, none⟩ (.slice o1 (row R k).length c1)) (w.heap.size + 1) (.slice o1 (row R k).length c1) (row R k)) := hapart (h1.based (by omega))
      have HA2 : Hid (∀ j, j < k → ∃ o c, xs[j]? = some (.slice o (row R j).length c) ∧ OwnI (w1.setCell ⟨w.heap.size, k, none⟩ (.slice o1 (row R k).length c1)) (w.heap.size + 1) (.slice o (row R j).length c) (row R j)) := fun j hj => by
        obtain ⟨o', c', h1', h2'⟩ := HA.out j hj
        exact ⟨o', c', h1', hapart (h2'.keep hbn)⟩
      clear h1 hbn HA hI hb hapart hwr
      generalize hxk : xs[k]'(by have := HM.out; omega) = xk at hg1
      go_wp2
      go_roundw
      case rel =>
        refine ⟨k + 1, xs.set k (.slice o1 (row R k).length c1), by go_num, by omega, by rw [List.length_set]; exact HM.out, ?_, ?_, HI2.out, HB2.out⟩
        · refine lt_step (fun j hj => ?_) ⟨o1, c1, ?_, HR2.out⟩
          · obtain ⟨o', c', h1', h2'⟩ := HA2.out j hj
            exact ⟨o', c', by rw [List.getElem?_set_ne (by omega)]; exact h1', h2'⟩
          · rw [List.getElem?_set_self (by have := HM.out; omega)]
        · intro i j hij hj u u' hu hu'
          rw [List.getElem?_set_ne (by omega)] at hu
          by_cases e : j = k
          · subst e
            rw [List.getElem?_set_self (by have := HM.out; omega)] at hu'
            injection hu' with hu'
            subst hu'
            exact HP2.out i hij u hu
          · rw [List.getElem?_set_ne (by omega)] at hu'
            exact HP.out i j hij (by omega) u u' hu hu'
      case measure => simp [intOf]; omega
    · have hkk : k = R.length := by omega
      have HK : Hid (k = R.length) := hkk
      clear hkk
      go_wp2
      go_ret
      refine ⟨_, _, xs, rfl, ⟨HM.out, hI, fun j hj => ?_, fun i j hij hj => HP.out i j hij (by have := HK.out; omega)⟩, hb⟩
      obtain ⟨o', c', h1', h2'⟩ := HA.out j (by have := HK.out; omega)
      refine ⟨o', c', h1', h2'.based (by omega), ?_⟩
      cases e : (Value.slice o' (row R j).length c').ownBlock with
      | none => exact Apart.symm (.inl e)
      | some b =>
        have h3 := (World.ownsRow.lt h2' b e).1
        exact .inr (fun e' => by
          rw [e] at e'
          simp [Value.ownBlock] at e'
          omega)

theorem OwnRows.cap {w : World} {B : Nat} {oa : Option Addr} {c : Nat} {xs : List Value} {R : List (List Int)} (h : OwnRows w B (.slice oa R.length c) xs R) : R.length ≤ c := by
  obtain ⟨oa', c', e, hg⟩ := owns_cells h.outer
  simp only [Value.slice.injEq] at e
  obtain ⟨rfl, _, rfl⟩ := e
  rcases Nat.eq_zero_or_pos R.length with h0 | h0
  · omega
  · obtain ⟨_, _, _, _, h4, _⟩ := hg (by rw [h.len]; exact h0)
    rw [h.len] at h4; exact h4
theorem cell_many {w w' : World} {B j base : Nat} {u : Value} {vs : List Value} (h : w.cell? ⟨B, j, none⟩ = some u) (hg : GrownMany w w' vs) (low : ∀ y ∈ vs, ∀ g, y.ownBlock = some g → base ≤ g) (hB : B < base) : w'.cell? ⟨B, j, none⟩ = some u :=
  (World.cell?_of_block (hg.block B (World.block_lt_of_cell? w ⟨B, j, none⟩ h) (fun y hy e => by have := low y hy B e; omega))).trans h
theorem OwnRows.far_set {w : World} {B g : Nat} {v : Value} {xs : List Value} {R : List (List Int)} (h : OwnRows w B v xs R) (j : Nat) (u : Value) (hg : g < B) : OwnRows (w.setCell ⟨g, j, none⟩ u) B v xs R := by
  have hk : ∀ {e : TypeId} {size n : Nat} {y : Value} {zs : List Value}, w.ownsRow B e size y n zs → (w.setCell ⟨g, j, none⟩ u).ownsRow B e size y n zs := fun {e size n y zs} hy =>
    World.ownsRow.kept hy (grown_set w g j _) (by
      cases e : y.ownBlock with
      | none => exact .inl rfl
      | some b => exact .inr (fun e' => by injection e' with e'; have := (World.ownsRow.lt hy b e).1; omega))
  exact ⟨h.len, hk h.outer, fun t ht => by
    obtain ⟨o, c, h1, h2, h3⟩ := h.rows t ht
    exact ⟨o, c, h1, hk h2, h3⟩, h.pair⟩
theorem c_toTableO (n : Int) (oa) (ca : Nat) (R : List (List Int)) (w : World) (hR : RowsAt w oa R) :
    Calls Tryz.prog 86 #[.agg #[.int .i64 n, .slice oa R.length ca]] w fun e w' => ∃ o c xs, e = .returned (.agg #[.int .i64 n, .slice o R.length c]) ∧ OwnRows w' w.heap.size (.slice o R.length c) xs R ∧ Below w.heap.size w w' := by
  have hb0 := ((((Below.refl w.heap.size w).alloc (Nat.le_refl _) (.cells #[.int .i64 n, .slice oa R.length ca] 24)).alloc (by simp) (.cells #[.int .i64 0, .slice none 0 0] 29)).alloc (by simp; omega) (.cells #[.int .i64 n, .slice none 0 0] 29))
  go_enter Tryz.func86, Tryz.ntmps86
  go_wp2_with fail
  refine (c_toIntSSo _ _ _ _ (hR.keep hb0)).mono ?_
  rintro e w1 ⟨o, c, xs, rfl, hN, hbn⟩
  have k1 : Blk w1 (w.heap.size + 1) #[.int .i64 0, .slice none 0 0] 29 := by
    have := (Blk.new (w.alloc (.cells #[.int .i64 n, .slice oa R.length ca] 24)) #[.int .i64 0, .slice none 0 0] 29).alloc (.cells #[.int .i64 n, .slice none 0 0] 29)
    simp only [World.size_alloc] at this
    exact this.keep hbn
  have k2 : Blk w1 (w.heap.size + 1 + 1) #[.int .i64 n, .slice none 0 0] 29 := by
    have := Blk.new ((w.alloc (.cells #[.int .i64 n, .slice oa R.length ca] 24)).alloc (.cells #[.int .i64 0, .slice none 0 0] 29)) #[.int .i64 n, .slice none 0 0] 29
    simp only [World.size_alloc] at this
    exact this.keep hbn
  have a10 := k1.cell 0 _ rfl
  have a11 := k1.cell 1 _ rfl
  have f10 := k1.free 0
  have f11 := k1.free 1
  have a20 := k2.cell 0 _ rfl
  have a21 := k2.cell 1 _ rfl
  have f20 := k2.free 0
  have f21 := k2.free 1
  replace hb0 := bel_to hb0 hbn
  clear hbn k1 k2
  go_wp2
  exact bodyPost_ret (v := .agg #[.int .i64 n, .slice o R.length c]) (by simp [results, Tryz.results86, go_sem, a10, a11]) rfl
    ⟨o, c, xs, rfl, (((hN.far_set 1 _ (by simp)).far_set 0 _ (by simp)).far_set 1 _ (by simp)).based (by simp; omega), Below.setCell (Below.setCell (Below.setCell hb0 (by simp; omega) _) (by simp) _) (by simp) _⟩
theorem c_markTable (n : Int) (oa) (c B : Nat) (xs : List Value) (R : List (List Int)) (k0 : Int) (w : World) (h : OwnRows w B (.slice oa R.length c) xs R) (hR : R.length ≤ Room) (hk0 : 0 ≤ k0 ∧ k0 + sumL R R.length ≤ 1073741824) :
    Calls Tryz.prog 92 #[.agg #[.int .i64 n, .slice oa R.length c], .int .i64 k0] w fun e w' => e = .returned (.int .i64 (k0 + sumL R R.length)) ∧ OwnRows w' B (.slice oa R.length c) xs (seqR k0 R) ∧ GrownMany w w' xs := by
  have hb := (Below.refl w.heap.size w).alloc (Nat.le_refl _) (.cells #[.int .i64 n, .slice oa R.length c] 29)
  go_enter Tryz.func92, Tryz.ntmps92
  go_wp2_with fail
  refine (c_markIntSS _ _ B xs _ _ _ (h.keep hb) hR hk0).mono ?_
  rintro e w1 ⟨rfl, hO, hg⟩
  have HG : Hid (GrownMany w w1 xs) := (GrownMany.of hb).trans hg
  clear hg hb h
  go_wp2
  go_ret
  exact ⟨rfl, hO, HG.out⟩
theorem c_heldTable (n : Int) (oa) (c : Nat) (R : List (List Int)) (k0 : Int) (w : World) (hR : RowsAt w oa (seqR k0 R)) (hk0 : 0 ≤ k0 ∧ k0 + sumL R R.length ≤ 1073741824) :
    Ans Tryz.prog 94 #[.agg #[.int .i64 n, .slice oa R.length c], .int .i64 k0] w (.int .i64 (k0 + sumL R R.length)) := by
  unfold Ans
  have hb := (Below.refl w.heap.size w).alloc (Nat.le_refl _) (.cells #[.int .i64 n, .slice oa R.length c] 29)
  have hlt : ¬ (k0 + (sumL R R.length : Int) < 0) := by have := hk0.1; omega
  have hlt2 : decide (k0 + (sumL R R.length : Int) < 0) = false := decide_eq_false hlt
  go_enter Tryz.func94, Tryz.ntmps94
  go_wp2_with (first | (go_at_call 180; refine Calls.mono (c_heldIntSS _ _ _ _ _ (hR.keep hb) hk0) ?_; rintro e w1 ⟨rfl, hbn⟩; replace hb := bel_to (w := w) (by first | exact hb | exact hb.alloc hb.size _ | exact (hb.alloc hb.size _).alloc (Nat.le_trans hb.size (by simp)) _ | exact hb.setCell (by simp [hb.size]) _) hbn; clear hbn))
  go_ret
  exact ⟨rfl, hb⟩
end Go.Proofs.YtjbmpnbfiahdhaaGreat
