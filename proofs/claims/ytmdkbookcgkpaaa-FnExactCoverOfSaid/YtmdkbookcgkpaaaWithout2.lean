/- The program's list without an element. -/
import Derived.Test.YtmdkbookcgkpaaaWithout
import Derived.Test.YtmdkbookcgkpaaaMark
import Derived.Deep.RegionHeld3
import Derived.Deep.AppendLies
namespace Go.Proofs.Ytmdkbookcgkpaaa
open Go.RowKit
set_option linter.unusedVariables false
set_option maxRecDepth 100000
set_option maxHeartbeats 1600000

theorem step_append_own {P : Program} (w : World) {ops : Array Oper} {o : Oper} {a : Act} {K : Act → World → Prop} {Q : Exit → Act → World → Prop} {E : Prop} (hgd : o.guard = none) (s x : Operand) (t : TypeId)
    (ho : o.op = .call { callee := .builtin .append, args := #[s, x], argTypes := #[t, t] })
    (base : Nat) (e : TypeId) (i : TypeInfo) (z : Value) (size bytes : Nat) (ht : P.underlying t = some (.slice e)) (hi : P.info? e = some i) (hz : i.zero = some z)
    (hsize : i.size = size) (hby : i.bytes = bytes) (hzs : z.cells.size = size) (hsz : 0 < size)
    (v : Value) (n : Nat) (xs : List Value) (hs : a.eval s = v) (hown : w.ownsRow base e size v n xs)
    (ad : Addr) (m c : Nat) (news : List Value) (hx : a.eval x = .slice (some ad) m c) (hl : news.length = m * size) (hnews : ∀ j u, news[j]? = some u → w.cell? (ad.add j) = some u) (h1 : ∀ u ∈ news, u.oneCell' = true)
    (h63 : n + m ≤ maxLen) (hbytes : (n + m) * bytes ≤ 140737488355328) (hbase : base ≤ w.heap.size)
    (h : ∀ v' w', w'.ownsRow base e size v' (n + m) (xs ++ news) → w.grownBy w' v.ownBlock → K (a.put o.dst v') w') :
    if Region.wanted o (yielded ops a.tmps) = true then Oper.wp P o a w K Q else E := by
  have hw : Region.wanted o (yielded ops a.tmps) = true := by simp [Region.wanted, hgd]
  rw [if_pos hw]
  exact wp_append_own w s x t ho base e i z size bytes ht hi hz hsize hby hzs hsz v n xs hs hown ad m c news hx hl hnews h1 h63 hbytes hbase fun v' w' h2 h3 _ => h v' w' h2 h3

/-- An operation whose guard is shut, taken first. -/
theorem wpAnyH_skip {P : Program} {ops : Array Oper} {Q : Exit → Act → World → Prop} {md : Region.Mode} {S : World → Prop} {i : Nat} {oi : Oper} (d : Option Nat) {fuel : Nat} {listed : Array Bool} {a : Act} {w : World} (hi : ops[i]? = some oi) (hd : oi.dst = d)
    (hs : Region.noSelect ops = true) (hf : Region.free md ops listed i = true) (hr : (Region.ready md ops listed).contains i = true)
    (hQ : ∀ c a w, Q (.panic c) (a.put d undef) w → Q (.panic c) a w) (hy : Region.wanted oi (yielded ops a.tmps) = false) (hS : S w)
    (h : wpAnyH P md ops Q S fuel (listed.setIfInBounds i true) (a.put d undef) w) : wpAnyH P md ops Q S (fuel + 1) listed a w := by
  subst hd
  exact wpAnyH_take hi hs hf hr hQ (Or.inr ⟨hy, rfl⟩) hS h
/-- An operation that yields a value whatever the world, taken first. -/
theorem wpAnyH_val {P : Program} {ops : Array Oper} {Q : Exit → Act → World → Prop} {md : Region.Mode} {S : World → Prop} {i : Nat} {oi : Oper} (d : Option Nat) (v : Value) {fuel : Nat} {listed : Array Bool} {a : Act} {w : World} (hi : ops[i]? = some oi) (hd : oi.dst = d)
    (hs : Region.noSelect ops = true) (hf : Region.free md ops listed i = true) (hr : (Region.ready md ops listed).contains i = true)
    (hQ : ∀ c a w, Q (.panic c) (a.put d v) w → Q (.panic c) a w) (hw : Region.wanted oi (yielded ops a.tmps) = true) (hS : S w) (hy : ∀ w, S w → (execOp a.eval oi).run P w = .ok (.value v) w)
    (h : wpAnyH P md ops Q S fuel (listed.setIfInBounds i true) (a.put d v) w) : wpAnyH P md ops Q S (fuel + 1) listed a w := by
  subst hd
  exact wpAnyH_take hi hs hf hr hQ (Or.inl ⟨hw, hy⟩) hS h
theorem nl_take {D : List (Int × Int)} {i k : Nat} (h : k < i) : nl (D.take i) k = nl D k := by unfold nl; simp [List.getD, List.getElem?_take, h]
theorem nr_take {D : List (Int × Int)} {i k : Nat} (h : k < i) : nr (D.take i) k = nr D k := by unfold nr; simp [List.getD, List.getElem?_take, h]
theorem DepsAt.take {w : World} {oa : Option Addr} {D : List (Int × Int)} (h : DepsAt w oa D) (i : Nat) : DepsAt w oa (D.take i) := by
  refine ⟨by have := h.len; rw [List.length_take]; omega, fun h0 => ?_⟩
  rw [List.length_take] at h0
  obtain ⟨b, off, e, hlt, hc⟩ := h.at_ (by omega)
  refine ⟨b, off, e, hlt, fun k hk => ?_⟩
  rw [List.length_take] at hk
  rw [nl_take (by omega), nr_take (by omega)]
  exact hc k (by omega)
theorem c_copyTake (a : Addr) (cap i : Nat) (D : List (Int × Int)) (w : World) (hD : DepsAt w (some a) D) (hi : i ≤ D.length) :
    Calls Try.prog 84 #[.slice (some a) i cap] w fun e w' => ∃ v, e = .returned v ∧ OwnD w' w.heap.size v (D.take i) ∧ Below w.heap.size w w' := by
  have h := c_copyDeps (some a) cap (D.take i) w (hD.take i) (by intro h; cases h)
  rwa [List.length_take, Nat.min_eq_left hi] at h
theorem OwnD.row {w : World} {base : Nat} {v : Value} {i : Nat} {D : List (Int × Int)} (hi : i ≤ D.length) (h : OwnD w base v (D.take i)) : w.ownsRow base 36 2 v i (dcells (D.take i)) := by
  unfold OwnD at h; rwa [List.length_take, Nat.min_eq_left hi] at h

theorem no_news {w : World} {ad : Addr} : ∀ (j : Nat) (u : Value), ([] : List Value)[j]? = some u → w.cell? (ad.add j) = some u := by intro j u hj; cases hj
theorem no_one : ∀ u ∈ ([] : List Value), u.oneCell' = true := by intro u hu; cases hu
theorem c_without (oa) (cap : Nat) (D : List (Int × Int)) (i : Nat) (w : World) (hD : DepsAt w oa D) (hcap : D.length ≤ cap) (hil : i < D.length) :
    Calls Try.prog 78 #[.slice oa D.length cap, .int .i64 i] w fun e w' => ∃ v, e = .returned v ∧ OwnD w' w.heap.size v (eraD D i) ∧ Below w.heap.size w w' := by
  obtain ⟨i0, hi, hz0, hz1, hz2⟩ := info_parts info_dep
  have hn : D.length ≤ 1073741824 := hD.len
  obtain ⟨b, off, rfl, hbs, hc⟩ := hD.at_ (by omega)
  have hb := Below.refl w.heap.size w
  have q1 : i ≤ cap := by omega
  have q2 : (0 : Int) ≤ (i : Int) := by omega
  have q3 : (i : Int) ≤ (cap : Int) := by omega
  have q4 : (0 : Int) ≤ (i : Int) + 1 := by omega
  have q5 : (i : Int) + 1 ≤ (D.length : Int) := by omega
  have q6 : IntKind.i64.wrap ((i : Int) + 1) = (i : Int) + 1 := by simp [IntKind.wrap, IntKind.bits, IntKind.signed, wrap64]; omega
  have q7 : ((i : Int) + 1).toNat = i + 1 := by omega
  have e2 : (dcells (D.drop (i + 1))).length = (D.length - (i + 1)) * 2 := by rw [dcells_length, List.length_drop]
  have HC : Hid (∀ (w1 : World), Below w.heap.size w w1 → ∀ j u, (dcells (D.drop (i + 1)))[j]? = some u → w1.cell? ((⟨b, off + (i + 1) * 2, none⟩ : Addr).add j) = some u) := by
    intro w1 h j u hu
    rw [dcells_drop, List.getElem?_drop] at hu
    have h0 := (hD.keep h).cellsAny _ u hu
    have e : (⟨b, off + (i + 1) * 2, none⟩ : Addr).add j = (⟨b, off, none⟩ : Addr).add ((i + 1) * 2 + j) := by
      unfold Addr.add; (split <;> simp_all) <;> omega
    rw [e]; exact h0
  have hle : i ≤ D.length := by omega
  clear hc
  by_cases hcp : cap = i + 1
  · subst hcp
    have hdl : D.length = i + 1 := by omega
    have q8 : (i : Int) ≤ ((i + 1 : Nat) : Int) := by omega
    have q9 : (i : Int) ≤ (i : Int) + 1 := by omega
    have h63 : i + 0 ≤ maxLen := by unfold maxLen; omega
    have h64 : (i + 0) * 16 ≤ 140737488355328 := by omega
    go_enter Try.func78, Try.ntmps78
    go_wp2_with fail
    go_region_held3 (fun w' => Below w.heap.size w w') (first | exact hb2 | exact hb1 | exact hb.drew)
      (first
        | (go_at_call 84; rename_i hS _ _; refine (c_copyTake _ _ _ _ _ (hD.keep hS) hle).mono ?_; rintro e w1 ⟨v1, rfl, hI, hbn⟩; replace hI := (hI.based hS.size).row hle; have hb1 := bel_to hS hbn)
        | (refine step_append_own _ (by rfl) _ _ 29 (by rfl) w.heap.size 36 i0 (.agg #[.int .i64 0, .int .i64 0]) 2 16 Try.underlying29 hi hz0 hz1 hz2 rfl (by decide) v1 _ _ (by rfl) hI _ 0 _ [] (by rfl) rfl no_news no_one (show _ from h63) (show _ from h64) hb1.size ?_; intro v2 w2 hown hgrow; have hb2 := hb1.grown hgrow hb1.size (fun g hg => (World.ownsRow.lt hI g hg).1); have hO := ownsLast hdl hown; obtain ⟨o2, c2, rfl⟩ := hO.shape; clear hown hgrow)
        | fail)
    go_wp2
    go_ret
    exact ⟨_, rfl, hO, hb2⟩
  · have h63 : i + (D.length - (i + 1)) ≤ maxLen := by unfold maxLen; omega
    have h64 : (i + (D.length - (i + 1))) * 16 ≤ 140737488355328 := by omega
    go_enter Try.func78, Try.ntmps78
    go_wp2_with fail
    go_region_held3 (fun w' => Below w.heap.size w w') (first | exact hb2 | exact hb1 | exact hb.drew)
      (first
        | (go_at_call 84; rename_i hS _ _; refine (c_copyTake _ _ _ _ _ (hD.keep hS) hle).mono ?_; rintro e w1 ⟨v1, rfl, hI, hbn⟩; replace hI := (hI.based hS.size).row hle; have hb1 := bel_to hS hbn)
        | (refine step_append_own _ (by rfl) _ _ 29 (by rfl) w.heap.size 36 i0 (.agg #[.int .i64 0, .int .i64 0]) 2 16 Try.underlying29 hi hz0 hz1 hz2 rfl (by decide) v1 _ _ (by rfl) hI _ (D.length - (i + 1)) _ (dcells (D.drop (i + 1))) (by rfl) e2 (HC.out _ hb1) (dcells_one _) (show _ from h63) (show _ from h64) hb1.size ?_; intro v2 w2 hown hgrow; have hb2 := hb1.grown hgrow hb1.size (fun g hg => (World.ownsRow.lt hI g hg).1); have hO := ownsErase hil hown; obtain ⟨o2, c2, rfl⟩ := hO.shape; clear hown hgrow)
        | fail)
    go_wp2
    go_ret
    exact ⟨_, rfl, hO, hb2⟩
end Go.Proofs.Ytmdkbookcgkpaaa
