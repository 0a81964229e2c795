/- The statement of FnArmstrong: its walk, read as the row asks. -/
import Derived.Test.YtjbmpnbfiahdhaaRows
import Derived.ProofKit
import Derived.OpenShut
import Derived.ShutString
import Derived.ChangeOld
import Derived.Test.YtjbmpnbfiahdhaaQFnArmstrong1
import Derived.Test.YtjbmpnbfiahdhaaQFnArmstrong2
import Derived.Test.YtjbmpnbfiahdhaaQFnArmstrong3
import Derived.Test.YtjbmpnbfiahdhaaQFnArmstrong4
import Derived.Test.YtjbmpnbfiahdhaaQFnArmstrong5
import Derived.Test.YtjbmpnbfiahdhaaQFnArmstrong6
import Derived.Test.YtjbmpnbfiahdhaaQFnArmstrong7
namespace Go.Proofs.Ytjbmpnbfiahdhaa.fnArmstrong
open Go.ChangeShapes Go.WideShapes Go.ChangeAt Go.RowKit
set_option linter.unusedVariables false

theorem own : ownKnob Try.prog.godebug = none := by kernel_rfl
theorem laidOut : laidOutB Try.prog = true := by kernel_rfl

set_option maxRecDepth 100000 in
theorem lifted (os : Os) (started : os.Started) (H : Type) (enc : TypeId × Value → H) :
    ReturnsInHanded {} Try.checked os 8 .any (Rows.fnArmstrongSpec.pre6 enc Try.prog Try.f8 Rows.fnArmstrongRow.domain false) (Rows.fnArmstrongSpec.post enc Try.prog Try.f8 false true false false) := by
  refine returnsInHanded_of_change (C := Try.checked) own started (by as_aux_lemma => kernel_rfl) Try.func8
    (ChangeSpec.witness6 (enc := enc) (C := Try.checked) false ⟨#[], #[.slice none 0 0], []⟩ 8 (by as_aux_lemma => kernel_rfl) (by as_aux_lemma => kernel_rfl) (by as_aux_lemma => kernel_rfl) (by as_aux_lemma => kernel_rfl)) ?_
  intro W base args ds gs before hval0 hW hcnd _
  have hval : ∀ (j : Nat) t v, Try.f8.params[j]? = some t → args[j]? = some v → Value.okWide Try.prog W .any base t v := hval0
  have hW' := hW
  obtain ⟨p, q, hA0, hV, rfl, hfz, hnd⟩ := hW
  have hA : DataW.TrodAll enc Try.prog W 0 (fun _ => true) true Try.f8.params.toList args.toList ds p := hA0
  rw [Try.params8] at hA hval
  obtain ⟨v0, vs0, d0, ds0, p0, q0, hargs, rfl, rfl, h0, r0⟩ := trodAll_cons hA
  obtain ⟨rfl, rfl, rfl⟩ := trodAll_nil r0
  obtain rfl : args = #[v0] := by cases args; simp_all
  obtain ⟨rfl, rfl⟩ := trodVars_none hV
  have k0 := h0
  have lt0 : ∀ x ∈ p0, x.block < W.heap.size := by obtain ⟨m, hm⟩ := k0; exact DataW.trod_lt m _ _ _ hm
  have ok0 := hval 0 52 v0 rfl rfl
  have w0 := open_bytes ok0 h0
  clear hA0 hval0
  refine (w_FnArmstrong W w0).mono fun e W' ⟨he, bel⟩ => ?_
  subst he
  exact ⟨_, rfl, _, _, _, [], _, [], hW', trodAll_mk1 (shut_bool Try.underlying4 _), (trodAll_cons_mk (Below.trod laidOut (by as_aux_lemma => kernel_rfl) (of_decide_eq_true (by as_aux_lemma => kernel_rfl)) k0 bel lt0) trodAll_mk0), rfl, bel.frame _, fun h => by cases h⟩

theorem named : Try.pinned.checked.prog.funcNamed Rows.fnArmstrongRow.func = some 8 := by kernel_rfl
set_option maxRecDepth 100000 in
theorem closed : joinedFacts Try.pinned.checked.prog 8 Try.f8 Rows.fnArmstrongSpec Rows.fnArmstrongRow = true := by kernel_rfl
theorem inst : Try.f8.isInstance Try.pinned.checked.prog Rows.fnArmstrongRow.origin Rows.fnArmstrongRow.targs := of_decide_eq_true (by kernel_rfl)
set_option maxHeartbeats 800000 in
theorem wrap : Try.f8.isWrapper Try.pinned.checked.prog Rows.fnArmstrongRow.wrapper Rows.fnArmstrongRow.mainSum := by
  unfold Func.isWrapper; first | (rw [if_pos (by decide +kernel)]; kernel_rfl) | (rw [if_neg (by decide +kernel)]; exact ⟨rfl, rfl⟩)
theorem over : Rows.fnArmstrongRow.holds Try.pinned (OpenSpec.ofChange Rows.fnArmstrongSpec) :=
  OpenClaim.holds_of_wide 8 Try.f8 rfl rfl rfl rfl rfl rfl rfl ⟨rfl, rfl, rfl, rfl, rfl⟩ rfl rfl rfl rfl rfl named Try.func8 closed inst wrap
    (fun os started H enc _ => lifted os started H enc)

theorem proved : Rows.FnArmstrongSaid := over
#print axioms proved
end Go.Proofs.Ytjbmpnbfiahdhaa.fnArmstrong
