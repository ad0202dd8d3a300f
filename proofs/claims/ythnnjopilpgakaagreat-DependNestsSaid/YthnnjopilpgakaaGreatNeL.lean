/-
  The law 'formularylaw27.DependNests' holds: for every nest of loops that a caller can hand in, the call returns true, and the nest reads behind it as it read before. No condition beyond the given statement's own.
-/
import Derived.Test.YthnnjopilpgakaaGreatRows
import Derived.Test.YthnnjopilpgakaaGreatNeC
import Derived.WalkKit
import Derived.ProofKit
import Derived.OpenShut
import Derived.ShutString
import Derived.ChangeOld
import Derived.Below
import Derived.Carry
import Derived.SizedLaws
set_option linter.unusedVariables false
set_option linter.unusedSimpArgs false
namespace Go.Proofs.YthnnjopilpgakaaGreat.dependNests
open Go.ChangeShapes Go.WideShapes Go.ChangeAt Go.RowKit
open Go.Gh
set_option linter.unusedVariables false
theorem own : ownKnob Tryz.prog.godebug = none := by kernel_rfl
theorem laidOut : laidOutB Tryz.prog = true := by kernel_rfl
set_option maxRecDepth 100000 in
theorem lifted (os : Os) (started : os.Started) (H : Type) (enc : TypeId × Value → H) :
    ReturnsInHanded {} Tryz.checked os 5 .any (Rows.dependNestsSpec.pre6 enc Tryz.prog Tryz.f5 Rows.dependNestsRow.domain false) (Rows.dependNestsSpec.post enc Tryz.prog Tryz.f5 false true false false) := by
  refine returnsInHanded_of_change_sized (C := Tryz.checked) own started (by kernel_rfl) Tryz.func5
    (ChangeSpec.witness6 (enc := enc) (C := Tryz.checked) false ⟨#[], #[.slice none 0 0], []⟩ 8 (by kernel_rfl) (by kernel_rfl) (by kernel_rfl) (by kernel_rfl)) ?_
  intro W base args ds gs before hval0 hW hcnd hsz0 _
  have hval : ∀ (j : Nat) t v, Tryz.f5.params[j]? = some t → args[j]? = some v → Value.okWide Tryz.prog W .any base t v := hval0
  have hW' := hW
  obtain ⟨p, q, hA0, hV, rfl, hfz, hnd⟩ := hW
  have hA : DataW.TrodAll enc Tryz.prog W 0 (fun _ => true) true Tryz.f5.params.toList args.toList ds p := hA0
  rw [Tryz.params5] at hA hval
  obtain ⟨v0, vs0, d0, ds0, p0, q0, hargs, rfl, rfl, h0, r0⟩ := trodAll_cons hA
  obtain ⟨rfl, rfl, rfl⟩ := trodAll_nil r0
  obtain rfl : args = #[v0] := by cases args; simp_all
  obtain ⟨rfl, rfl⟩ := trodVars_none hV
  obtain ⟨a0, len0, cap0, rfl⟩ := okWide_slice Tryz.underlying23 (hval 0 23 v0 rfl rfl)
  have k0 := h0
  have lt0 : ∀ x ∈ p0, x.block < W.heap.size := by obtain ⟨m, hm⟩ := k0; exact DataW.trod_lt m _ _ _ hm
  obtain ⟨fuel, hf⟩ := h0
  obtain ⟨xs, x1, x2, x3⟩ := open_sh 6 23 [shN] [.slice a0 len0 cap0] sh23 ⟨fuel, _, hf⟩
  simp only [IsL] at x1
  obtain ⟨y, _, rfl, i1, rfl⟩ := x1
  obtain ⟨N, rfl⟩ := is_N i1
  have hc := law_calls (m := 1000201) (f := 5) (W := W) (vs := #[.slice a0 len0 cap0]) (dvs := [eN N]) rfl x3
    (g5 (n := 1000200) (Nat.le_of_ble_eq_true rfl) awake_runs N [] (fun r _ => isT r) rfl)
  clear hA0 hval0 hsz0
  refine hc.mono fun e W' ⟨he, bel⟩ => ?_
  subst he
  exact ⟨_, rfl, _, _, _, [], _, [], hW', trodAll_mk1 (shut_bool Tryz.underlying4 _), trodAll_mk1 (Below.trod laidOut (by kernel_rfl) (of_decide_eq_true (by kernel_rfl)) k0 bel lt0), rfl, bel.frame _, fun h => by cases h⟩
theorem over : Rows.dependNestsRow.holds Tryz.pinned (OpenSpec.ofChange Rows.dependNestsSpec) :=
  OpenClaim.holds_of_wide 5 Tryz.f5 rfl rfl rfl rfl rfl rfl rfl ⟨rfl, rfl, rfl, rfl, rfl⟩ rfl rfl rfl rfl rfl (by kernel_rfl) Tryz.func5 (by kernel_rfl)
    (of_decide_eq_true (by kernel_rfl)) (by unfold Func.isWrapper; first | (rw [if_pos (by decide +kernel)]; kernel_rfl) | (rw [if_neg (by decide +kernel)]; exact ⟨rfl, rfl⟩))
    (fun os started H enc _ => lifted os started H enc)
theorem proved : Rows.DependNestsSaid := over
end Go.Proofs.YthnnjopilpgakaaGreat.dependNests
namespace Go.Proofs.YthnnjopilpgakaaGreat
/-- The row, under a short name, for the claim. -/
theorem dependNests_holds : Rows.DependNestsSaid := dependNests.proved
#print axioms dependNests_holds
end Go.Proofs.YthnnjopilpgakaaGreat
