-- Made by wip/hyb/lawrow.py.
import Derived.Test.YtedilngdbmfhaaaRows
import Derived.Test.YtedilngdbmfhaaaHRangesRightx5
import Derived.Test.YtedilngdbmfhaaaPureRangesRight
import Derived.Test.YtedilngdbmfhaaaXOpenRg
import Derived.WalkKit
import Derived.ProofKit
import Derived.OpenShut
import Derived.ShutString
import Derived.ChangeOld
import Derived.Below
import Derived.SizedLaws
namespace Go.Proofs.Ytedilngdbmfhaaa.rangesRight
open Go.ChangeShapes Go.WideShapes Go.ChangeAt Go.RowKit
open Go.ChangeMaps (open_string shut_string)
open Go.Proofs.YtedilngdbmfhaaaW.PrintWords (Kd)
set_option linter.unusedVariables false
theorem own : ownKnob Try.prog.godebug = none := by kernel_rfl
theorem laidOut : laidOutB Try.prog = true := by kernel_rfl
set_option maxRecDepth 100000 in
theorem lifted (os : Os) (started : os.Started) (H : Type) (enc : TypeId × Value → H) :
    ReturnsInHanded {} Try.checked os 7 .any (Rows.rangesRightSpec.pre6 enc Try.prog Try.f7 Rows.rangesRightRow.domain false) (Rows.rangesRightSpec.post enc Try.prog Try.f7 false true false false) := by
  refine returnsInHanded_of_change_sized (C := Try.checked) own started (by kernel_rfl) Try.func7
    (ChangeSpec.witness6 (enc := enc) (C := Try.checked) false ⟨#[], #[.slice none 0 0, .slice none 0 0], []⟩ 8 (by kernel_rfl) (by kernel_rfl) (by kernel_rfl) (by kernel_rfl)) ?_
  intro W base args ds gs before hval0 hW hcnd hsz0 _
  have hval : ∀ (j : Nat) t v, Try.f7.params[j]? = some t → args[j]? = some v → Value.okWide Try.prog W .any base t v := hval0
  have hW' := hW
  obtain ⟨p, q, hA0, hV, rfl, hfz, hnd⟩ := hW
  have hA : DataW.TrodAll enc Try.prog W 0 (fun _ => true) true Try.f7.params.toList args.toList ds p := hA0
  rw [Try.params7] at hA hval
  obtain ⟨v0, vs0, d0, ds0, p0, q0, hargs, rfl, rfl, h0, r0⟩ := trodAll_cons hA
  obtain ⟨v1, vs1, d1, ds1, p1, q1, rfl, rfl, rfl, h1, r1⟩ := trodAll_cons r0
  obtain ⟨rfl, rfl, rfl⟩ := trodAll_nil r1
  obtain rfl : args = #[v0, v1] := by cases args; simp_all
  obtain ⟨rfl, rfl⟩ := trodVars_none hV
  obtain ⟨a0, len0, cap0, rfl⟩ := okWide_slice Try.underlying22 (hval 0 22 v0 rfl rfl)
  have k0 := h0
  have lt0 : ∀ x ∈ p0, x.block < W.heap.size := by obtain ⟨m, hm⟩ := k0; exact DataW.trod_lt m _ _ _ hm
  obtain ⟨z0, rfl, y0, C0, w0⟩ := Go.Proofs.YtedilngdbmfhaaaX.open_rg h0
  have C0' : Kd.C HRangesRight.k36 W a0 (z0.map HRangesRight.toRg).length (z0.map HRangesRight.toRg) := by
    rw [HRangesRight.rg_kd, List.length_map]
    exact Go.Proofs.YtedilngdbmfhaaaX.C_iso.2 (by rw [HRangesRight.map_forth]; exact C0)
  obtain ⟨a1, len1, cap1, rfl⟩ := okWide_slice Try.underlying22 (hval 1 22 v1 rfl rfl)
  have k1 := h1
  have lt1 : ∀ x ∈ p1, x.block < W.heap.size := by obtain ⟨m, hm⟩ := k1; exact DataW.trod_lt m _ _ _ hm
  obtain ⟨z1, rfl, y1, C1, w1⟩ := Go.Proofs.YtedilngdbmfhaaaX.open_rg h1
  have C1' : Kd.C HRangesRight.k36 W a1 (z1.map HRangesRight.toRg).length (z1.map HRangesRight.toRg) := by
    rw [HRangesRight.rg_kd, List.length_map]
    exact Go.Proofs.YtedilngdbmfhaaaX.C_iso.2 (by rw [HRangesRight.map_forth]; exact C1)
  clear hA0 hval0 hsz0 hval
  obtain ⟨kk, hk⟩ := Pure.RangesRight (z0.map HRangesRight.toRg) (z1.map HRangesRight.toRg)
  have hcall := HRangesRight.burinlaw02_RangesRight.calls kk a0 cap0 (z0.map HRangesRight.toRg) a1 cap1 (z1.map HRangesRight.toRg) _ W C0' (by rw [List.length_map]; exact y0) C1' (by rw [List.length_map]; exact y1) hk
  simp only [List.length_map] at hcall
  refine hcall.mono fun e W' ⟨he, bel⟩ => ?_
  subst he
  exact ⟨_, rfl, _, _, _, [], _, [], hW', trodAll_mk1 (shut_bool Try.underlying4 _), (trodAll_cons_mk (Below.trod laidOut (by kernel_rfl) (of_decide_eq_true (by kernel_rfl)) k0 bel lt0) (trodAll_cons_mk (Below.trod laidOut (by kernel_rfl) (of_decide_eq_true (by kernel_rfl)) k1 bel lt1) trodAll_mk0)), rfl, bel.frame _, fun h => by cases h⟩
theorem over : Rows.rangesRightRow.holds Try.pinned (OpenSpec.ofChange Rows.rangesRightSpec) :=
  OpenClaim.holds_of_wide 7 Try.f7 rfl rfl rfl rfl rfl rfl rfl ⟨rfl, rfl, rfl, rfl, rfl⟩ rfl rfl rfl rfl rfl (by kernel_rfl) Try.func7 (by kernel_rfl)
    (of_decide_eq_true (by kernel_rfl)) (by unfold Func.isWrapper; first | (rw [if_pos (by decide +kernel)]; kernel_rfl) | (rw [if_neg (by decide +kernel)]; exact ⟨rfl, rfl⟩))
    (fun os started H enc _ => lifted os started H enc)
theorem proved : Rows.RangesRightSaid := over
#print axioms proved
end Go.Proofs.Ytedilngdbmfhaaa.rangesRight
namespace Go.Proofs.Ytedilngdbmfhaaa
/-- The row, under a short name, for the claim. -/
theorem rangesRight_holds : Rows.RangesRightSaid := rangesRight.proved
end Go.Proofs.Ytedilngdbmfhaaa
