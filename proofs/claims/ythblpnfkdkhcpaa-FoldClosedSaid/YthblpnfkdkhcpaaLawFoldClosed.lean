-- Made by wip/hyb/lawrow.py.
import Derived.Test.YthblpnfkdkhcpaaRows
import Derived.Test.YthblpnfkdkhcpaaHFoldClosedx5
import Derived.Test.YthblpnfkdkhcpaaPureFoldClosed
import Derived.Test.YthblpnfkdkhcpaaXOpenRg
import Derived.WalkKit
import Derived.ProofKit
import Derived.OpenShut
import Derived.ShutString
import Derived.ChangeOld
import Derived.Below
import Derived.SizedLaws
namespace Go.Proofs.Ythblpnfkdkhcpaa.foldClosed
open Go.ChangeShapes Go.WideShapes Go.ChangeAt Go.RowKit
open Go.ChangeMaps (open_string shut_string)
open Go.Proofs.YthblpnfkdkhcpaaW.PrintWords (Kd)
set_option linter.unusedVariables false
theorem own : ownKnob Try.prog.godebug = none := by kernel_rfl
theorem laidOut : laidOutB Try.prog = true := by kernel_rfl
set_option maxRecDepth 100000 in
theorem lifted (os : Os) (started : os.Started) (H : Type) (enc : TypeId × Value → H) :
    ReturnsInHanded {} Try.checked os 7 .any (Rows.foldClosedSpec.pre6 enc Try.prog Try.f7 Rows.foldClosedRow.domain false) (Rows.foldClosedSpec.post enc Try.prog Try.f7 false true false false) := by
  refine returnsInHanded_of_change_sized (C := Try.checked) own started (by kernel_rfl) Try.func7
    (ChangeSpec.witness6 (enc := enc) (C := Try.checked) false ⟨#[], #[.slice none 0 0, .slice none 0 0, .int .i64 0], []⟩ 8 (by kernel_rfl) (by kernel_rfl) (by kernel_rfl) (by kernel_rfl)) ?_
  intro W base args ds gs before hval0 hW hcnd hsz0 _
  have hval : ∀ (j : Nat) t v, Try.f7.params[j]? = some t → args[j]? = some v → Value.okWide Try.prog W .any base t v := hval0
  have hW' := hW
  obtain ⟨p, q, hA0, hV, rfl, hfz, hnd⟩ := hW
  have hA : DataW.TrodAll enc Try.prog W 0 (fun _ => true) true Try.f7.params.toList args.toList ds p := hA0
  rw [Try.params7] at hA hval
  obtain ⟨v0, vs0, d0, ds0, p0, q0, hargs, rfl, rfl, h0, r0⟩ := trodAll_cons hA
  obtain ⟨v1, vs1, d1, ds1, p1, q1, rfl, rfl, rfl, h1, r1⟩ := trodAll_cons r0
  obtain ⟨v2, vs2, d2, ds2, p2, q2, rfl, rfl, rfl, h2, r2⟩ := trodAll_cons r1
  obtain ⟨rfl, rfl, rfl⟩ := trodAll_nil r2
  obtain rfl : args = #[v0, v1, v2] := by cases args; simp_all
  obtain ⟨rfl, rfl⟩ := trodVars_none hV
  obtain ⟨a0, len0, cap0, rfl⟩ := okWide_slice Try.underlying29 (hval 0 29 v0 rfl rfl)
  have k0 := h0
  have lt0 : ∀ x ∈ p0, x.block < W.heap.size := by obtain ⟨m, hm⟩ := k0; exact DataW.trod_lt m _ _ _ hm
  obtain ⟨z0, rfl, y0, C0, w0⟩ := Go.Proofs.YthblpnfkdkhcpaaX.open_rg h0
  have C0' : Kd.C HFoldClosed.k55 W a0 (z0.map HFoldClosed.toRg).length (z0.map HFoldClosed.toRg) := by
    rw [HFoldClosed.rg_kd, List.length_map]
    exact Go.Proofs.YthblpnfkdkhcpaaX.C_iso.2 (by rw [HFoldClosed.map_forth]; exact C0)
  obtain ⟨a1, len1, cap1, rfl⟩ := okWide_slice Try.underlying29 (hval 1 29 v1 rfl rfl)
  have k1 := h1
  have lt1 : ∀ x ∈ p1, x.block < W.heap.size := by obtain ⟨m, hm⟩ := k1; exact DataW.trod_lt m _ _ _ hm
  obtain ⟨z1, rfl, y1, C1, w1⟩ := Go.Proofs.YthblpnfkdkhcpaaX.open_rg h1
  have C1' : Kd.C HFoldClosed.k55 W a1 (z1.map HFoldClosed.toRg).length (z1.map HFoldClosed.toRg) := by
    rw [HFoldClosed.rg_kd, List.length_map]
    exact Go.Proofs.YthblpnfkdkhcpaaX.C_iso.2 (by rw [HFoldClosed.map_forth]; exact C1)
  obtain ⟨a2, rfl, rfl, rfl, w2⟩ := open_int Try.underlying3 (hval 2 3 v2 rfl rfl) h2
  clear hA0 hval0 hsz0 hval
  obtain ⟨kk, hk⟩ := Pure.FoldClosed (z0.map HFoldClosed.toRg) (z1.map HFoldClosed.toRg) a2
  have hcall := HFoldClosed.burinlaw03_FoldClosed.calls kk a0 cap0 (z0.map HFoldClosed.toRg) a1 cap1 (z1.map HFoldClosed.toRg) a2 _ W C0' (by rw [List.length_map]; exact y0) C1' (by rw [List.length_map]; exact y1) hk
  simp only [List.length_map] at hcall
  refine hcall.mono fun e W' ⟨he, bel⟩ => ?_
  subst he
  exact ⟨_, rfl, _, _, _, [], _, [], hW', trodAll_mk1 (shut_bool Try.underlying4 _), (trodAll_cons_mk (Below.trod laidOut (by kernel_rfl) (of_decide_eq_true (by kernel_rfl)) k0 bel lt0) (trodAll_cons_mk (Below.trod laidOut (by kernel_rfl) (of_decide_eq_true (by kernel_rfl)) k1 bel lt1) (trodAll_cons_mk (shut_int Try.underlying3 w2) trodAll_mk0))), rfl, bel.frame _, fun h => by cases h⟩
theorem over : Rows.foldClosedRow.holds Try.pinned (OpenSpec.ofChange Rows.foldClosedSpec) :=
  OpenClaim.holds_of_wide 7 Try.f7 rfl rfl rfl rfl rfl rfl rfl ⟨rfl, rfl, rfl, rfl, rfl⟩ rfl rfl rfl rfl rfl (by kernel_rfl) Try.func7 (by kernel_rfl)
    (of_decide_eq_true (by kernel_rfl)) (by unfold Func.isWrapper; first | (rw [if_pos (by decide +kernel)]; kernel_rfl) | (rw [if_neg (by decide +kernel)]; exact ⟨rfl, rfl⟩))
    (fun os started H enc _ => lifted os started H enc)
theorem proved : Rows.FoldClosedSaid := over
#print axioms proved
end Go.Proofs.Ythblpnfkdkhcpaa.foldClosed
namespace Go.Proofs.Ythblpnfkdkhcpaa
/-- The row, under a short name, for the claim. -/
theorem foldClosed_holds : Rows.FoldClosedSaid := foldClosed.proved
end Go.Proofs.Ythblpnfkdkhcpaa
