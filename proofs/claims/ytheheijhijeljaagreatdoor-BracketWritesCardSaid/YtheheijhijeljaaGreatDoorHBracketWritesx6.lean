-- Made by wip/hyb (a program of this session over the kit's print); its parts marked 'own text' are typed by hand.
import Derived.Test.YtheheijhijeljaaGreatDoorHBracketWritesx0
import Derived.Test.YtheheijhijeljaaGreatDoorHBracketWritesx4
import Derived.Test.YtheheijhijeljaaGreatDoorHBracketWritesx5
namespace Go.Proofs.YtheheijhijeljaaGreatDoor.HBracketWrites
open Go.RowKit Go.Proofs.YtheheijhijeljaaGreatDoorW.PrintWords Go.Proofs.YtheheijhijeljaaGreatDoorW.PrintLast Go.Proofs.YtheheijhijeljaaGreatDoorW.PrintMore
attribute [local go_sem] max2_int min2_int max_two min_two max_three min_three max_four min_four   -- for this text's walks alone
set_option linter.unusedVariables false
set_option linter.unusedSimpArgs false
def class_properties.f  : Option ((List (S105))) := some (([(⟨(⟨#[65, 110, 121]⟩ : ByteArray), (⟨#[48, 45, 49, 48, 70, 70, 70, 70]⟩ : ByteArray)⟩ : S105), (⟨(⟨#[67, 121, 114, 105, 108, 108, 105, 99]⟩ : ByteArray), (⟨#[52, 48, 48, 45, 52, 56, 52, 32, 52, 56, 55, 45, 53, 50, 70]⟩ : ByteArray)⟩ : S105), (⟨(⟨#[71, 114, 101, 101, 107]⟩ : ByteArray), (⟨#[51, 55, 48, 45, 51, 55, 51, 32, 51, 55, 53, 45, 51, 55, 55, 32, 51, 55, 65, 45, 51, 55, 68, 32, 51, 55, 70, 32, 51, 56, 52, 32, 51, 56, 54, 32, 51, 56, 56, 45, 51, 56, 65, 32, 51, 56, 67, 32, 51, 56, 69, 45, 51, 65, 49, 32, 51, 65, 51, 45, 51, 69, 49, 32, 51, 70, 48, 45, 51, 70, 70, 32, 50, 49, 50, 54]⟩ : ByteArray)⟩ : S105), (⟨(⟨#[76]⟩ : ByteArray), (⟨#[52, 49, 45, 53, 65, 32, 67, 48, 45, 68, 54, 32, 68, 56, 45, 68, 69, 32, 49, 55, 56, 32, 51, 57, 49, 45, 51, 65, 49, 32, 51, 65, 51, 45, 51, 65, 66, 32, 52, 48, 48, 45, 52, 50, 70, 32, 54, 49, 45, 55, 65, 32, 66, 53, 32, 68, 70, 45, 70, 54, 32, 70, 56, 45, 70, 70, 32, 51, 65, 67, 45, 51, 67, 69, 32, 52, 51, 48, 45, 52, 53, 70, 32, 49, 55, 70, 32, 52, 49, 45, 53, 65, 32, 54, 49, 45, 55, 65, 32, 65, 65, 32, 66, 65, 32, 67, 48, 45, 68, 54, 32, 68, 56, 45, 70, 54, 32, 70, 56, 45, 50, 52, 70, 32, 51, 55, 48, 45, 51, 55, 51, 32, 51, 55, 53, 45, 51, 55, 55, 32, 51, 55, 65, 45, 51, 55, 68, 32, 51, 55, 70, 32, 51, 56, 52, 32, 51, 56, 54, 32, 51, 56, 56, 45, 51, 56, 65, 32, 51, 56, 67, 32, 51, 56, 69, 45, 51, 65, 49, 32, 51, 65, 51, 45, 51, 69, 49, 32, 51, 70, 48, 45, 51, 70, 70, 32, 50, 49, 50, 54, 32, 52, 48, 48, 45, 52, 56, 52, 32, 52, 56, 55, 45, 53, 50, 70]⟩ : ByteArray)⟩ : S105), (⟨(⟨#[76, 97, 116, 105, 110]⟩ : ByteArray), (⟨#[52, 49, 45, 53, 65, 32, 54, 49, 45, 55, 65, 32, 65, 65, 32, 66, 65, 32, 67, 48, 45, 68, 54, 32, 68, 56, 45, 70, 54, 32, 70, 56, 45, 50, 52, 70]⟩ : ByteArray)⟩ : S105), (⟨(⟨#[76, 108]⟩ : ByteArray), (⟨#[54, 49, 45, 55, 65, 32, 66, 53, 32, 68, 70, 45, 70, 54, 32, 70, 56, 45, 70, 70, 32, 51, 65, 67, 45, 51, 67, 69, 32, 52, 51, 48, 45, 52, 53, 70, 32, 49, 55, 70]⟩ : ByteArray)⟩ : S105), (⟨(⟨#[76, 117]⟩ : ByteArray), (⟨#[52, 49, 45, 53, 65, 32, 67, 48, 45, 68, 54, 32, 68, 56, 45, 68, 69, 32, 49, 55, 56, 32, 51, 57, 49, 45, 51, 65, 49, 32, 51, 65, 51, 45, 51, 65, 66, 32, 52, 48, 48, 45, 52, 50, 70]⟩ : ByteArray)⟩ : S105), (⟨(⟨#[78, 100]⟩ : ByteArray), (⟨#[51, 48, 45, 51, 57, 32, 54, 54, 48, 45, 54, 54, 57, 32, 54, 70, 48, 45, 54, 70, 57, 32, 57, 54, 54, 45, 57, 54, 70]⟩ : ByteArray)⟩ : S105)] : List (S105)))
set_option maxHeartbeats 8000000 in
set_option maxRecDepth 100000 in
theorem class_properties.calls  (r : List (S105)) (w : World) (h : class_properties.f  = some r) :
  Calls Tryz.prog 89 #[] w fun e w' => ∃ v0_ : Value, e = .returned (v0_) ∧ Kd.R k105 105 w' w.heap.size (fun _ => True) v0_ r ∧ Below w.heap.size w w' := by
 have hu105 := Tryz.underlying105
 have HB := Aside0.mk (Below.refl w.heap.size w)
 have H : (some (([(⟨(⟨#[65, 110, 121]⟩ : ByteArray), (⟨#[48, 45, 49, 48, 70, 70, 70, 70]⟩ : ByteArray)⟩ : S105), (⟨(⟨#[67, 121, 114, 105, 108, 108, 105, 99]⟩ : ByteArray), (⟨#[52, 48, 48, 45, 52, 56, 52, 32, 52, 56, 55, 45, 53, 50, 70]⟩ : ByteArray)⟩ : S105), (⟨(⟨#[71, 114, 101, 101, 107]⟩ : ByteArray), (⟨#[51, 55, 48, 45, 51, 55, 51, 32, 51, 55, 53, 45, 51, 55, 55, 32, 51, 55, 65, 45, 51, 55, 68, 32, 51, 55, 70, 32, 51, 56, 52, 32, 51, 56, 54, 32, 51, 56, 56, 45, 51, 56, 65, 32, 51, 56, 67, 32, 51, 56, 69, 45, 51, 65, 49, 32, 51, 65, 51, 45, 51, 69, 49, 32, 51, 70, 48, 45, 51, 70, 70, 32, 50, 49, 50, 54]⟩ : ByteArray)⟩ : S105), (⟨(⟨#[76]⟩ : ByteArray), (⟨#[52, 49, 45, 53, 65, 32, 67, 48, 45, 68, 54, 32, 68, 56, 45, 68, 69, 32, 49, 55, 56, 32, 51, 57, 49, 45, 51, 65, 49, 32, 51, 65, 51, 45, 51, 65, 66, 32, 52, 48, 48, 45, 52, 50, 70, 32, 54, 49, 45, 55, 65, 32, 66, 53, 32, 68, 70, 45, 70, 54, 32, 70, 56, 45, 70, 70, 32, 51, 65, 67, 45, 51, 67, 69, 32, 52, 51, 48, 45, 52, 53, 70, 32, 49, 55, 70, 32, 52, 49, 45, 53, 65, 32, 54, 49, 45, 55, 65, 32, 65, 65, 32, 66, 65, 32, 67, 48, 45, 68, 54, 32, 68, 56, 45, 70, 54, 32, 70, 56, 45, 50, 52, 70, 32, 51, 55, 48, 45, 51, 55, 51, 32, 51, 55, 53, 45, 51, 55, 55, 32, 51, 55, 65, 45, 51, 55, 68, 32, 51, 55, 70, 32, 51, 56, 52, 32, 51, 56, 54, 32, 51, 56, 56, 45, 51, 56, 65, 32, 51, 56, 67, 32, 51, 56, 69, 45, 51, 65, 49, 32, 51, 65, 51, 45, 51, 69, 49, 32, 51, 70, 48, 45, 51, 70, 70, 32, 50, 49, 50, 54, 32, 52, 48, 48, 45, 52, 56, 52, 32, 52, 56, 55, 45, 53, 50, 70]⟩ : ByteArray)⟩ : S105), (⟨(⟨#[76, 97, 116, 105, 110]⟩ : ByteArray), (⟨#[52, 49, 45, 53, 65, 32, 54, 49, 45, 55, 65, 32, 65, 65, 32, 66, 65, 32, 67, 48, 45, 68, 54, 32, 68, 56, 45, 70, 54, 32, 70, 56, 45, 50, 52, 70]⟩ : ByteArray)⟩ : S105), (⟨(⟨#[76, 108]⟩ : ByteArray), (⟨#[54, 49, 45, 55, 65, 32, 66, 53, 32, 68, 70, 45, 70, 54, 32, 70, 56, 45, 70, 70, 32, 51, 65, 67, 45, 51, 67, 69, 32, 52, 51, 48, 45, 52, 53, 70, 32, 49, 55, 70]⟩ : ByteArray)⟩ : S105), (⟨(⟨#[76, 117]⟩ : ByteArray), (⟨#[52, 49, 45, 53, 65, 32, 67, 48, 45, 68, 54, 32, 68, 56, 45, 68, 69, 32, 49, 55, 56, 32, 51, 57, 49, 45, 51, 65, 49, 32, 51, 65, 51, 45, 51, 65, 66, 32, 52, 48, 48, 45, 52, 50, 70]⟩ : ByteArray)⟩ : S105), (⟨(⟨#[78, 100]⟩ : ByteArray), (⟨#[51, 48, 45, 51, 57, 32, 54, 54, 48, 45, 54, 54, 57, 32, 54, 70, 48, 45, 54, 70, 57, 32, 57, 54, 54, 45, 57, 54, 70]⟩ : ByteArray)⟩ : S105)] : List (S105)))) = some r := h
 clear h
 obtain ⟨y166, hy166⟩ : ∃ y_ : List (S105), y_ = (([(⟨(⟨#[65, 110, 121]⟩ : ByteArray), (⟨#[48, 45, 49, 48, 70, 70, 70, 70]⟩ : ByteArray)⟩ : S105), (⟨(⟨#[67, 121, 114, 105, 108, 108, 105, 99]⟩ : ByteArray), (⟨#[52, 48, 48, 45, 52, 56, 52, 32, 52, 56, 55, 45, 53, 50, 70]⟩ : ByteArray)⟩ : S105), (⟨(⟨#[71, 114, 101, 101, 107]⟩ : ByteArray), (⟨#[51, 55, 48, 45, 51, 55, 51, 32, 51, 55, 53, 45, 51, 55, 55, 32, 51, 55, 65, 45, 51, 55, 68, 32, 51, 55, 70, 32, 51, 56, 52, 32, 51, 56, 54, 32, 51, 56, 56, 45, 51, 56, 65, 32, 51, 56, 67, 32, 51, 56, 69, 45, 51, 65, 49, 32, 51, 65, 51, 45, 51, 69, 49, 32, 51, 70, 48, 45, 51, 70, 70, 32, 50, 49, 50, 54]⟩ : ByteArray)⟩ : S105), (⟨(⟨#[76]⟩ : ByteArray), (⟨#[52, 49, 45, 53, 65, 32, 67, 48, 45, 68, 54, 32, 68, 56, 45, 68, 69, 32, 49, 55, 56, 32, 51, 57, 49, 45, 51, 65, 49, 32, 51, 65, 51, 45, 51, 65, 66, 32, 52, 48, 48, 45, 52, 50, 70, 32, 54, 49, 45, 55, 65, 32, 66, 53, 32, 68, 70, 45, 70, 54, 32, 70, 56, 45, 70, 70, 32, 51, 65, 67, 45, 51, 67, 69, 32, 52, 51, 48, 45, 52, 53, 70, 32, 49, 55, 70, 32, 52, 49, 45, 53, 65, 32, 54, 49, 45, 55, 65, 32, 65, 65, 32, 66, 65, 32, 67, 48, 45, 68, 54, 32, 68, 56, 45, 70, 54, 32, 70, 56, 45, 50, 52, 70, 32, 51, 55, 48, 45, 51, 55, 51, 32, 51, 55, 53, 45, 51, 55, 55, 32, 51, 55, 65, 45, 51, 55, 68, 32, 51, 55, 70, 32, 51, 56, 52, 32, 51, 56, 54, 32, 51, 56, 56, 45, 51, 56, 65, 32, 51, 56, 67, 32, 51, 56, 69, 45, 51, 65, 49, 32, 51, 65, 51, 45, 51, 69, 49, 32, 51, 70, 48, 45, 51, 70, 70, 32, 50, 49, 50, 54, 32, 52, 48, 48, 45, 52, 56, 52, 32, 52, 56, 55, 45, 53, 50, 70]⟩ : ByteArray)⟩ : S105), (⟨(⟨#[76, 97, 116, 105, 110]⟩ : ByteArray), (⟨#[52, 49, 45, 53, 65, 32, 54, 49, 45, 55, 65, 32, 65, 65, 32, 66, 65, 32, 67, 48, 45, 68, 54, 32, 68, 56, 45, 70, 54, 32, 70, 56, 45, 50, 52, 70]⟩ : ByteArray)⟩ : S105), (⟨(⟨#[76, 108]⟩ : ByteArray), (⟨#[54, 49, 45, 55, 65, 32, 66, 53, 32, 68, 70, 45, 70, 54, 32, 70, 56, 45, 70, 70, 32, 51, 65, 67, 45, 51, 67, 69, 32, 52, 51, 48, 45, 52, 53, 70, 32, 49, 55, 70]⟩ : ByteArray)⟩ : S105), (⟨(⟨#[76, 117]⟩ : ByteArray), (⟨#[52, 49, 45, 53, 65, 32, 67, 48, 45, 68, 54, 32, 68, 56, 45, 68, 69, 32, 49, 55, 56, 32, 51, 57, 49, 45, 51, 65, 49, 32, 51, 65, 51, 45, 51, 65, 66, 32, 52, 48, 48, 45, 52, 50, 70]⟩ : ByteArray)⟩ : S105), (⟨(⟨#[78, 100]⟩ : ByteArray), (⟨#[51, 48, 45, 51, 57, 32, 54, 54, 48, 45, 54, 54, 57, 32, 54, 70, 48, 45, 54, 70, 57, 32, 57, 54, 54, 45, 57, 54, 70]⟩ : ByteArray)⟩ : S105)] : List (S105))) := ⟨_, rfl⟩
 replace H : (some y166) = some r := by first | (rw [hy166]; with_reducible exact H) | (have H2_ := (Option.bind_some _ _).symm.trans H; rw [hy166]; with_reducible exact H2_) | (have H2_ := (Option.bind_some _ _).symm.trans H; with_reducible exact H2_) | with_reducible exact H | (rw [hy166]; exact H) | exact H
 have Ny166 := Aside0.mk hy166
 clear hy166
 obtain rfl := Option.some.inj H
 go_enter Tryz.func89, Tryz.ntmps89
 go_wp2_with (first | ((with_reducible refine gate_dst (N := 9) rfl ?_); refine Kd.R_lit k105 _ 105 ?hg (N := 9) ?hd (xs := ([(⟨(⟨#[65, 110, 121]⟩ : ByteArray), (⟨#[48, 45, 49, 48, 70, 70, 70, 70]⟩ : ByteArray)⟩ : S105), (⟨(⟨#[67, 121, 114, 105, 108, 108, 105, 99]⟩ : ByteArray), (⟨#[52, 48, 48, 45, 52, 56, 52, 32, 52, 56, 55, 45, 53, 50, 70]⟩ : ByteArray)⟩ : S105), (⟨(⟨#[71, 114, 101, 101, 107]⟩ : ByteArray), (⟨#[51, 55, 48, 45, 51, 55, 51, 32, 51, 55, 53, 45, 51, 55, 55, 32, 51, 55, 65, 45, 51, 55, 68, 32, 51, 55, 70, 32, 51, 56, 52, 32, 51, 56, 54, 32, 51, 56, 56, 45, 51, 56, 65, 32, 51, 56, 67, 32, 51, 56, 69, 45, 51, 65, 49, 32, 51, 65, 51, 45, 51, 69, 49, 32, 51, 70, 48, 45, 51, 70, 70, 32, 50, 49, 50, 54]⟩ : ByteArray)⟩ : S105), (⟨(⟨#[76]⟩ : ByteArray), (⟨#[52, 49, 45, 53, 65, 32, 67, 48, 45, 68, 54, 32, 68, 56, 45, 68, 69, 32, 49, 55, 56, 32, 51, 57, 49, 45, 51, 65, 49, 32, 51, 65, 51, 45, 51, 65, 66, 32, 52, 48, 48, 45, 52, 50, 70, 32, 54, 49, 45, 55, 65, 32, 66, 53, 32, 68, 70, 45, 70, 54, 32, 70, 56, 45, 70, 70, 32, 51, 65, 67, 45, 51, 67, 69, 32, 52, 51, 48, 45, 52, 53, 70, 32, 49, 55, 70, 32, 52, 49, 45, 53, 65, 32, 54, 49, 45, 55, 65, 32, 65, 65, 32, 66, 65, 32, 67, 48, 45, 68, 54, 32, 68, 56, 45, 70, 54, 32, 70, 56, 45, 50, 52, 70, 32, 51, 55, 48, 45, 51, 55, 51, 32, 51, 55, 53, 45, 51, 55, 55, 32, 51, 55, 65, 45, 51, 55, 68, 32, 51, 55, 70, 32, 51, 56, 52, 32, 51, 56, 54, 32, 51, 56, 56, 45, 51, 56, 65, 32, 51, 56, 67, 32, 51, 56, 69, 45, 51, 65, 49, 32, 51, 65, 51, 45, 51, 69, 49, 32, 51, 70, 48, 45, 51, 70, 70, 32, 50, 49, 50, 54, 32, 52, 48, 48, 45, 52, 56, 52, 32, 52, 56, 55, 45, 53, 50, 70]⟩ : ByteArray)⟩ : S105), (⟨(⟨#[76, 97, 116, 105, 110]⟩ : ByteArray), (⟨#[52, 49, 45, 53, 65, 32, 54, 49, 45, 55, 65, 32, 65, 65, 32, 66, 65, 32, 67, 48, 45, 68, 54, 32, 68, 56, 45, 70, 54, 32, 70, 56, 45, 50, 52, 70]⟩ : ByteArray)⟩ : S105), (⟨(⟨#[76, 108]⟩ : ByteArray), (⟨#[54, 49, 45, 55, 65, 32, 66, 53, 32, 68, 70, 45, 70, 54, 32, 70, 56, 45, 70, 70, 32, 51, 65, 67, 45, 51, 67, 69, 32, 52, 51, 48, 45, 52, 53, 70, 32, 49, 55, 70]⟩ : ByteArray)⟩ : S105), (⟨(⟨#[76, 117]⟩ : ByteArray), (⟨#[52, 49, 45, 53, 65, 32, 67, 48, 45, 68, 54, 32, 68, 56, 45, 68, 69, 32, 49, 55, 56, 32, 51, 57, 49, 45, 51, 65, 49, 32, 51, 65, 51, 45, 51, 65, 66, 32, 52, 48, 48, 45, 52, 50, 70]⟩ : ByteArray)⟩ : S105), (⟨(⟨#[78, 100]⟩ : ByteArray), (⟨#[51, 48, 45, 51, 57, 32, 54, 54, 48, 45, 54, 54, 57, 32, 54, 70, 48, 45, 54, 70, 57, 32, 57, 54, 54, 45, 57, 54, 70]⟩ : ByteArray)⟩ : S105)] : List (S105))) (inner := [.string (⟨#[65, 110, 121]⟩ : ByteArray), .string (⟨#[48, 45, 49, 48, 70, 70, 70, 70]⟩ : ByteArray), .string (⟨#[67, 121, 114, 105, 108, 108, 105, 99]⟩ : ByteArray), .string (⟨#[52, 48, 48, 45, 52, 56, 52, 32, 52, 56, 55, 45, 53, 50, 70]⟩ : ByteArray), .string (⟨#[71, 114, 101, 101, 107]⟩ : ByteArray), .string (⟨#[51, 55, 48, 45, 51, 55, 51, 32, 51, 55, 53, 45, 51, 55, 55, 32, 51, 55, 65, 45, 51, 55, 68, 32, 51, 55, 70, 32, 51, 56, 52, 32, 51, 56, 54, 32, 51, 56, 56, 45, 51, 56, 65, 32, 51, 56, 67, 32, 51, 56, 69, 45, 51, 65, 49, 32, 51, 65, 51, 45, 51, 69, 49, 32, 51, 70, 48, 45, 51, 70, 70, 32, 50, 49, 50, 54]⟩ : ByteArray), .string (⟨#[76]⟩ : ByteArray), .string (⟨#[52, 49, 45, 53, 65, 32, 67, 48, 45, 68, 54, 32, 68, 56, 45, 68, 69, 32, 49, 55, 56, 32, 51, 57, 49, 45, 51, 65, 49, 32, 51, 65, 51, 45, 51, 65, 66, 32, 52, 48, 48, 45, 52, 50, 70, 32, 54, 49, 45, 55, 65, 32, 66, 53, 32, 68, 70, 45, 70, 54, 32, 70, 56, 45, 70, 70, 32, 51, 65, 67, 45, 51, 67, 69, 32, 52, 51, 48, 45, 52, 53, 70, 32, 49, 55, 70, 32, 52, 49, 45, 53, 65, 32, 54, 49, 45, 55, 65, 32, 65, 65, 32, 66, 65, 32, 67, 48, 45, 68, 54, 32, 68, 56, 45, 70, 54, 32, 70, 56, 45, 50, 52, 70, 32, 51, 55, 48, 45, 51, 55, 51, 32, 51, 55, 53, 45, 51, 55, 55, 32, 51, 55, 65, 45, 51, 55, 68, 32, 51, 55, 70, 32, 51, 56, 52, 32, 51, 56, 54, 32, 51, 56, 56, 45, 51, 56, 65, 32, 51, 56, 67, 32, 51, 56, 69, 45, 51, 65, 49, 32, 51, 65, 51, 45, 51, 69, 49, 32, 51, 70, 48, 45, 51, 70, 70, 32, 50, 49, 50, 54, 32, 52, 48, 48, 45, 52, 56, 52, 32, 52, 56, 55, 45, 53, 50, 70]⟩ : ByteArray), .string (⟨#[76, 97, 116, 105, 110]⟩ : ByteArray), .string (⟨#[52, 49, 45, 53, 65, 32, 54, 49, 45, 55, 65, 32, 65, 65, 32, 66, 65, 32, 67, 48, 45, 68, 54, 32, 68, 56, 45, 70, 54, 32, 70, 56, 45, 50, 52, 70]⟩ : ByteArray), .string (⟨#[76, 108]⟩ : ByteArray), .string (⟨#[54, 49, 45, 55, 65, 32, 66, 53, 32, 68, 70, 45, 70, 54, 32, 70, 56, 45, 70, 70, 32, 51, 65, 67, 45, 51, 67, 69, 32, 52, 51, 48, 45, 52, 53, 70, 32, 49, 55, 70]⟩ : ByteArray), .string (⟨#[76, 117]⟩ : ByteArray), .string (⟨#[52, 49, 45, 53, 65, 32, 67, 48, 45, 68, 54, 32, 68, 56, 45, 68, 69, 32, 49, 55, 56, 32, 51, 57, 49, 45, 51, 65, 49, 32, 51, 65, 51, 45, 51, 65, 66, 32, 52, 48, 48, 45, 52, 50, 70]⟩ : ByteArray), .string (⟨#[78, 100]⟩ : ByteArray), .string (⟨#[51, 48, 45, 51, 57, 32, 54, 54, 48, 45, 54, 54, 57, 32, 54, 70, 48, 45, 54, 70, 57, 32, 57, 54, 54, 45, 57, 54, 70]⟩ : ByteArray)]) (ok := fun _ => True) (okp := fun _ => True) ?hr ?hp (fun _ hk => hk) trivial (Below.refl _ _) (Nat.le_refl _) (by simp) ?_; (case hd => rfl); (case hg => rfl); (case hr => first | (go_simp; done) | (go_simp; rfl)); (case hp => exact (Reps.c2 (show Kd.M k105 _ _ _ (⟨(⟨#[65, 110, 121]⟩ : ByteArray), (⟨#[48, 45, 49, 48, 70, 70, 70, 70]⟩ : ByteArray)⟩ : S105) [.string (⟨#[65, 110, 121]⟩ : ByteArray), .string (⟨#[48, 45, 49, 48, 70, 70, 70, 70]⟩ : ByteArray)] from (k105_mkM _ _ _ (⟨(⟨#[65, 110, 121]⟩ : ByteArray), (⟨#[48, 45, 49, 48, 70, 70, 70, 70]⟩ : ByteArray)⟩ : S105) )) (Reps.c2 (show Kd.M k105 _ _ _ (⟨(⟨#[67, 121, 114, 105, 108, 108, 105, 99]⟩ : ByteArray), (⟨#[52, 48, 48, 45, 52, 56, 52, 32, 52, 56, 55, 45, 53, 50, 70]⟩ : ByteArray)⟩ : S105) [.string (⟨#[67, 121, 114, 105, 108, 108, 105, 99]⟩ : ByteArray), .string (⟨#[52, 48, 48, 45, 52, 56, 52, 32, 52, 56, 55, 45, 53, 50, 70]⟩ : ByteArray)] from (k105_mkM _ _ _ (⟨(⟨#[67, 121, 114, 105, 108, 108, 105, 99]⟩ : ByteArray), (⟨#[52, 48, 48, 45, 52, 56, 52, 32, 52, 56, 55, 45, 53, 50, 70]⟩ : ByteArray)⟩ : S105) )) (Reps.c2 (show Kd.M k105 _ _ _ (⟨(⟨#[71, 114, 101, 101, 107]⟩ : ByteArray), (⟨#[51, 55, 48, 45, 51, 55, 51, 32, 51, 55, 53, 45, 51, 55, 55, 32, 51, 55, 65, 45, 51, 55, 68, 32, 51, 55, 70, 32, 51, 56, 52, 32, 51, 56, 54, 32, 51, 56, 56, 45, 51, 56, 65, 32, 51, 56, 67, 32, 51, 56, 69, 45, 51, 65, 49, 32, 51, 65, 51, 45, 51, 69, 49, 32, 51, 70, 48, 45, 51, 70, 70, 32, 50, 49, 50, 54]⟩ : ByteArray)⟩ : S105) [.string (⟨#[71, 114, 101, 101, 107]⟩ : ByteArray), .string (⟨#[51, 55, 48, 45, 51, 55, 51, 32, 51, 55, 53, 45, 51, 55, 55, 32, 51, 55, 65, 45, 51, 55, 68, 32, 51, 55, 70, 32, 51, 56, 52, 32, 51, 56, 54, 32, 51, 56, 56, 45, 51, 56, 65, 32, 51, 56, 67, 32, 51, 56, 69, 45, 51, 65, 49, 32, 51, 65, 51, 45, 51, 69, 49, 32, 51, 70, 48, 45, 51, 70, 70, 32, 50, 49, 50, 54]⟩ : ByteArray)] from (k105_mkM _ _ _ (⟨(⟨#[71, 114, 101, 101, 107]⟩ : ByteArray), (⟨#[51, 55, 48, 45, 51, 55, 51, 32, 51, 55, 53, 45, 51, 55, 55, 32, 51, 55, 65, 45, 51, 55, 68, 32, 51, 55, 70, 32, 51, 56, 52, 32, 51, 56, 54, 32, 51, 56, 56, 45, 51, 56, 65, 32, 51, 56, 67, 32, 51, 56, 69, 45, 51, 65, 49, 32, 51, 65, 51, 45, 51, 69, 49, 32, 51, 70, 48, 45, 51, 70, 70, 32, 50, 49, 50, 54]⟩ : ByteArray)⟩ : S105) )) (Reps.c2 (show Kd.M k105 _ _ _ (⟨(⟨#[76]⟩ : ByteArray), (⟨#[52, 49, 45, 53, 65, 32, 67, 48, 45, 68, 54, 32, 68, 56, 45, 68, 69, 32, 49, 55, 56, 32, 51, 57, 49, 45, 51, 65, 49, 32, 51, 65, 51, 45, 51, 65, 66, 32, 52, 48, 48, 45, 52, 50, 70, 32, 54, 49, 45, 55, 65, 32, 66, 53, 32, 68, 70, 45, 70, 54, 32, 70, 56, 45, 70, 70, 32, 51, 65, 67, 45, 51, 67, 69, 32, 52, 51, 48, 45, 52, 53, 70, 32, 49, 55, 70, 32, 52, 49, 45, 53, 65, 32, 54, 49, 45, 55, 65, 32, 65, 65, 32, 66, 65, 32, 67, 48, 45, 68, 54, 32, 68, 56, 45, 70, 54, 32, 70, 56, 45, 50, 52, 70, 32, 51, 55, 48, 45, 51, 55, 51, 32, 51, 55, 53, 45, 51, 55, 55, 32, 51, 55, 65, 45, 51, 55, 68, 32, 51, 55, 70, 32, 51, 56, 52, 32, 51, 56, 54, 32, 51, 56, 56, 45, 51, 56, 65, 32, 51, 56, 67, 32, 51, 56, 69, 45, 51, 65, 49, 32, 51, 65, 51, 45, 51, 69, 49, 32, 51, 70, 48, 45, 51, 70, 70, 32, 50, 49, 50, 54, 32, 52, 48, 48, 45, 52, 56, 52, 32, 52, 56, 55, 45, 53, 50, 70]⟩ : ByteArray)⟩ : S105) [.string (⟨#[76]⟩ : ByteArray), .string (⟨#[52, 49, 45, 53, 65, 32, 67, 48, 45, 68, 54, 32, 68, 56, 45, 68, 69, 32, 49, 55, 56, 32, 51, 57, 49, 45, 51, 65, 49, 32, 51, 65, 51, 45, 51, 65, 66, 32, 52, 48, 48, 45, 52, 50, 70, 32, 54, 49, 45, 55, 65, 32, 66, 53, 32, 68, 70, 45, 70, 54, 32, 70, 56, 45, 70, 70, 32, 51, 65, 67, 45, 51, 67, 69, 32, 52, 51, 48, 45, 52, 53, 70, 32, 49, 55, 70, 32, 52, 49, 45, 53, 65, 32, 54, 49, 45, 55, 65, 32, 65, 65, 32, 66, 65, 32, 67, 48, 45, 68, 54, 32, 68, 56, 45, 70, 54, 32, 70, 56, 45, 50, 52, 70, 32, 51, 55, 48, 45, 51, 55, 51, 32, 51, 55, 53, 45, 51, 55, 55, 32, 51, 55, 65, 45, 51, 55, 68, 32, 51, 55, 70, 32, 51, 56, 52, 32, 51, 56, 54, 32, 51, 56, 56, 45, 51, 56, 65, 32, 51, 56, 67, 32, 51, 56, 69, 45, 51, 65, 49, 32, 51, 65, 51, 45, 51, 69, 49, 32, 51, 70, 48, 45, 51, 70, 70, 32, 50, 49, 50, 54, 32, 52, 48, 48, 45, 52, 56, 52, 32, 52, 56, 55, 45, 53, 50, 70]⟩ : ByteArray)] from (k105_mkM _ _ _ (⟨(⟨#[76]⟩ : ByteArray), (⟨#[52, 49, 45, 53, 65, 32, 67, 48, 45, 68, 54, 32, 68, 56, 45, 68, 69, 32, 49, 55, 56, 32, 51, 57, 49, 45, 51, 65, 49, 32, 51, 65, 51, 45, 51, 65, 66, 32, 52, 48, 48, 45, 52, 50, 70, 32, 54, 49, 45, 55, 65, 32, 66, 53, 32, 68, 70, 45, 70, 54, 32, 70, 56, 45, 70, 70, 32, 51, 65, 67, 45, 51, 67, 69, 32, 52, 51, 48, 45, 52, 53, 70, 32, 49, 55, 70, 32, 52, 49, 45, 53, 65, 32, 54, 49, 45, 55, 65, 32, 65, 65, 32, 66, 65, 32, 67, 48, 45, 68, 54, 32, 68, 56, 45, 70, 54, 32, 70, 56, 45, 50, 52, 70, 32, 51, 55, 48, 45, 51, 55, 51, 32, 51, 55, 53, 45, 51, 55, 55, 32, 51, 55, 65, 45, 51, 55, 68, 32, 51, 55, 70, 32, 51, 56, 52, 32, 51, 56, 54, 32, 51, 56, 56, 45, 51, 56, 65, 32, 51, 56, 67, 32, 51, 56, 69, 45, 51, 65, 49, 32, 51, 65, 51, 45, 51, 69, 49, 32, 51, 70, 48, 45, 51, 70, 70, 32, 50, 49, 50, 54, 32, 52, 48, 48, 45, 52, 56, 52, 32, 52, 56, 55, 45, 53, 50, 70]⟩ : ByteArray)⟩ : S105) )) (Reps.c2 (show Kd.M k105 _ _ _ (⟨(⟨#[76, 97, 116, 105, 110]⟩ : ByteArray), (⟨#[52, 49, 45, 53, 65, 32, 54, 49, 45, 55, 65, 32, 65, 65, 32, 66, 65, 32, 67, 48, 45, 68, 54, 32, 68, 56, 45, 70, 54, 32, 70, 56, 45, 50, 52, 70]⟩ : ByteArray)⟩ : S105) [.string (⟨#[76, 97, 116, 105, 110]⟩ : ByteArray), .string (⟨#[52, 49, 45, 53, 65, 32, 54, 49, 45, 55, 65, 32, 65, 65, 32, 66, 65, 32, 67, 48, 45, 68, 54, 32, 68, 56, 45, 70, 54, 32, 70, 56, 45, 50, 52, 70]⟩ : ByteArray)] from (k105_mkM _ _ _ (⟨(⟨#[76, 97, 116, 105, 110]⟩ : ByteArray), (⟨#[52, 49, 45, 53, 65, 32, 54, 49, 45, 55, 65, 32, 65, 65, 32, 66, 65, 32, 67, 48, 45, 68, 54, 32, 68, 56, 45, 70, 54, 32, 70, 56, 45, 50, 52, 70]⟩ : ByteArray)⟩ : S105) )) (Reps.c2 (show Kd.M k105 _ _ _ (⟨(⟨#[76, 108]⟩ : ByteArray), (⟨#[54, 49, 45, 55, 65, 32, 66, 53, 32, 68, 70, 45, 70, 54, 32, 70, 56, 45, 70, 70, 32, 51, 65, 67, 45, 51, 67, 69, 32, 52, 51, 48, 45, 52, 53, 70, 32, 49, 55, 70]⟩ : ByteArray)⟩ : S105) [.string (⟨#[76, 108]⟩ : ByteArray), .string (⟨#[54, 49, 45, 55, 65, 32, 66, 53, 32, 68, 70, 45, 70, 54, 32, 70, 56, 45, 70, 70, 32, 51, 65, 67, 45, 51, 67, 69, 32, 52, 51, 48, 45, 52, 53, 70, 32, 49, 55, 70]⟩ : ByteArray)] from (k105_mkM _ _ _ (⟨(⟨#[76, 108]⟩ : ByteArray), (⟨#[54, 49, 45, 55, 65, 32, 66, 53, 32, 68, 70, 45, 70, 54, 32, 70, 56, 45, 70, 70, 32, 51, 65, 67, 45, 51, 67, 69, 32, 52, 51, 48, 45, 52, 53, 70, 32, 49, 55, 70]⟩ : ByteArray)⟩ : S105) )) (Reps.c2 (show Kd.M k105 _ _ _ (⟨(⟨#[76, 117]⟩ : ByteArray), (⟨#[52, 49, 45, 53, 65, 32, 67, 48, 45, 68, 54, 32, 68, 56, 45, 68, 69, 32, 49, 55, 56, 32, 51, 57, 49, 45, 51, 65, 49, 32, 51, 65, 51, 45, 51, 65, 66, 32, 52, 48, 48, 45, 52, 50, 70]⟩ : ByteArray)⟩ : S105) [.string (⟨#[76, 117]⟩ : ByteArray), .string (⟨#[52, 49, 45, 53, 65, 32, 67, 48, 45, 68, 54, 32, 68, 56, 45, 68, 69, 32, 49, 55, 56, 32, 51, 57, 49, 45, 51, 65, 49, 32, 51, 65, 51, 45, 51, 65, 66, 32, 52, 48, 48, 45, 52, 50, 70]⟩ : ByteArray)] from (k105_mkM _ _ _ (⟨(⟨#[76, 117]⟩ : ByteArray), (⟨#[52, 49, 45, 53, 65, 32, 67, 48, 45, 68, 54, 32, 68, 56, 45, 68, 69, 32, 49, 55, 56, 32, 51, 57, 49, 45, 51, 65, 49, 32, 51, 65, 51, 45, 51, 65, 66, 32, 52, 48, 48, 45, 52, 50, 70]⟩ : ByteArray)⟩ : S105) )) (Reps.c2 (show Kd.M k105 _ _ _ (⟨(⟨#[78, 100]⟩ : ByteArray), (⟨#[51, 48, 45, 51, 57, 32, 54, 54, 48, 45, 54, 54, 57, 32, 54, 70, 48, 45, 54, 70, 57, 32, 57, 54, 54, 45, 57, 54, 70]⟩ : ByteArray)⟩ : S105) [.string (⟨#[78, 100]⟩ : ByteArray), .string (⟨#[51, 48, 45, 51, 57, 32, 54, 54, 48, 45, 54, 54, 57, 32, 54, 70, 48, 45, 54, 70, 57, 32, 57, 54, 54, 45, 57, 54, 70]⟩ : ByteArray)] from (k105_mkM _ _ _ (⟨(⟨#[78, 100]⟩ : ByteArray), (⟨#[51, 48, 45, 51, 57, 32, 54, 54, 48, 45, 54, 54, 57, 32, 54, 70, 48, 45, 54, 70, 57, 32, 57, 54, 54, 45, 57, 54, 70]⟩ : ByteArray)⟩ : S105) )) (Reps.none _ _)))))))))); intro v167 w1 ho2 hb hg_ hnew_; clear hg_ hnew_; (first | rw [← Ny166.out] at ho2 | (simp only [Int.reduceToNat] at ho2; rw [← Ny166.out] at ho2)); have n0_ := Aside0.mk (Kd.R_lower ho2 (below_size (by repeat (first | (with_reducible first | exact HB.out | apply below_alloc | apply pw_below_drewN | apply below_drew1) | exact HB.out)))); have n1_ := Aside0.mk (below_step (by repeat (first | (with_reducible first | exact HB.out | apply below_alloc | apply pw_below_drewN | apply below_drew1) | exact HB.out)) hb); clear HB; have HO168 := n0_; have HB := n1_; clear n0_ n1_; clear hb ho2))
 go_ret
 exact ⟨_, by first | rfl | (simp [errW_none, errW_some] <;> rfl) | (simp [*, errW_none, errW_some] <;> rfl), by (with_reducible repeat (first | apply Kd.R_alloc | apply Kd.R_drewN | apply Kd.R_drew)); exact HO168.out, by repeat (first | (with_reducible first | exact HB.out | apply below_alloc | apply pw_below_drewN | apply below_drew1) | exact HB.out)⟩
def class_Property.f (k : Nat) (a0 : ByteArray) : Option ((List (S36)) × Int) := (class_properties.f).bind fun t169 => ((class_turned.f k t169 a0).bind fun bt172 => (some (bt172.1, bt172.2)))
theorem class_Property.mono : ∀ a0 k, LeO (class_Property.f k a0) (class_Property.f (k + 1) a0) := by
 intro a0 k
 unfold class_Property.f
 repeat' first
   | (with_reducible exact class_turned.mono _ _ _)
   | (with_reducible exact LeO.refl _)
   | (with_reducible exact LeO.none _)
   | (with_reducible refine LeO.ite ?_ ?_)
   | (with_reducible refine LeO.bind ?_ (fun _ => ?_))
   | exact class_turned.mono _ _ _
   | exact LeO.none _
   | refine LeO.ite ?_ ?_
   | refine LeO.bind ?_ (fun _ => ?_)
set_option maxHeartbeats 8000000 in
set_option maxRecDepth 100000 in
theorem class_Property.calls (k : Nat) (a0 : ByteArray) (r1 : List (S36)) (r2 : Int) (w : World) (h : class_Property.f k a0 = some (r1, r2)) :
  Calls Tryz.prog 59 #[.string a0] w fun e w' => ∃ v0_ : Value, e = .returned (.tuple #[v0_, .int .i64 r2]) ∧ Kd.R k36 36 w' w.heap.size (fun _ => True) v0_ r1 ∧ Below w.heap.size w w' := by
 have HB := Aside0.mk (Below.refl w.heap.size w)
 have H : ((class_properties.f).bind fun t169 => ((class_turned.f k t169 a0).bind fun bt172 => (some (bt172.1, bt172.2)))) = some (r1, r2) := h
 clear h
 replace H := Option.bind_eq_some_iff.mp H
 obtain ⟨t169, A20, H⟩ := H
 replace H : ((class_turned.f k t169 a0).bind fun bt172 => (some (bt172.1, bt172.2))) = some (r1, r2) := H
 have A2 := Aside0.mk A20
 clear A20
 replace H := Option.bind_eq_some_iff.mp H
 obtain ⟨⟨t172, t173⟩, A30, H⟩ := H
 replace H : (some (t172, t173)) = some (r1, r2) := H
 have A3 := Aside0.mk A30
 clear A30
 simp only [Option.some.injEq, Prod.mk.injEq] at H
 obtain ⟨rfl, rfl⟩ := H
 go_enter Tryz.func59, Tryz.ntmps59
 go_wp2_with (first | ((with_reducible refine gate_callee (f := 89) rfl ?_); refine goesL_ (some 4) rfl rfl Tryz.func89 (by kernel_rfl) rfl #[] rfl (by (try simp only [List.map_toArray, List.map_cons, List.map_nil]); first | done | rfl | (simp only [List.length_drop, List.length_take]; rfl)) ?_; (with_reducible refine (class_properties.calls  t169 _ A2.out).mono ?_); rintro e w4 ⟨v170, rfl, ho0, hb⟩; refine ⟨_, rfl, ?_⟩; have n0_ := Aside0.mk (Kd.R_lower ho0 (below_size (by repeat (first | (with_reducible first | exact HB.out | apply below_alloc | apply pw_below_drewN | apply below_drew1) | exact HB.out)))); have n1_ := Aside0.mk (below_step (by repeat (first | (with_reducible first | exact HB.out | apply below_alloc | apply pw_below_drewN | apply below_drew1) | exact HB.out)) hb); clear HB; have HO171 := n0_; have HB := n1_; clear n0_ n1_; (try clear hb); (try clear hb2); (try clear hk); (try clear hi); (try clear ho0); obtain ⟨Ao5, co5, eo5⟩ := Kd.R_slice HO171.out; subst eo5) | ((with_reducible refine gate_callee (f := 58) rfl ?_); refine goesL_ (some 6) rfl rfl Tryz.func58 (by kernel_rfl) rfl #[.slice Ao5 t169.length co5, .string a0] rfl (by (try simp only [List.map_toArray, List.map_cons, List.map_nil]); first | done | rfl | (simp only [List.length_drop, List.length_take]; rfl)) ?_; (with_reducible refine (class_turned.calls k _ _ t169 a0 t172 t173 _ ?side1 ?side2 A3.out).mono ?_); (case side1 => repeat (first | exact (Kd.R_reads' HO171.out).2.2 | (with_reducible refine Kd.C_alloc ?_ _) | (with_reducible refine Kd.C_drewN ?_ _) | (with_reducible refine Kd.C_drew ?_))); (case side2 => exact (Kd.R_reads' HO171.out).2.1); rintro e w6 ⟨v174, rfl, ho0, hb⟩; refine ⟨_, rfl, ?_⟩; have n0_ := Aside0.mk (Kd.R_below (by (with_reducible repeat (first | apply Kd.R_alloc | apply Kd.R_drewN | apply Kd.R_drew)); exact HO171.out) hb); have n1_ := Aside0.mk (Kd.R_lower ho0 (below_size (by repeat (first | (with_reducible first | exact HB.out | apply below_alloc | apply pw_below_drewN | apply below_drew1) | exact HB.out)))); have n2_ := Aside0.mk (below_step (by repeat (first | (with_reducible first | exact HB.out | apply below_alloc | apply pw_below_drewN | apply below_drew1) | exact HB.out)) hb); clear HO171; clear HB; have HO171 := n0_; have HO175 := n1_; have HB := n2_; clear n0_ n1_ n2_; (try clear hb); (try clear hb2); (try clear hk); (try clear hi); (try clear ho0)))
 go_ret2
 exact ⟨_, by first | rfl | (simp [errW_none, errW_some] <;> rfl) | (simp [*, errW_none, errW_some] <;> rfl), by (with_reducible repeat (first | apply Kd.R_alloc | apply Kd.R_drewN | apply Kd.R_drew)); exact HO175.out, by repeat (first | (with_reducible first | exact HB.out | apply below_alloc | apply pw_below_drewN | apply below_drew1) | exact HB.out)⟩
def bracket_property.j0 : Nat → ByteArray → Int → ByteArray → Option ((List (S36)) × Int × Int)
 | 0, _, _, _ => none
 | k + 1, x0, x3, x5 => (class_Property.f k x5).bind fun bt178 => (if bt178.2 = 0 then (if 1 < (x0.size : Int) then (if (bt x0 1) = 80 then ((ranges_Not.f k bt178.1).bind fun t182 => (some (t182, x3, 0))) else (some (bt178.1, x3, 0))) else (none)) else (some (([] : List (S36)), 0, bt178.2)))
def bracket_property.f (k : Nat) (a0 : ByteArray) : Option ((List (S36)) × Int × Int) := if (a0.size : Int) = 2 then (some (([] : List (S36)), 0, 82)) else (if 2 ≤ 3 then (if 3 ≤ (a0.size : Int) then (if 2 < (a0.size : Int) then (if (bt a0 2) = 123 then ((strings_IndexByte.f a0 125).bind fun t176 => (if t176 < 0 then (some (([] : List (S36)), 0, 82)) else (if 3 ≤ t176 then (if t176 ≤ (a0.size : Int) then (bracket_property.j0 k a0 (wrap64 (t176 + 1)) (a0.extract 3 (t176 : Int).toNat)) else (none)) else (none)))) else ((bracket_letter.f (bt a0 2)).bind fun t177 => (if t177 = true then (bracket_property.j0 k a0 3 (a0.extract 2 3)) else (some (([] : List (S36)), 0, 70))))) else (none)) else (none)) else (none))
theorem bracket_property.mono_l : ∀ k, (∀ y0 y1 y2, LeO (bracket_property.j0 k y0 y1 y2) (bracket_property.j0 (k + 1) y0 y1 y2))
 | 0 => fun _ _ _ r h => by simp [bracket_property.j0] at h
 | k + 1 => by
  have ih0 := bracket_property.mono_l k
  ·intro y0 y1 y2
   unfold bracket_property.j0
   repeat' first
   | (with_reducible exact ih0 _ _ _)
   | (with_reducible exact class_Property.mono _ _)
   | (with_reducible exact ranges_Not.mono _ _)
   | (with_reducible exact LeO.refl _)
   | (with_reducible exact LeO.none _)
   | (with_reducible refine LeO.ite ?_ ?_)
   | (with_reducible refine LeO.bind ?_ (fun _ => ?_))
   | exact ih0 _ _ _
   | exact class_Property.mono _ _
   | exact ranges_Not.mono _ _
   | exact LeO.none _
   | refine LeO.ite ?_ ?_
   | refine LeO.bind ?_ (fun _ => ?_)
theorem bracket_property.mono : ∀ a0 k, LeO (bracket_property.f k a0) (bracket_property.f (k + 1) a0) := by
 intro a0 k
 have ih0 := bracket_property.mono_l k
 unfold bracket_property.f
 repeat' first
   | (with_reducible exact ih0 _ _ _)
   | (with_reducible exact class_Property.mono _ _)
   | (with_reducible exact ranges_Not.mono _ _)
   | (with_reducible exact LeO.refl _)
   | (with_reducible exact LeO.none _)
   | (with_reducible refine LeO.ite ?_ ?_)
   | (with_reducible refine LeO.bind ?_ (fun _ => ?_))
   | exact ih0 _ _ _
   | exact class_Property.mono _ _
   | exact ranges_Not.mono _ _
   | exact LeO.none _
   | refine LeO.ite ?_ ?_
   | refine LeO.bind ?_ (fun _ => ?_)
set_option maxHeartbeats 8000000 in
set_option maxRecDepth 100000 in
theorem bracket_property.calls (k : Nat) (a0 : ByteArray) (r1 : List (S36)) (r2 : Int) (r3 : Int) (w : World) (h : bracket_property.f k a0 = some (r1, r2, r3)) :
  Calls Tryz.prog 31 #[.string a0] w fun e w' => ∃ v0_ : Value, e = .returned (.tuple #[v0_, .int .i64 r2, .int .i64 r3]) ∧ Kd.R k36 36 w' w.heap.size (fun _ => True) v0_ r1 ∧ Below w.heap.size w w' := by
 have HB := Aside0.mk (Below.refl w.heap.size w)
 have H : (if (a0.size : Int) = 2 then (some (([] : List (S36)), 0, 82)) else (if 2 ≤ 3 then (if 3 ≤ (a0.size : Int) then (if 2 < (a0.size : Int) then (if (bt a0 2) = 123 then ((strings_IndexByte.f a0 125).bind fun t176 => (if t176 < 0 then (some (([] : List (S36)), 0, 82)) else (if 3 ≤ t176 then (if t176 ≤ (a0.size : Int) then (bracket_property.j0 k a0 (wrap64 (t176 + 1)) (a0.extract 3 (t176 : Int).toNat)) else (none)) else (none)))) else ((bracket_letter.f (bt a0 2)).bind fun t177 => (if t177 = true then (bracket_property.j0 k a0 3 (a0.extract 2 3)) else (some (([] : List (S36)), 0, 70))))) else (none)) else (none)) else (none))) = some (r1, r2, r3) := h
 clear h
 by_cases c2 : (a0.size : Int) = 2
 ·rw [if_pos c2] at H
  have c2b0 : ((a0.size : Int) == 2) = true := beq_iff_eq.mpr c2
  have c2b1 : ((a0.size : Int) != 2) = false := bne_eq_false_iff_eq.mpr c2
  clear c2
  simp only [Option.some.injEq, Prod.mk.injEq] at H
  obtain ⟨rfl, rfl, rfl⟩ := H
  go_enter Tryz.func31, Tryz.ntmps31
  go_wp2
  go_ret3
  exact ⟨_, by first | rfl | (simp [errW_none, errW_some] <;> rfl) | (simp [*, errW_none, errW_some] <;> rfl), by first | exact Kd.R_nil _ _ _ _ _ | exact Kd.N_nil _ _ _ _ _ | exact Kd.V_nil _ _ _ _ _ | exact Kd.Q_nil _ _ _ _ _ | exact Kd.S_nil _ _ _ _ _, by repeat (first | (with_reducible first | exact HB.out | apply below_alloc | apply pw_below_drewN | apply below_drew1) | exact HB.out)⟩
 ·rw [if_neg c2] at H
  have c2b0 : ((a0.size : Int) == 2) = false := beq_eq_false_iff_ne.mpr c2
  have c2b1 : ((a0.size : Int) != 2) = true := bne_iff_ne.mpr c2
  by_cases c3 : 2 ≤ 3
  ·rw [if_pos c3] at H
   have c3b0 := eq_true c3
   have c3b1 : decide (2 ≤ 3) = true := decide_eq_true c3
   clear c3
   by_cases c4 : 3 ≤ (a0.size : Int)
   ·rw [if_pos c4] at H
    have c4b0 := eq_true c4
    have c4b1 : decide (3 ≤ (a0.size : Int)) = true := decide_eq_true c4
    clear c4
    by_cases c5 : 2 < (a0.size : Int)
    ·rw [if_pos c5] at H
     have c5b0 : decide (2 < (a0.size : Int)) = true := decide_eq_true c5
     have c5b1 : decide (2 < a0.size) = true := decide_eq_true (by omega)
     clear c5
     have HC7 := Aside0.mk H
     clear H
     have p6 : 0 ≤ (2 : Int) := (by omega)
     have q6 : 2 < a0.size := (by have : (2 : Int) < (a0.size : Int) := of_decide_eq_true (by first | (with_reducible assumption) | assumption); omega)
     have hx6 : ∀ h : 2 < a0.size, ((a0[2]'h).toNat : Int) = bt a0 2 := bt_at a0 2
     clear p6
     have qi6 : (2 < (a0.size : Int)) = True := eq_true (of_decide_eq_true (by first | (with_reducible assumption) | assumption))
     replace q6 := eq_true q6
     go_enter Tryz.func31, Tryz.ntmps31
     go_upto_if 14 with (fail)
     go_cut [3, 5] (fun v3 v5 wc => ∃ (kq : Nat) (x3_6 : Int) (x5_6 : ByteArray), v3 = .int .i64 x3_6 ∧ v5 = .string x5_6 ∧ Aside0 (bracket_property.j0 kq a0 x3_6 x5_6 = some (r1, r2, r3)) ∧ Aside0 (kq ≤ k) ∧ Aside0 (Below w.heap.size w wc))
     case first =>
      have H := HC7.out
      clear HC7
      by_cases c8 : (bt a0 2) = 123
      ·rw [if_pos c8] at H
       have c8b0 : ((bt a0 2) == 123) = true := beq_iff_eq.mpr c8
       have c8b1 : ((bt a0 2) != 123) = false := bne_eq_false_iff_eq.mpr c8
       clear c8
       (first | rw [c8b0] | (simp only [i64_w, i32_w]; rw [c8b0]) | skip)
       replace H := Option.bind_eq_some_iff.mp H
       obtain ⟨t176, A90, H⟩ := H
       replace H : (if t176 < 0 then (some (([] : List (S36)), 0, 82)) else (if 3 ≤ t176 then (if t176 ≤ (a0.size : Int) then (bracket_property.j0 k a0 (wrap64 (t176 + 1)) (a0.extract 3 (t176 : Int).toNat)) else (none)) else (none))) = some (r1, r2, r3) := H
       have A9 := Aside0.mk A90
       clear A90
       by_cases c10 : t176 < 0
       ·rw [if_pos c10] at H
        have c10b0 : decide (t176 < 0) = true := decide_eq_true c10
        clear c10
        simp only [Option.some.injEq, Prod.mk.injEq] at H
        obtain ⟨rfl, rfl, rfl⟩ := H
        go_wp2_with (first | ((with_reducible refine gate_callee (f := 23) rfl ?_); refine goesL_ (some 16) rfl rfl Tryz.func23 (by kernel_rfl) rfl #[.string a0, .int .u8 125] rfl (by (try simp only [List.map_toArray, List.map_cons, List.map_nil]); first | done | rfl | (simp only [List.length_drop, List.length_take]; rfl)) ?_; (with_reducible refine (strings_IndexByte.calls a0 125 t176 _ A9.out).mono ?_); rintro e w11 ⟨rfl, hb⟩; refine ⟨_, rfl, ?_⟩; have n0_ := Aside0.mk (below_step (by repeat (first | (with_reducible first | exact HB.out | apply below_alloc | apply pw_below_drewN | apply below_drew1) | exact HB.out)) hb); clear HB; have HB := n0_; clear n0_; (try clear hb); (try clear hb2); (try clear hk); (try clear hi)))
        go_ret3
        exact ⟨_, by first | rfl | (simp [errW_none, errW_some] <;> rfl) | (simp [*, errW_none, errW_some] <;> rfl), by first | exact Kd.R_nil _ _ _ _ _ | exact Kd.N_nil _ _ _ _ _ | exact Kd.V_nil _ _ _ _ _ | exact Kd.Q_nil _ _ _ _ _ | exact Kd.S_nil _ _ _ _ _, by repeat (first | (with_reducible first | exact HB.out | apply below_alloc | apply pw_below_drewN | apply below_drew1) | exact HB.out)⟩
       ·rw [if_neg c10] at H
        have c10b0 : decide (t176 < 0) = false := decide_eq_false c10
        clear c10
        by_cases c12 : 3 ≤ t176
        ·rw [if_pos c12] at H
         have c12b0 := eq_true c12
         have c12b1 : decide (3 ≤ t176) = true := decide_eq_true c12
         clear c12
         by_cases c13 : t176 ≤ (a0.size : Int)
         ·rw [if_pos c13] at H
          have c13b0 := eq_true c13
          have c13b1 : decide (t176 ≤ (a0.size : Int)) = true := decide_eq_true c13
          clear c13
          have H' := Aside0.mk H
          clear H
          go_wp2_with (first | ((with_reducible refine gate_callee (f := 23) rfl ?_); refine goesL_ (some 16) rfl rfl Tryz.func23 (by kernel_rfl) rfl #[.string a0, .int .u8 125] rfl (by (try simp only [List.map_toArray, List.map_cons, List.map_nil]); first | done | rfl | (simp only [List.length_drop, List.length_take]; rfl)) ?_; (with_reducible refine (strings_IndexByte.calls a0 125 t176 _ A9.out).mono ?_); rintro e w14 ⟨rfl, hb⟩; refine ⟨_, rfl, ?_⟩; have n0_ := Aside0.mk (below_step (by repeat (first | (with_reducible first | exact HB.out | apply below_alloc | apply pw_below_drewN | apply below_drew1) | exact HB.out)) hb); clear HB; have HB := n0_; clear n0_; (try clear hb); (try clear hb2); (try clear hk); (try clear hi)))
          go_meet
          case rel => exact ⟨_, (wrap64 (t176 + 1)), (a0.extract 3 (t176 : Int).toNat), (by first | rfl | (simp; done) | (simp [*]; done)), (by first | rfl | (simp; done) | (simp [*]; done)), H', ⟨by first | omega | exact Nat.le_refl _⟩, ⟨by repeat (first | (with_reducible first | exact HB.out | apply below_alloc | apply pw_below_drewN | apply below_drew1) | exact HB.out)⟩⟩
         ·rw [if_neg c13] at H
          exact absurd H (by simp)
        ·rw [if_neg c12] at H
         exact absurd H (by simp)
      ·rw [if_neg c8] at H
       have c8b0 : ((bt a0 2) == 123) = false := beq_eq_false_iff_ne.mpr c8
       have c8b1 : ((bt a0 2) != 123) = true := bne_iff_ne.mpr c8
       (first | rw [c8b0] | (simp only [i64_w, i32_w]; rw [c8b0]) | skip)
       replace H := Option.bind_eq_some_iff.mp H
       obtain ⟨t177, A160, H⟩ := H
       replace H : (if t177 = true then (bracket_property.j0 k a0 3 (a0.extract 2 3)) else (some (([] : List (S36)), 0, 70))) = some (r1, r2, r3) := H
       have A16 := Aside0.mk A160
       clear A160
       by_cases c17 : t177 = true
       ·subst c17
        have H1 : (bracket_property.j0 k a0 3 (a0.extract 2 3)) = some (r1, r2, r3) := by rw [if_pos rfl] at H; exact H
        clear H
        have H := H1
        clear H1
        have H' := Aside0.mk H
        clear H
        have p15 : 0 ≤ (2 : Int) := (by omega)
        have q15 : 2 < a0.size := (by have : (2 : Int) < (a0.size : Int) := of_decide_eq_true (by first | (with_reducible assumption) | assumption); omega)
        have hx15 : ∀ h : 2 < a0.size, ((a0[2]'h).toNat : Int) = bt a0 2 := bt_at a0 2
        clear p15
        have qi15 : (2 < (a0.size : Int)) = True := eq_true (of_decide_eq_true (by first | (with_reducible assumption) | assumption))
        replace q15 := eq_true q15
        go_wp2_with (first | ((with_reducible refine gate_callee (f := 27) rfl ?_); refine goesL_ (some 26) rfl rfl Tryz.func27 (by kernel_rfl) rfl #[.int .u8 (bt a0 2)] rfl (by (try simp only [List.map_toArray, List.map_cons, List.map_nil]); first | done | rfl | (simp only [List.length_drop, List.length_take]; rfl)) ?_; (with_reducible refine (bracket_letter.calls (bt a0 2) true _ A16.out).mono ?_); rintro e w' ⟨rfl, ⟨nd, rfl⟩⟩; refine ⟨_, rfl, ?_⟩))
        go_meet
        case rel => exact ⟨_, (3), (a0.extract 2 3), (by first | rfl | (simp; done) | (simp [*]; done)), (by first | rfl | (simp; done) | (simp [*]; done)), H', ⟨by first | omega | exact Nat.le_refl _⟩, ⟨by repeat (first | (with_reducible first | exact HB.out | apply below_alloc | apply pw_below_drewN | apply below_drew1) | exact HB.out)⟩⟩
       ·replace c17 := Bool.eq_false_iff.mpr c17
        subst c17
        have H1 : (some (([] : List (S36)), 0, 70)) = some (r1, r2, r3) := by rw [if_neg (show ¬ (false = true) by decide)] at H; exact H
        clear H
        have H := H1
        clear H1
        simp only [Option.some.injEq, Prod.mk.injEq] at H
        obtain ⟨rfl, rfl, rfl⟩ := H
        have p15 : 0 ≤ (2 : Int) := (by omega)
        have q15 : 2 < a0.size := (by have : (2 : Int) < (a0.size : Int) := of_decide_eq_true (by first | (with_reducible assumption) | assumption); omega)
        have hx15 : ∀ h : 2 < a0.size, ((a0[2]'h).toNat : Int) = bt a0 2 := bt_at a0 2
        clear p15
        have qi15 : (2 < (a0.size : Int)) = True := eq_true (of_decide_eq_true (by first | (with_reducible assumption) | assumption))
        replace q15 := eq_true q15
        go_wp2_with (first | ((with_reducible refine gate_callee (f := 27) rfl ?_); refine goesL_ (some 26) rfl rfl Tryz.func27 (by kernel_rfl) rfl #[.int .u8 (bt a0 2)] rfl (by (try simp only [List.map_toArray, List.map_cons, List.map_nil]); first | done | rfl | (simp only [List.length_drop, List.length_take]; rfl)) ?_; (with_reducible refine (bracket_letter.calls (bt a0 2) false _ A16.out).mono ?_); rintro e w' ⟨rfl, ⟨nd, rfl⟩⟩; refine ⟨_, rfl, ?_⟩))
        go_ret3
        exact ⟨_, by first | rfl | (simp [errW_none, errW_some] <;> rfl) | (simp [*, errW_none, errW_some] <;> rfl), by first | exact Kd.R_nil _ _ _ _ _ | exact Kd.N_nil _ _ _ _ _ | exact Kd.V_nil _ _ _ _ _ | exact Kd.Q_nil _ _ _ _ _ | exact Kd.S_nil _ _ _ _ _, by repeat (first | (with_reducible first | exact HB.out | apply below_alloc | apply pw_below_drewN | apply below_drew1) | exact HB.out)⟩
     case rest =>
      clear HC7
      try clear c1
      try clear p1
      try clear q1
      try clear hx1
      try clear qi1
      try clear c2
      try clear c2b0
      try clear c2b1
      try clear p2
      try clear c3
      try clear c3b0
      try clear c3b1
      try clear c4
      try clear c4b0
      try clear c4b1
      try clear c5
      try clear c5b0
      try clear c5b1
      try clear p6
      try clear q6
      try clear hx6
      try clear qi6
      try clear c8
      try clear c8b0
      try clear c8b1
      try clear c10
      try clear c10b0
      try clear c12
      try clear c12b0
      try clear c12b1
      try clear c13
      try clear c13b0
      try clear c13b1
      try clear p15
      try clear q15
      try clear hx15
      try clear qi15
      try clear c17
      try clear p15
      try clear p6
      try clear q15
      try clear q6
      obtain ⟨kq, x3_6, x5_6, rfl, rfl, HA, HJ6, HB⟩ := hcut
      cases kq with
      | zero => exact absurd HA.out (by simp [bracket_property.j0])
      | succ kj6 =>
       have H := HA.out
       clear HA
       simp only [bracket_property.j0] at H
       replace H := Option.bind_eq_some_iff.mp H
       obtain ⟨⟨t178, t179⟩, A180, H⟩ := H
       replace H : (if t179 = 0 then (if 1 < (a0.size : Int) then (if (bt a0 1) = 80 then ((ranges_Not.f kj6 t178).bind fun t182 => (some (t182, x3_6, 0))) else (some (t178, x3_6, 0))) else (none)) else (some (([] : List (S36)), 0, t179))) = some (r1, r2, r3) := H
       have A18 := Aside0.mk A180
       clear A180
       by_cases c19 : t179 = 0
       ·rw [if_pos c19] at H
        have c19b0 : (t179 == 0) = true := beq_iff_eq.mpr c19
        have c19b1 : (t179 != 0) = false := bne_eq_false_iff_eq.mpr c19
        clear c19
        by_cases c20 : 1 < (a0.size : Int)
        ·rw [if_pos c20] at H
         have c20b0 : decide (1 < (a0.size : Int)) = true := decide_eq_true c20
         have c20b1 : decide (1 < a0.size) = true := decide_eq_true (by omega)
         clear c20
         by_cases c22 : (bt a0 1) = 80
         ·rw [if_pos c22] at H
          have c22b0 : ((bt a0 1) == 80) = true := beq_iff_eq.mpr c22
          have c22b1 : ((bt a0 1) != 80) = false := bne_eq_false_iff_eq.mpr c22
          clear c22
          replace H := Option.bind_eq_some_iff.mp H
          obtain ⟨t182, A230, H⟩ := H
          replace H : (some (t182, x3_6, 0)) = some (r1, r2, r3) := H
          have A23 := Aside0.mk A230
          clear A230
          simp only [Option.some.injEq, Prod.mk.injEq] at H
          obtain ⟨rfl, rfl, rfl⟩ := H
          go_wp2_with (first | ((with_reducible refine gate_callee (f := 59) rfl ?_); refine goesL_ (some 30) rfl rfl Tryz.func59 (by kernel_rfl) rfl #[.string x5_6] rfl (by (try simp only [List.map_toArray, List.map_cons, List.map_nil]); first | done | rfl | (simp only [List.length_drop, List.length_take]; rfl)) ?_; (with_reducible refine (class_Property.calls kj6 x5_6 t178 t179 _ A18.out).mono ?_); rintro e w24 ⟨v180, rfl, ho0, hb⟩; refine ⟨_, rfl, ?_⟩; have n0_ := Aside0.mk (Kd.R_lower ho0 (below_size (by repeat (first | (with_reducible first | exact HB.out | apply below_alloc | apply pw_below_drewN | apply below_drew1) | exact HB.out)))); have n1_ := Aside0.mk (below_step (by repeat (first | (with_reducible first | exact HB.out | apply below_alloc | apply pw_below_drewN | apply below_drew1) | exact HB.out)) hb); clear HB; have HO181 := n0_; have HB := n1_; clear n0_ n1_; (try clear hb); (try clear hb2); (try clear hk); (try clear hi); (try clear ho0); have p21 : 0 ≤ (1 : Int) := (by omega); have q21 : 1 < a0.size := (by have : (1 : Int) < (a0.size : Int) := of_decide_eq_true (by first | (with_reducible assumption) | assumption); omega); have hx21 : ∀ h : 1 < a0.size, ((a0[1]'h).toNat : Int) = bt a0 1 := bt_at a0 1; clear p21; have qi21 : (1 < (a0.size : Int)) = True := eq_true (of_decide_eq_true (by first | (with_reducible assumption) | assumption)); replace q21 := eq_true q21; obtain ⟨Ao25, co25, eo25⟩ := Kd.R_slice HO181.out; subst eo25) | ((with_reducible refine gate_callee (f := 19) rfl ?_); refine goesL_ (some 40) rfl rfl Tryz.func19 (by kernel_rfl) rfl #[.slice Ao25 t178.length co25] rfl (by (try simp only [List.map_toArray, List.map_cons, List.map_nil]); first | done | rfl | (simp only [List.length_drop, List.length_take]; rfl)) ?_; (with_reducible refine (ranges_Not.calls kj6 _ _ t178 t182 _ ?side1 ?side2 A23.out).mono ?_); (case side1 => repeat (first | exact (Kd.R_reads' HO181.out).2.2 | (with_reducible refine Kd.C_alloc ?_ _) | (with_reducible refine Kd.C_drewN ?_ _) | (with_reducible refine Kd.C_drew ?_))); (case side2 => exact (Kd.R_reads' HO181.out).2.1); rintro e w26 ⟨v183, rfl, ho0, hb⟩; refine ⟨_, rfl, ?_⟩; have n0_ := Aside0.mk (Kd.R_elder' (by (with_reducible repeat (first | apply Kd.R_alloc | apply Kd.R_drewN | apply Kd.R_drew)); exact HO181.out) (Kd.R_base ho0) hb); have n1_ := Aside0.mk (Kd.R_lower (Kd.R_new' ho0 (Kd.R_lt (by (with_reducible repeat (first | apply Kd.R_alloc | apply Kd.R_drewN | apply Kd.R_drew)); exact HO181.out))) (below_size (by repeat (first | (with_reducible first | exact HB.out | apply below_alloc | apply pw_below_drewN | apply below_drew1) | exact HB.out)))); have n2_ := Aside0.mk (below_step (by repeat (first | (with_reducible first | exact HB.out | apply below_alloc | apply pw_below_drewN | apply below_drew1) | exact HB.out)) hb); clear HO181; clear HB; have HO181 := n0_; have HO184 := n1_; have HB := n2_; clear n0_ n1_ n2_; (try clear hb); (try clear hb2); (try clear hk); (try clear hi); (try clear ho0)))
          go_ret3
          exact ⟨_, by first | rfl | (simp [errW_none, errW_some] <;> rfl) | (simp [*, errW_none, errW_some] <;> rfl), by (with_reducible repeat (first | apply Kd.R_alloc | apply Kd.R_drewN | apply Kd.R_drew)); exact Kd.R_mono HO184.out (fun _ hk => trivial), by repeat (first | (with_reducible first | exact HB.out | apply below_alloc | apply pw_below_drewN | apply below_drew1) | exact HB.out)⟩
         ·rw [if_neg c22] at H
          have c22b0 : ((bt a0 1) == 80) = false := beq_eq_false_iff_ne.mpr c22
          have c22b1 : ((bt a0 1) != 80) = true := bne_iff_ne.mpr c22
          simp only [Option.some.injEq, Prod.mk.injEq] at H
          obtain ⟨rfl, rfl, rfl⟩ := H
          go_wp2_with (first | ((with_reducible refine gate_callee (f := 59) rfl ?_); refine goesL_ (some 30) rfl rfl Tryz.func59 (by kernel_rfl) rfl #[.string x5_6] rfl (by (try simp only [List.map_toArray, List.map_cons, List.map_nil]); first | done | rfl | (simp only [List.length_drop, List.length_take]; rfl)) ?_; (with_reducible refine (class_Property.calls kj6 x5_6 t178 t179 _ A18.out).mono ?_); rintro e w27 ⟨v180, rfl, ho0, hb⟩; refine ⟨_, rfl, ?_⟩; have n0_ := Aside0.mk (Kd.R_lower ho0 (below_size (by repeat (first | (with_reducible first | exact HB.out | apply below_alloc | apply pw_below_drewN | apply below_drew1) | exact HB.out)))); have n1_ := Aside0.mk (below_step (by repeat (first | (with_reducible first | exact HB.out | apply below_alloc | apply pw_below_drewN | apply below_drew1) | exact HB.out)) hb); clear HB; have HO181 := n0_; have HB := n1_; clear n0_ n1_; (try clear hb); (try clear hb2); (try clear hk); (try clear hi); (try clear ho0); have p21 : 0 ≤ (1 : Int) := (by omega); have q21 : 1 < a0.size := (by have : (1 : Int) < (a0.size : Int) := of_decide_eq_true (by first | (with_reducible assumption) | assumption); omega); have hx21 : ∀ h : 1 < a0.size, ((a0[1]'h).toNat : Int) = bt a0 1 := bt_at a0 1; clear p21; have qi21 : (1 < (a0.size : Int)) = True := eq_true (of_decide_eq_true (by first | (with_reducible assumption) | assumption)); replace q21 := eq_true q21))
          go_ret3
          exact ⟨_, by first | rfl | (simp [errW_none, errW_some] <;> rfl) | (simp [*, errW_none, errW_some] <;> rfl), by (with_reducible repeat (first | apply Kd.R_alloc | apply Kd.R_drewN | apply Kd.R_drew)); exact HO181.out, by repeat (first | (with_reducible first | exact HB.out | apply below_alloc | apply pw_below_drewN | apply below_drew1) | exact HB.out)⟩
        ·rw [if_neg c20] at H
         exact absurd H (by simp)
       ·rw [if_neg c19] at H
        have c19b0 : (t179 == 0) = false := beq_eq_false_iff_ne.mpr c19
        have c19b1 : (t179 != 0) = true := bne_iff_ne.mpr c19
        simp only [Option.some.injEq, Prod.mk.injEq] at H
        obtain ⟨rfl, rfl, rfl⟩ := H
        go_wp2_with (first | ((with_reducible refine gate_callee (f := 59) rfl ?_); refine goesL_ (some 30) rfl rfl Tryz.func59 (by kernel_rfl) rfl #[.string x5_6] rfl (by (try simp only [List.map_toArray, List.map_cons, List.map_nil]); first | done | rfl | (simp only [List.length_drop, List.length_take]; rfl)) ?_; (with_reducible refine (class_Property.calls kj6 x5_6 t178 t179 _ A18.out).mono ?_); rintro e w28 ⟨v180, rfl, ho0, hb⟩; refine ⟨_, rfl, ?_⟩; have n0_ := Aside0.mk (Kd.R_lower ho0 (below_size (by repeat (first | (with_reducible first | exact HB.out | apply below_alloc | apply pw_below_drewN | apply below_drew1) | exact HB.out)))); have n1_ := Aside0.mk (below_step (by repeat (first | (with_reducible first | exact HB.out | apply below_alloc | apply pw_below_drewN | apply below_drew1) | exact HB.out)) hb); clear HB; have HO181 := n0_; have HB := n1_; clear n0_ n1_; (try clear hb); (try clear hb2); (try clear hk); (try clear hi); (try clear ho0)))
        go_ret3
        exact ⟨_, by first | rfl | (simp [errW_none, errW_some] <;> rfl) | (simp [*, errW_none, errW_some] <;> rfl), by first | exact Kd.R_nil _ _ _ _ _ | exact Kd.N_nil _ _ _ _ _ | exact Kd.V_nil _ _ _ _ _ | exact Kd.Q_nil _ _ _ _ _ | exact Kd.S_nil _ _ _ _ _, by repeat (first | (with_reducible first | exact HB.out | apply below_alloc | apply pw_below_drewN | apply below_drew1) | exact HB.out)⟩
    ·rw [if_neg c5] at H
     exact absurd H (by simp)
   ·rw [if_neg c4] at H
    exact absurd H (by simp)
  ·rw [if_neg c3] at H
   exact absurd H (by simp)
end Go.Proofs.YtheheijhijeljaaGreatDoor.HBracketWrites

