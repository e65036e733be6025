import Derived.Test.YtjajehjhonabdaaXShelfR
import Derived.Test.YtjajehjhonabdaaProg
namespace Go.Proofs.YtjajehjhonabdaaX
open Go.RowKit Go.Shelf
theorem repeat_extra : Builder.Extra Try.prog Try.lay_repeat_ren where
  sizeBuilder := by kernel_rfl
  liesBuilder := by kernel_rfl
  t5 := Try.lay_repeat.t5
  a5 := Try.lay_repeat.a5
  z5 := Try.lay_repeat.z5
  v5 := Try.lay_repeat.v5
  infoByte := by kernel_rfl
  cellsByte := by kernel_rfl
  sizeByte := by kernel_rfl
  neB5 := by decide
def repS (s : ByteArray) (c : Nat) : ByteArray := ⟨(Lib.repeatL s.data.toList c).toArray⟩
theorem repS_size (s : ByteArray) (c : Nat) : (repS s c).size = c * s.size := by
  show (Lib.repeatL s.data.toList c).toArray.size = _
  rw [List.size_toArray, Lib.repeatL_length]
  rfl
theorem repeat_at (s : ByteArray) (c : Nat) (w : World) (hc : c ≤ 9223372036854775807) (hlen : s.size * c ≤ 140737488355328) :
    Calls Try.prog 15 #[.string s, .int .i64 c] w fun e w' => e = .returned (.string (repS s c)) ∧ Below w.heap.size w w' :=
  Any.strings_Repeat Try.lay_repeat repeat_extra s c w hc hlen
end Go.Proofs.YtjajehjhonabdaaX
