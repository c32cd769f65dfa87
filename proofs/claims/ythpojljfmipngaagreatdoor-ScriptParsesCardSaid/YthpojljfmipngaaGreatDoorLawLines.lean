/-
  THE WALK of ScriptLines. CONDITION: Env.
-/
import Derived.Test.YthpojljfmipngaaGreatDoorWalkT
namespace Go.Proofs.YthpojljfmipngaaGreatDoor
open Go.RowKit
theorem str_take (s : ByteArray) (n : Nat) : s.extract 0 n = ⟨(s.data.toList.take n).toArray⟩ := by
  have := Lib.extract_eq s 0 n
  simpa using this
theorem app_str (x y : Sc.Bs) : (⟨x.toArray⟩ ++ ⟨y.toArray⟩ : ByteArray) = ⟨(x ++ y).toArray⟩ := by
  apply ByteArray.ext
  simp
end Go.Proofs.YthpojljfmipngaaGreatDoor
