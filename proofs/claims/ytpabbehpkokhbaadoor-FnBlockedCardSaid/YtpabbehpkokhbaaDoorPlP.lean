/- The numbers of a crane, and where it may stand: plain. -/
import Derived.Test.YtpabbehpkokhbaaDoorBase
namespace Go.Proofs.YtpabbehpkokhbaaDoor
structure CraneF where
  name : ByteArray
  x : Int
  y : Int
  height : Int
  jib : Int
  back : Int
deriving DecidableEq
def Pl (x y : Int) : Prop := (-10000 ≤ x ∧ x ≤ 10000) ∧ (-10000 ≤ y ∧ y ≤ 10000)
instance (x y : Int) : Decidable (Pl x y) := by unfold Pl; infer_instance
end Go.Proofs.YtpabbehpkokhbaaDoor
