/- []string: the laws' helpers. -/
import Derived.Test.YtmglcdmccikinaaDoorChecked
import Derived.Test.YtmglcdmccikinaaDoorOwn
import Derived.Test.YtmglcdmccikinaaDoorOpen
import Derived.Test.YtmglcdmccikinaaDoorMarkT
import Derived.Test.YtmglcdmccikinaaDoorNumW
import Derived.Handy
namespace Go.Proofs.YtmglcdmccikinaaDoor
open Go.RowKit
def strC (s : ByteArray) : List Value := [.string s]
theorem strC_len (s : ByteArray) : (strC s).length = 1 := rfl
theorem strC_one (s : ByteArray) : ∀ u ∈ strC s, u.oneCell' = true := by intro u hu; simp [strC] at hu; subst hu; rfl
abbrev Strs := Sl 1 strC
theorem Strs.at {w : World} {b off : Nat} {l : List ByteArray} (hc : ∀ i (h : i < l.length) j u, (strC l[i])[j]? = some u → w.cell? ⟨b, off + i * 1 + j, none⟩ = some u) {k : Nat} (hk : k < l.length) : w.cell? ⟨b, off + k, none⟩ = some (.string l[k]) := by
  have := hc k hk 0 _ rfl
  simpa using this
end Go.Proofs.YtmglcdmccikinaaDoor
