/- Decimal numbers, the program's writing. -/
import Derived.Test.YtijpghlkbfmefaaDoorDecS
import Derived.Test.YtijpghlkbfmefaaDoorShelf
import Derived.WalkSmall
import Derived.Lib.LaidTab
namespace Go.Proofs.YtijpghlkbfmefaaDoor
open Go.RowKit
/-- The table of powers of ten as the library lays it. -/
def P10 (w : World) : Prop := Lib.TabIs Tryd.prog w "internal/strconv.uint64pow10" .u64 Lib.pow10Tab
theorem g10 : Tryd.prog.globalNamed "internal/strconv.uint64pow10" = some 0 := by kernel_rfl
theorem P10.lt {w : World} (h : P10 w) : 0 < w.heap.size :=
  World.block_lt_of_cell? w ⟨0, 0, none⟩ (u := .int .u64 1) (by rw [World.var?_cell g10 h 0]; rfl)
theorem P10.ext {w w' : World} (h : P10 w) (hb : Below w.heap.size w w') : P10 w' := var?_below hb g10 h.lt h
theorem P10.mod {w w' : World} {lo hi : Nat} (h : P10 w) (hm : Mod lo hi w w') (hlo : 0 < lo) : P10 w' :=
  var?_below (B := 0 + 1) (hm.below (by omega) h.lt) g10 (Nat.lt_succ_self _) h
theorem grow_below (w : World) (k : Nat) (os : Array Obj) : Below w.heap.size w (Go.Sort.grow (w.drewN k) os) :=
  ⟨rfl, rfl, rfl, by simp, fun b hb => Go.Sort.heap_grow_old (w.drewN k) os hb⟩
theorem impl_Dec (n : Int) (w : World) (hn : I64 n) (h10 : P10 w) : Calls Tryd.prog 40 #[.int .i64 n] w fun e w' => e = .returned (.string (decStr n)) ∧ Below w.heap.size w w' := by
  have H := Lib.hid (Tryd.strconv_FormatInt_10 n hn.1 hn.2 w h10)
  clear h10
  go_enter Tryd.func40, Tryd.ntmps40
  go_wp2_with fail
  refine H.out.mono ?_
  rintro e w1 ⟨rfl, k, os, rfl⟩
  have hb := grow_below w k os
  generalize Go.Sort.grow (w.drewN k) os = w1 at *
  go_wp2
  go_ret
  exact ⟨rfl, hb⟩
end Go.Proofs.YtijpghlkbfmefaaDoor
