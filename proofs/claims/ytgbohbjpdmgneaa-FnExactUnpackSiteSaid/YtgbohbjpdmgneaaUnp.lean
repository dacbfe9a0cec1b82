/- Numbers read back from their bytes: the program's reader. -/
import Derived.Test.YtgbohbjpdmgneaaUnpL
import Derived.Laws.Strings2
namespace Go.Proofs.Ytgbohbjpdmgneaa
open Go.RowKit

def bs (l : List UInt8) : ByteArray := ⟨l.toArray⟩
/-- Block b is a reader that has 'l' left. -/
def Un (b : Nat) (l : List UInt8) (bad : Bool) (w : World) : Prop := w.heap[b]? = some (.cells #[.string (bs l), .bool bad] 159 (0, 0))
theorem Un.c0 {b : Nat} {l : List UInt8} {bad : Bool} {w : World} (h : Un b l bad w) : w.cell? ⟨b, 0, none⟩ = some (.string (bs l)) := by rw [Lib.cell_of_heap h]; rfl
theorem Un.c1 {b : Nat} {l : List UInt8} {bad : Bool} {w : World} (h : Un b l bad w) : w.cell? ⟨b, 1, none⟩ = some (.bool bad) := by rw [Lib.cell_of_heap h]; rfl
theorem Un.f {b : Nat} {l : List UInt8} {bad : Bool} {w : World} (h : Un b l bad w) (j : Nat) : w.frozen? ⟨b, j, none⟩ = false := Lib.frozen_of_heap h j
theorem Un.setBad {b : Nat} {l : List UInt8} {bad : Bool} {w : World} (h : Un b l bad w) (x : Bool) : Un b l x (w.setCell ⟨b, 1, none⟩ (.bool x)) := by
  unfold Un at *
  simp [World.setCell, Array.getElem?_modify, h]
theorem Un.setRest {b : Nat} {l : List UInt8} {bad : Bool} {w : World} (h : Un b l bad w) (x : List UInt8) : Un b x bad (w.setCell ⟨b, 0, none⟩ (.string (bs x))) := by
  unfold Un at *
  simp [World.setCell, Array.getElem?_modify, h]
theorem Un.lt {b : Nat} {l : List UInt8} {bad : Bool} {w : World} (h : Un b l bad w) : b < w.heap.size := (Array.getElem?_eq_some_iff.1 h).1

set_option maxHeartbeats 1000000 in
theorem oneByte_nil (b : Nat) (bad : Bool) (w : World) (h : Un b [] bad w) :
    Calls Try.prog 114 #[.pointer (some ⟨b, 0, none⟩)] w fun e w' => e = .returned (.int .i64 0) ∧ Un b [] true w' ∧ Mod b (b + 1) w w' := by
  have c0 := h.c0
  have c1 := h.c1
  have f1 := h.f 1
  have Hfin := Lib.hid (h.setBad true)
  unfold bs at c0
  clear h
  go_enter Try.func114, Try.ntmps114
  go_wp2
  go_ret
  exact ⟨rfl, Hfin.out, (Mod.refl _ _ _).setCell (p := ⟨b, 1, none⟩) (Nat.le_refl _) (Nat.lt_succ_self _) _⟩

set_option maxHeartbeats 1000000 in
theorem oneByte_cons (b : Nat) (c : UInt8) (l : List UInt8) (bad : Bool) (w : World) (h : Un b (c :: l) bad w) (hl : l.length ≤ 1048576) :
    Calls Try.prog 114 #[.pointer (some ⟨b, 0, none⟩)] w fun e w' => e = .returned (.int .i64 c.toNat) ∧ Un b l bad w' ∧ Mod b (b + 1) w w' := by
  have c0 := h.c0
  have c1 := h.c1
  have f0 := h.f 0
  have Hfin := Lib.hid (h.setRest l)
  have hsz : (bs (c :: l)).size = l.length + 1 := by simp [bs, ByteArray.size]
  have hne : (bs (c :: l)).toList.isEmpty = false := by simp [bs]
  have hg := Lib.hid (show ∀ h : 0 < (bs (c :: l)).size, (bs (c :: l))[0]'h = c from fun h => rfl)
  have hx : (bs (c :: l)).extract 1 (l.length + 1) = bs l := by unfold bs; rw [ByteArray.extract_mk]; simp
  have hw : wrap64 (c.toNat : Int) = c.toNat := by have := c.toNat_lt; unfold wrap64; omega
  have Hw := Lib.hid hw
  clear hw
  generalize bs (c :: l) = s at *
  clear h
  go_enter Try.func114, Try.ntmps114
  go_wp2
  go_ret
  refine ⟨ret_int ?_, ?_, (Mod.refl _ _ _).setCell (p := ⟨b, 0, none⟩) (Nat.le_refl _) (Nat.lt_succ_self _) _⟩
  · show wrap64 (s[0].toNat : Int) = _
    rw [hg.out]; exact Hw.out
  · first | exact Hfin.out | (rw [hx]; exact Hfin.out)
end Go.Proofs.Ytgbohbjpdmgneaa
