/- strings.Builder, in place of its bytes: copyCheck, WriteByte and String, at a block of a builder or of a struct whose one field it is. -/
import Derived.Test.YtmglcdmccikinaaDoorBase
import Derived.Test.YtmglcdmccikinaaDoorProg
import Derived.Lib.FrozenHead2
import Derived.Lib.MakeNoZero
import Derived.Shelf.Strings.Builder1
import Derived.Lib.Bytealg
import Derived.Laws.Externs
import Derived.RegionTactic
import Derived.OwnWalk
namespace Go.Proofs.YtmglcdmccikinaaDoor
open Go.RowKit

/-- Types of blocks that a builder may lie at the head of. -/
def BdT (T : TypeId) : Prop := liesAt Tryd.prog Tryd.prog.depth T (2 / Tryd.prog.cellsOf T) 0 61 1 = true ∧ T ≠ 5
theorem bdT_builder : BdT 61 := ⟨by kernel_rfl, by decide⟩

/-- Block 'b' (from B on) is a builder that holds the bytes l. -/
def Bd (T : TypeId) (B b : Nat) (l : List UInt8) (w : World) : Prop := Lib.IsBuilderF T 5 B b (Lib.byteCells l) w

theorem bd_new {T : TypeId} {w : World} {B : Nat} (hB : B ≤ w.heap.size) : Bd T B w.heap.size [] (w.alloc (.cells #[.pointer none, .slice none 0 0] T (0, 0))) :=
  .inl ⟨hB, .slice none 0 0, by show (w.heap.push _)[_]? = _; exact Array.getElem?_push_size, World.ownsRowF_nil _ _ _ _, by simp [Value.ownBlock]⟩
theorem Bd.lt {T : TypeId} {B b : Nat} {l : List UInt8} {w : World} (h : Bd T B b l w) : b < w.heap.size := by
  rcases h with h | h <;> exact h.lt
theorem Bd.ge {T : TypeId} {B b : Nat} {l : List UInt8} {w : World} (h : Bd T B b l w) : B ≤ b := by
  rcases h with h | h <;> exact h.1
theorem Bd.drew {T : TypeId} {B b : Nat} {l : List UInt8} {w : World} (h : Bd T B b l w) : Bd T B b l w.drew := h
theorem Bd.alloc {T : TypeId} {B b : Nat} {l : List UInt8} {w : World} (h : Bd T B b l w) (o : Obj) : Bd T B b l (w.alloc o) :=
  h.elim (fun h => .inl (h.alloc o)) (fun h => .inr (h.alloc o))

set_option maxHeartbeats 1000000 in
set_option maxRecDepth 100000 in
theorem copyCheck_used (b : Nat) (w : World) (h0 : w.cell? ⟨b, 0, none⟩ = some (.pointer (some ⟨b, 0, none⟩))) :
    Calls Tryd.prog 46 #[.pointer (some ⟨b, 0, none⟩)] w fun e w' => e = .returned (.tuple #[]) ∧ w' = w := by
  have hsz : (Tryd.prog.info? 61).map (·.size) = some 2 := by kernel_rfl
  obtain ⟨j, hj, _⟩ := Option.map_eq_some_iff.1 hsz
  go_enter Tryd.func46, Tryd.ntmps46
  go_wp2
  rw [Lib.run_neq_ptr_same w _ Tryd.underlying58 hj]
  go_wp2
  go_end0
  exact ⟨rfl, rfl⟩

set_option maxHeartbeats 1000000 in
set_option maxRecDepth 100000 in
theorem copyCheck_fresh {T : TypeId} (hT : BdT T) (b : Nat) (w : World) (h0 : w.cell? ⟨b, 0, none⟩ = some (.pointer none)) (hsh : w.shape? b = some (T, 2)) (hfz : w.frozen? ⟨b, 0, none⟩ = false) :
    Calls Tryd.prog 46 #[.pointer (some ⟨b, 0, none⟩)] w fun e w' => e = .returned (.tuple #[]) ∧ w' = w.setCell ⟨b, 0, none⟩ (.pointer (some ⟨b, 0, none⟩)) := by
  have hsz : (Tryd.prog.info? 61).map (·.size) = some 2 := by kernel_rfl
  obtain ⟨j, hj, hjs⟩ := Option.map_eq_some_iff.1 hsz
  go_enter Tryd.func46, Tryd.ntmps46
  go_wp2
  rw [Lib.run_to_unsafe w ⟨b, 0, none⟩ Tryd.underlying58 Tryd.underlying77 hj (by rw [hjs]; decide) hsh (Nat.zero_lt_succ 1)]
  simp only [Result.andThen]
  rw [Oper.upon_value]
  go_wp2
  rw [run_callFunc_extern Tryd.func52 (by kernel_rfl) (by kernel_rfl) (by kernel_rfl) (e := Extern.AbiNoEscape.same) (by kernel_rfl)]
  rw [Lib.run_noEscape]
  simp only [Result.andThen]
  rw [Oper.upon_value]
  go_wp2
  rw [Lib.run_from_unsafe w ⟨b, 0, none⟩ Tryd.underlying77 Tryd.underlying58 hj hsh hT.1]
  simp only [Result.andThen]
  rw [Oper.upon_value]
  go_wp2
  go_end0
  exact ⟨rfl, rfl⟩

theorem copyCheck {T : TypeId} (hT : BdT T) (B b : Nat) (l : List UInt8) (w : World) (h : Bd T B b l w) :
    Calls Tryd.prog 46 #[.pointer (some ⟨b, 0, none⟩)] w fun e w' => e = .returned (.tuple #[]) ∧ Lib.BuilderAtF T 5 B b (.pointer (some ⟨b, 0, none⟩)) (Lib.byteCells l) w' ∧ Below B w w' := by
  rcases h with h | h
  · refine (copyCheck_fresh hT b w h.cell0 h.shape h.frozen0).mono ?_
    rintro e w' ⟨rfl, rfl⟩
    exact ⟨rfl, h.used _, (Below.refl B w).setCell (p := ⟨b, 0, none⟩) h.1 _⟩
  · refine (copyCheck_used b w h.cell0).mono ?_
    rintro e w' ⟨rfl, rfl⟩
    exact ⟨rfl, h, Below.refl B _⟩

end Go.Proofs.YtmglcdmccikinaaDoor
