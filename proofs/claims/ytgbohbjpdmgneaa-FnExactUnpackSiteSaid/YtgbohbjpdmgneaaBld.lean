/- strings.Builder, in place of its bytes: copyCheck, WriteByte and String, at a block of a builder or of a struct whose one field it is. -/
import Derived.Test.YtgbohbjpdmgneaaBase
import Derived.Test.YtgbohbjpdmgneaaProg
import Derived.Lib.FrozenHead2
import Derived.Lib.MakeNoZero
import Derived.Shelf.Strings.Builder1
import Derived.Lib.Bytealg
import Derived.Laws.Externs
import Derived.RegionTactic
import Derived.OwnWalk
namespace Go.Proofs.Ytgbohbjpdmgneaa
open Go.RowKit

/-- Types of blocks that a builder may lie at the head of. -/
def BdT (T : TypeId) : Prop := liesAt Try.prog Try.prog.depth T (2 / Try.prog.cellsOf T) 0 103 1 = true ∧ T ≠ 5
theorem bdT_builder : BdT 103 := ⟨by kernel_rfl, by decide⟩

/-- Block 'b' (from B on) is a builder that holds the bytes l. -/
def Bd (T : TypeId) (B b : Nat) (l : List UInt8) (w : World) : Prop := Lib.IsBuilderF T 5 B b (Lib.byteCells l) w

theorem bd_new {T : TypeId} {w : World} {B : Nat} (hB : B ≤ w.heap.size) : Bd T B w.heap.size [] (w.alloc (.cells #[.pointer none, .slice none 0 0] T (0, 0))) :=
  .inl ⟨hB, .slice none 0 0, by show (w.heap.push _)[_]? = _; exact Array.getElem?_push_size, World.ownsRowF_nil _ _ _ _, by simp [Value.ownBlock]⟩
theorem Bd.lt {T : TypeId} {B b : Nat} {l : List UInt8} {w : World} (h : Bd T B b l w) : b < w.heap.size := by
  rcases h with h | h <;> exact h.lt
theorem Bd.ge {T : TypeId} {B b : Nat} {l : List UInt8} {w : World} (h : Bd T B b l w) : B ≤ b := by
  rcases h with h | h <;> exact h.1
theorem Bd.drew {T : TypeId} {B b : Nat} {l : List UInt8} {w : World} (h : Bd T B b l w) : Bd T B b l w.drew := h
theorem Bd.alloc {T : TypeId} {B b : Nat} {l : List UInt8} {w : World} (h : Bd T B b l w) (o : Obj) : Bd T B b l (w.alloc o) :=
  h.elim (fun h => .inl (h.alloc o)) (fun h => .inr (h.alloc o))

set_option maxHeartbeats 1000000 in
set_option maxRecDepth 100000 in
theorem copyCheck_used (b : Nat) (w : World) (h0 : w.cell? ⟨b, 0, none⟩ = some (.pointer (some ⟨b, 0, none⟩))) :
    Calls Try.prog 136 #[.pointer (some ⟨b, 0, none⟩)] w fun e w' => e = .returned (.tuple #[]) ∧ w' = w := by
  have hsz : (Try.prog.info? 103).map (·.size) = some 2 := by kernel_rfl
  obtain ⟨j, hj, _⟩ := Option.map_eq_some_iff.1 hsz
  go_enter Try.func136, Try.ntmps136
  go_wp2
  rw [Lib.run_neq_ptr_same w _ Try.underlying101 hj]
  go_wp2
  go_end0
  exact ⟨rfl, rfl⟩

set_option maxHeartbeats 1000000 in
set_option maxRecDepth 100000 in
theorem copyCheck_fresh {T : TypeId} (hT : BdT T) (b : Nat) (w : World) (h0 : w.cell? ⟨b, 0, none⟩ = some (.pointer none)) (hsh : w.shape? b = some (T, 2)) (hfz : w.frozen? ⟨b, 0, none⟩ = false) :
    Calls Try.prog 136 #[.pointer (some ⟨b, 0, none⟩)] w fun e w' => e = .returned (.tuple #[]) ∧ w' = w.setCell ⟨b, 0, none⟩ (.pointer (some ⟨b, 0, none⟩)) := by
  have hsz : (Try.prog.info? 103).map (·.size) = some 2 := by kernel_rfl
  obtain ⟨j, hj, hjs⟩ := Option.map_eq_some_iff.1 hsz
  go_enter Try.func136, Try.ntmps136
  go_wp2
  rw [Lib.run_to_unsafe w ⟨b, 0, none⟩ Try.underlying101 Try.underlying209 hj (by rw [hjs]; decide) hsh (Nat.zero_lt_succ 1)]
  simp only [Result.andThen]
  rw [Oper.upon_value]
  go_wp2
  rw [run_callFunc_extern Try.func175 (by kernel_rfl) (by kernel_rfl) (by kernel_rfl) (e := Extern.AbiNoEscape.same) (by kernel_rfl)]
  rw [Lib.run_noEscape]
  simp only [Result.andThen]
  rw [Oper.upon_value]
  go_wp2
  rw [Lib.run_from_unsafe w ⟨b, 0, none⟩ Try.underlying209 Try.underlying101 hj hsh hT.1]
  simp only [Result.andThen]
  rw [Oper.upon_value]
  go_wp2
  go_end0
  exact ⟨rfl, rfl⟩

theorem copyCheck {T : TypeId} (hT : BdT T) (B b : Nat) (l : List UInt8) (w : World) (h : Bd T B b l w) :
    Calls Try.prog 136 #[.pointer (some ⟨b, 0, none⟩)] w fun e w' => e = .returned (.tuple #[]) ∧ Lib.BuilderAtF T 5 B b (.pointer (some ⟨b, 0, none⟩)) (Lib.byteCells l) w' ∧ Below B w w' := by
  rcases h with h | h
  · refine (copyCheck_fresh hT b w h.cell0 h.shape h.frozen0).mono ?_
    rintro e w' ⟨rfl, rfl⟩
    exact ⟨rfl, h.used _, (Below.refl B w).setCell (p := ⟨b, 0, none⟩) h.1 _⟩
  · refine (copyCheck_used b w h.cell0).mono ?_
    rintro e w' ⟨rfl, rfl⟩
    exact ⟨rfl, h, Below.refl B _⟩

set_option maxHeartbeats 2000000 in
set_option maxRecDepth 100000 in
theorem bd_writeByte {T : TypeId} (hT : BdT T) (B b : Nat) (l : List UInt8) (x : UInt8) (w : World) (h : Bd T B b l w) (hlen : l.length + 1 ≤ 140737488355328) (hBw : B ≤ w.heap.size) :
    Calls Try.prog 66 #[.pointer (some ⟨b, 0, none⟩), .int .u8 x.toNat] w fun e w' => e = .returned .nilIface ∧ Bd T B b (l ++ [x]) w' ∧ Below B w w' := by
  have hinfo : (Try.prog.info? 5).map (fun i => (i.zero, i.size, i.bytes)) = some (some (.int .u8 0), 1, 1) := by kernel_rfl
  obtain ⟨i0, hi, hz0, hz1, hz2⟩ := info_parts hinfo
  have hcc := fun w' h' => copyCheck hT B b l w' h'
  go_enter Try.func66, Try.ntmps66
  go_wp2_with (go_at_call 136; refine (hcc _ h).mono ?_)
  rintro e w1 ⟨rfl, h1, hb1⟩
  obtain ⟨hB, v, hbk, hown, hne⟩ := h1
  rw [Lib.byteCells_length] at hown
  have c0 : w1.cell? ⟨b, 0, none⟩ = some (.pointer (some ⟨b, 0, none⟩)) := by rw [Lib.cell_of_heap hbk]; rfl
  have c1 : w1.cell? ⟨b, 1, none⟩ = some v := by rw [Lib.cell_of_heap hbk]; rfl
  go_wp2_with (at_builtin; refine wpList_append_ownF _ rfl _ _ 41 rfl B 5 i0 (.int .u8 0) 1 1 Try.underlying41 hi hz0 hz1 hz2 rfl (by decide) _ _ _ rfl (hown.alloc _) ⟨w1.heap.size, 0, none⟩ 1 1 [.int .u8 x.toNat] rfl rfl ?c1 ?c2 ?c3 ?c4 ?c5 ?_)
  case c1 =>
    intro j u hj
    match j, hj with
    | 0, hj => simp at hj; subst hj; simp [Addr.add]
  case c2 => intro u hu; simp at hu; subst hu; rfl
  case c3 => unfold maxLen; omega
  case c4 => omega
  case c5 => have := hb1.size; simp; omega
  intro v' w2 hown' hgrow _
  have hlt : b < w1.heap.size := by
    rcases Nat.lt_or_ge b w1.heap.size with h' | h'
    · exact h'
    · simp [Array.getElem?_eq_none h'] at hbk
  have hb2 : w2.heap[b]? = some (.cells #[.pointer (some ⟨b, 0, none⟩), v] T (0, 0)) := by
    rw [hgrow.block b (by simp; omega) (fun e => hne e.symm), Lib.alloc_old w1 _ b hlt]
    exact hbk
  have d0 : w2.cell? ⟨b, 0, none⟩ = some (.pointer (some ⟨b, 0, none⟩)) := by rw [Lib.cell_of_heap hb2]; rfl
  have d1 : w2.cell? ⟨b, 1, none⟩ = some v := by rw [Lib.cell_of_heap hb2]; rfl
  have f1 : w2.frozen? ⟨b, 1, none⟩ = false := Lib.frozen_of_heap hb2 1
  obtain ⟨g, cap, rfl⟩ : ∃ g cap, v' = .slice (some ⟨g, 0, none⟩) (l.length + 1) cap := by
    rcases hown'.2 with ⟨_, h0⟩ | ⟨g, cap, cur, fz, hv, _⟩
    · omega
    · exact ⟨g, cap, hv⟩
  go_wp2
  go_ret
  refine ⟨rfl, .inr ?_, ?_⟩
  · have e : Lib.byteCells (l ++ [x]) = Lib.byteCells l ++ [.int .u8 x.toNat] := by simp [Lib.byteCells]
    rw [e]
    exact Lib.BuilderAtF.put (T := T) (e := 5) hB hb2 (bs' := Lib.byteCells l ++ [.int .u8 x.toNat]) (by simpa [Lib.byteCells_length] using hown') hT.2
  · exact ((hb1.alloc (by have := hb1.size; omega) _).grown hgrow (by have := hb1.size; simp; omega) (fun k hk => (hown.lt k hk).1)).setCell (p := ⟨b, 1, none⟩) hB _
end Go.Proofs.Ytgbohbjpdmgneaa
