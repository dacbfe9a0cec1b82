/- strings.Builder: WriteString, and what it leaves as it was. -/
import Derived.Test.YtmglcdmccikinaaDoorBld
import Derived.Test.YtmglcdmccikinaaDoorBldS
namespace Go.Proofs.YtmglcdmccikinaaDoor
open Go.RowKit
/-- Blocks but b that hold no bytes are as they were. -/
def KeepB (b : Nat) (w w' : World) : Prop := ∀ (k : Nat) (cs : Array Value) (t : TypeId) (fz : Nat × Nat), w.heap[k]? = some (.cells cs t fz) → t ≠ 5 → k ≠ b → w'.heap[k]? = w.heap[k]?
theorem KeepB.refl (b : Nat) (w : World) : KeepB b w w := fun _ _ _ _ _ _ _ => rfl
theorem KeepB.trans {b : Nat} {x y z : World} (h : KeepB b x y) (h2 : KeepB b y z) : KeepB b x z := fun k cs t fz hk ht hb => by
  have h3 := h k cs t fz hk ht hb
  exact (h2 k cs t fz (h3.trans hk) ht hb).trans h3
theorem KeepB.setCell (b o : Nat) (w : World) (u : Value) : KeepB b w (w.setCell ⟨b, o, none⟩ u) := fun _ _ _ _ _ _ hb => Below.heap_setCell _ _ _ _ hb
theorem KeepB.grownF {b B n : Nat} {xs : List Value} {w w' : World} {v : Value} {cs : Array Value} (hown : w.ownsRowF B 5 1 v n xs) (hg : (w.alloc (.cells cs 5)).grownBy w' v.ownBlock) : KeepB b w w' := fun k cs' t fz hk ht _ => by
  have hlt := (Array.getElem?_eq_some_iff.1 hk).1
  rw [hg.block k (by simp; omega) (fun e => by
    rcases hown.2 with ⟨rfl, _⟩ | ⟨g, cap, cur, fz', rfl, _, hgh, _⟩
    · simp [Value.ownBlock] at e
    · simp [Value.ownBlock] at e
      subst e
      rw [hk] at hgh; cases hgh; exact ht rfl)]
  exact ((Below.refl w.heap.size w).alloc (Nat.le_refl _) _).block k hlt
theorem KeepB.grownF0 {b B n : Nat} {xs : List Value} {w w' : World} {v : Value} (hown : w.ownsRowF B 5 1 v n xs) (hg : w.grownBy w' v.ownBlock) : KeepB b w w' := fun k cs' t fz hk ht _ =>
  hg.block k (Array.getElem?_eq_some_iff.1 hk).1 (fun e => by
    rcases hown.2 with ⟨rfl, _⟩ | ⟨g, cap, cur, fz', rfl, _, hgh, _⟩
    · simp [Value.ownBlock] at e
    · simp [Value.ownBlock] at e
      subst e
      rw [hk] at hgh; cases hgh; exact ht rfl)
theorem KeepB.of_below {b : Nat} {w w' : World} (h : Below w.heap.size w w') : KeepB b w w' := fun k _ _ _ hk _ _ => h.block k (Array.getElem?_eq_some_iff.1 hk).1
theorem copyCheckK {T : TypeId} (hT : BdT T) (B b : Nat) (l : List UInt8) (w : World) (h : Bd T B b l w) :
    Calls Tryd.prog 46 #[.pointer (some ⟨b, 0, none⟩)] w fun e w' => e = .returned (.tuple #[]) ∧ Lib.BuilderAtF T 5 B b (.pointer (some ⟨b, 0, none⟩)) (Lib.byteCells l) w' ∧ Below B w w' ∧ KeepB b w w' := by
  rcases h with h | h
  · refine (copyCheck_fresh hT b w h.cell0 h.shape h.frozen0).mono ?_
    rintro e w' ⟨rfl, rfl⟩
    exact ⟨rfl, h.used _, (Below.refl B w).setCell (p := ⟨b, 0, none⟩) h.1 _, KeepB.setCell _ _ _ _⟩
  · refine (copyCheck_used b w h.cell0).mono ?_
    rintro e w' ⟨rfl, rfl⟩
    exact ⟨rfl, h, Below.refl B _, KeepB.refl _ _⟩

set_option maxHeartbeats 2000000 in
set_option maxRecDepth 100000 in
theorem bd_writeString {T : TypeId} (hT : BdT T) (B b : Nat) (l : List UInt8) (s : ByteArray) (w : World) (h : Bd T B b l w) (hlen : l.length + s.size ≤ 140737488355328) (hBw : B ≤ w.heap.size) :
    Calls Tryd.prog 37 #[.pointer (some ⟨b, 0, none⟩), .string s] w fun e w' => e = .returned (.tuple #[.int .i64 s.size, .nilIface]) ∧ Bd T B b (l ++ s.data.toList) w' ∧ Below B w w' ∧ KeepB b w w' := by
  have hinfo : (Tryd.prog.info? 5).map (fun i => (i.zero, i.size, i.bytes)) = some (some (.int .u8 0), 1, 1) := by kernel_rfl
  obtain ⟨i0, hi, hz0, hz1, hz2⟩ := info_parts hinfo
  have hcc := fun w' h' => copyCheckK hT B b l w' h'
  have Hh := Lib.hid h
  clear h hinfo
  go_enter Tryd.func37, Tryd.ntmps37
  go_wp2_with fail
  refine (hcc _ Hh.out).mono ?_
  rintro e w1 ⟨rfl, h1, hb1, hkp1⟩
  have hkp1 := Lib.hid hkp1
  obtain ⟨hB, v, hbk, hown, hne⟩ := h1
  rw [Lib.byteCells_length] at hown
  have c0 : w1.cell? ⟨b, 0, none⟩ = some (.pointer (some ⟨b, 0, none⟩)) := by rw [Lib.cell_of_heap hbk]; rfl
  have c1 : w1.cell? ⟨b, 1, none⟩ = some v := by rw [Lib.cell_of_heap hbk]; rfl
  have hBw1 := Nat.le_trans hBw hb1.size
  go_wp2_with (at_builtin; refine Lib.wpList_append_own_stringF _ rfl _ _ 59 9 rfl B 5 i0 Tryd.underlying59 Tryd.underlying9 hi hz0 hz1 hz2 v l.length (Lib.byteCells l) rfl hown s rfl (by unfold maxLen; omega) (by omega) hBw1 ?_)
  intro v' w2 hown' hgrow _
  have hlt : b < w1.heap.size := by
    rcases Nat.lt_or_ge b w1.heap.size with h' | h'
    · exact h'
    · simp [Array.getElem?_eq_none h'] at hbk
  have hb2 : w2.heap[b]? = some (.cells #[.pointer (some ⟨b, 0, none⟩), v] T (0, 0)) := by
    rw [hgrow.block b hlt (fun e => hne e.symm)]
    exact hbk
  have d0 : w2.cell? ⟨b, 0, none⟩ = some (.pointer (some ⟨b, 0, none⟩)) := by rw [Lib.cell_of_heap hb2]; rfl
  have d1 : w2.cell? ⟨b, 1, none⟩ = some v := by rw [Lib.cell_of_heap hb2]; rfl
  have f1 : w2.frozen? ⟨b, 1, none⟩ = false := Lib.frozen_of_heap hb2 1
  have hfin : Hid (Bd T B b (l ++ s.data.toList) (w2.setCell ⟨b, 1, none⟩ v')) := Lib.hid (.inr (by
    have e : Lib.byteCells (l ++ s.data.toList) = Lib.byteCells l ++ Lib.strCells s := by simp [Lib.byteCells, Lib.strCells]
    rw [e]
    refine Lib.BuilderAtF.put (T := T) (e := 5) hB hb2 (bs' := Lib.byteCells l ++ Lib.strCells s) ?_ hT.2
    rw [List.length_append, Lib.byteCells_length, Lib.strCells_length]
    exact hown'))
  have hBf : Below B w (w2.setCell ⟨b, 1, none⟩ v') := (hb1.grown hgrow hBw1 (fun k hk => (hown.lt k hk).1)).setCell (p := ⟨b, 1, none⟩) hB _
  have hcs : (∃ a n cap, v' = .slice a n cap) := by
    rcases hown'.2 with ⟨h0, _⟩ | ⟨g, cap, cur, fz, hv, _⟩
    · exact ⟨_, _, _, h0⟩
    · exact ⟨_, _, _, hv⟩
  have hkp2 := Lib.hid ((hkp1.out.trans (KeepB.grownF0 hown hgrow)).trans (KeepB.setCell b 1 w2 v'))
  clear hown hown' hgrow hb2 hbk hne c0 c1
  obtain ⟨va, vn, vc, rfl⟩ := hcs
  go_wp2
  go_ret2
  exact ⟨rfl, hfin.out, hBf, hkp2.out⟩
theorem bdAt_ext {T e : TypeId} {B b : Nat} {p : Value} {bs : List Value} {w w' : World} (h : Lib.BuilderAtF T e B b p bs w) (hb : Below w.heap.size w w') : Lib.BuilderAtF T e B b p bs w' := by
  obtain ⟨h1, v, h2, h3, h4⟩ := h
  refine ⟨h1, v, (hb.block b (Array.getElem?_eq_some_iff.1 h2).1).trans h2, ?_, h4⟩
  exact World.ownsRowF.kept h3 (row := none) ⟨hb.os, hb.tape, hb.output, hb.size, fun k hk _ => hb.block k hk⟩ (by cases v.ownBlock <;> simp)
theorem Bd.ext {T : TypeId} {B b : Nat} {l : List UInt8} {w w' : World} (h : Bd T B b l w) (hb : Below w.heap.size w w') : Bd T B b l w' :=
  Or.elim h (fun h => .inl (bdAt_ext h hb)) (fun h => .inr (bdAt_ext h hb))
end Go.Proofs.YtmglcdmccikinaaDoor
