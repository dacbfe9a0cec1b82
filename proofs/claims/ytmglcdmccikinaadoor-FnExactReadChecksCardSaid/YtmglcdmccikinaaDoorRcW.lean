/- The text of checks read, the program's helpers: its words, its numbers. -/
import Derived.Test.YtmglcdmccikinaaDoorRcF
import Derived.Test.YtmglcdmccikinaaDoorNumI
import Derived.Test.YtmglcdmccikinaaDoorCkI
import Derived.Shelf.Strings.FieldsFuncAny
namespace Go.Proofs.YtmglcdmccikinaaDoor
open Go.RowKit
theorem blank_pred (w : World) : PredAt Tryd.prog 28 #[] encR isBlank w := by
  intro W x _
  show Calls Tryd.prog 28 #[.int .i32 (x : Int)] W _
  by_cases h : x = 32
  · subst h
    go_enter Tryd.func28, Tryd.ntmps28
    go_wp2
    go_ret
    exact ⟨rfl, 0, rfl⟩
  · have hq : ((x : Int) == 32) = false := by rw [beq_eq_false_iff_ne]; omega
    have hb : isBlank x = false := by unfold isBlank; rw [beq_eq_false_iff_ne]; exact h
    rw [hb]
    go_enter Tryd.func28, Tryd.ntmps28
    go_wp2
    go_ret
    exact ⟨rfl, 0, rfl⟩
theorem strs_flat (l : List ByteArray) : l.map Value.string = l.flatMap strC := by
  induction l with
  | nil => rfl
  | cons a l ih => rw [List.map_cons, List.flatMap_cons, ih]; rfl
theorem impl_SplitWords (s : ByteArray) (w : World) (hs : s.size ≤ 1048576) : Calls Tryd.prog 13 #[.string s] w fun e w' => ∃ v, e = .returned v ∧ Slw 1 strC w.heap.size w'.heap.size w' v (Lib.goFieldsP isBlank s) ∧ Below w.heap.size w w' := by
  have HF := Lib.hid ((Tryd.strings_FieldsFunc 28 #[] (enters_of Tryd.func28 (by kernel_rfl) rfl) isBlank s w (by omega) (blank_pred w)).mono (fun e w' h => (by
    obtain ⟨A, he, -, hown, hb⟩ := h
    rw [strs_flat] at hown
    exact ⟨_, he, Own.slw (c := strC) hown strC_len, hb⟩ : ∃ v, e = .returned v ∧ Slw 1 strC w.heap.size w'.heap.size w' v (Lib.goFieldsP isBlank s) ∧ Below w.heap.size w w')))
  go_enter Tryd.func13, Tryd.ntmps13
  go_wp2_with fail
  refine HF.out.mono ?_
  rintro e w1 ⟨v, rfl, hs1, hb1⟩
  go_wp2
  go_ret
  exact ⟨v, rfl, hs1, hb1⟩
theorem goFields_size (p : Nat → Bool) (s : ByteArray) : ∀ x ∈ Lib.goFieldsP p s, x.size ≤ s.size := by
  intro x hx
  unfold Lib.goFieldsP at hx
  obtain ⟨y, -, rfl⟩ := List.mem_map.1 hx
  rw [ByteArray.size_extract]
  omega
def AllRes (ws : List ByteArray) (w : World) (e : Ending) (w' : World) : Prop :=
  Below w.heap.size w w' ∧ ((ws.all numB = true ∧ ∃ v, e = .returned (.tuple #[v, .bool true]) ∧ Slw 1 intCells w.heap.size w'.heap.size w' v (ws.map numV)) ∨ (ws.all numB = false ∧ e = .returned (.tuple #[.slice none 0 0, .bool false])))
theorem info_int64w : (Tryd.prog.info? 2).map (fun i => (i.zero.map (·.cells.size), i.size, i.bytes)) = some (some 1, 1, 8) := by kernel_rfl
set_option maxRecDepth 100000 in
set_option maxHeartbeats 4000000 in
theorem impl_readAll (v : Value) (ws : List ByteArray) (lo hi : Nat) (w : World) (h : Sl 1 strC lo hi w v ws) (hl : ws.length ≤ 1000) (hz : ∀ x ∈ ws, x.size ≤ 281474976710656) (h10 : P10 w) (hev : EV w) :
    Calls Tryd.prog 15 #[v] w (AllRes ws w) := by
  have Hs := Lib.hid h
  have H10 := Lib.hid h10
  have Hev := Lib.hid hev
  have Hz := Lib.hid hz
  clear h10 hev hz
  obtain ⟨a, cap, rfl, hcap, -⟩ := h
  go_enter Tryd.func15, Tryd.ntmps15
  go_wp2
  go_loopw [4, 11] (fun vo vi wr => ∃ (k : Nat) (ov : Value), vo = ov ∧ k ≤ ws.length ∧ vi = .int .i64 k ∧ Below w.heap.size w wr ∧ Hid (Own 1 intCells w.heap.size 2 wr ov ((ws.take k).map numV)) ∧ Hid ((ws.take k).all numB = true)) (fun _ vi _ => ws.length - (intOf vi).toNat)
  case atStart => exact ⟨0, _, rfl, Nat.zero_le _, rfl, Below.refl _ _, Lib.hid (own_nil _ _ _), Lib.hid rfl⟩
  case round =>
    obtain ⟨k, ov, hov, hk, rfl, hB, hown, hall⟩ := hrel
    have hov := hov.symm
    subst hov
    have hBs := hB.size
    by_cases hlt : k < ws.length
    · obtain ⟨b, off, rfl⟩ := Hs.out.addr (by omega)
      have c0 := Strs.at (Hs.out.ext hB).get hlt
      have hR := impl_ReadDec ws[k] wr (Hz.out _ (List.getElem_mem hlt)) (H10.out.ext hB) (Hev.out.ext hB)
      have hown1 := hown.out
      have hlen : ((ws.take k).map numV).length = k := by rw [List.length_map, List.length_take]; omega
      have htm : (ws.take (k + 1)).map numV = (ws.take k).map numV ++ [numV ws[k]] := by rw [List.take_succ_eq_append_getElem hlt, List.map_append]; rfl
      have Htm := Lib.hid htm
      clear htm
      cases hb : numB ws[k]
      · have Hno := Lib.hid (all_false (p := numB) hlt hb)
        rw [hb] at hR
        have hR := Lib.hid hR
        clear hb Htm
        generalize ws[k] = x at *
        go_wp2_with (go_at_call 30; refine hR.out.mono ?_; rintro e w2 ⟨rfl, hb2⟩)
        go_ret2
        exact ⟨hB.trans (hb2.mono hBs), .inr ⟨Hno.out, rfl⟩⟩
      · have Hall := Lib.hid (all_take_succ (p := numB) hlt hall.out hb)
        rw [hb] at hR
        have hR := Lib.hid hR
        clear hb
        generalize ws[k] = x at *
        generalize numV x = nx at *
        generalize hacc : (ws.take k).map numV = acc at *
        clear hacc hown
        go_wp2_with (first | (go_at_call 30; refine hR.out.mono ?_; rintro e w2 ⟨rfl, hb2⟩; have B2 := hB.trans (hb2.mono hBs); have z2 := B2.size; have hown2 := hown1.below hb2) | (at_builtin; refine wpList_app1 (c := intCells) (bytes := 8) rfl _ _ 40 2 rfl Tryd.underlying40 info_int64w (by omega) intCells_len intCells_one w.heap.size acc nx _ rfl w2 rfl hown2 rfl (by omega) (by omega) (by omega) ?_; intro v' w3 hown3 hg3))
        have hB3 := hown2.app B2 (Nat.le_refl _) z2 hg3
        go_roundw
        case rel => exact ⟨k + 1, _, rfl, hlt, by go_num, hB3, Lib.hid (by rw [Htm.out]; exact hown3), Hall⟩
        case measure => simp [intOf]; omega
    · have hkk : k = ws.length := by omega
      subst hkk
      rw [List.take_length] at hown hall
      have Hsl := Lib.hid (hown.out.slw intCells_len)
      go_wp2
      go_ret2
      exact ⟨hB, .inl ⟨hall.out, _, rfl, Hsl.out⟩⟩
end Go.Proofs.YtmglcdmccikinaaDoor
