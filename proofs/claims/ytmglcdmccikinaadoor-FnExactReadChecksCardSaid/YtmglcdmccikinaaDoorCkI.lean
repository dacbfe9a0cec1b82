/- The text of checks, the program. -/
import Derived.Test.YtmglcdmccikinaaDoorCkT
namespace Go.Proofs.YtmglcdmccikinaaDoor
open Go.RowKit
theorem cells4 {p : Nat} {a b c d : Value} {t : TypeId} {w : World} (h : w.heap[p]? = some (.cells #[a, b, c, d] t)) : w.cell? ⟨p, 0, none⟩ = some a ∧ w.cell? ⟨p, 1, none⟩ = some b ∧ w.cell? ⟨p, 2, none⟩ = some c ∧ w.cell? ⟨p, 3, none⟩ = some d :=
  ⟨(Lib.cell_of_heap h 0).trans rfl, (Lib.cell_of_heap h 1).trans rfl, (Lib.cell_of_heap h 2).trans rfl, (Lib.cell_of_heap h 3).trans rfl⟩
theorem blk_new (w : World) (o : Obj) : (w.alloc o).heap[w.heap.size]? = some o := Array.getElem?_push_size
theorem blk_below {W W' : World} {p : Nat} {o : Obj} (hb : Below W.heap.size W W') (h : W.heap[p]? = some o) : W'.heap[p]? = some o := (hb.block p (Array.getElem?_eq_some_iff.1 h).1).trans h
set_option maxRecDepth 100000 in
set_option maxHeartbeats 8000000 in
theorem impl_ChecksText (v : Value) (l : List Chk) (lo hi : Nat) (w : World) (h : Chks lo hi w v l) (hl : l.length ≤ 1048576) (hwf : ∀ x ∈ l, x.wf) (h10 : P10 w) :
    Calls Tryd.prog 17 #[v] w fun e w' => e = .returned (.string (chkTxt l)) ∧ Below w.heap.size w w' := by
  unfold chkTxt
  have hV := impl_ValidChecks v l lo hi w h hl hwf
  have hsl := h
  obtain ⟨a, cap, rfl, hlen, hh⟩ := h
  clear hh hwf
  cases hq : chksB l
  · rw [hq] at hV
    have hV := Lib.hid hV
    clear hq hsl h10
    go_enter Tryd.func17, Tryd.ntmps17
    go_wp2_with fail
    refine hV.out.mono ?_
    rintro e w1 ⟨rfl, hb1⟩
    go_wp2
    go_ret
    exact ⟨rfl, hb1⟩
  have Hok := Lib.hid (chksB_iff.1 hq)
  have hl30 := Hok.out.2
  rw [hq] at hV
  have hV := Lib.hid hV
  have H10 := Lib.hid h10
  have Hsl := Lib.hid hsl
  clear hq h10 hsl
  go_enter Tryd.func17, Tryd.ntmps17
  go_wp2_with fail
  refine hV.out.mono ?_
  rintro e w1 ⟨rfl, hb1⟩
  have Hb1 := Lib.hid hb1
  have z1 := hb1.size
  clear hb1 hV
  go_wp2
  go_loopw [11] (fun i wr => ∃ k : Nat, k ≤ l.length ∧ i = .int .i64 k ∧ Below w.heap.size w wr ∧ w1.heap.size < wr.heap.size ∧ Hid (Bd 61 w.heap.size w1.heap.size (chkText (l.take k)) wr)) (fun i _ => l.length - (intOf i).toNat)
  case atStart => exact ⟨0, Nat.zero_le _, rfl, Hb1.out.alloc z1 _, by simp, Lib.hid (by simpa [chkText] using bd_new (T := 61) (w := w1) z1)⟩
  case round =>
    obtain ⟨k, hk, rfl, hB, hz, hbd⟩ := hrel
    have hBs := hB.size
    by_cases hlt : k < l.length
    · obtain ⟨b, off, rfl⟩ := Hsl.out.addr (by omega)
      obtain ⟨c0, c1, c2, c3⟩ := Chks.at (Hsl.out.ext hB).get hlt
      obtain ⟨g1, g2, g3, g4⟩ := chk_i64 (Hok.out.1 k hlt).1
      have Hst := Lib.hid (chkText_take hlt)
      have hsz := chkLine_size (Hok.out.1 k hlt).1
      have htx := chkText_size Hok.out k
      have hD1 := Lib.hid (fun w' h => impl_Dec l[k].crane w' g1 h)
      have hD2 := Lib.hid (fun w' h => impl_Dec l[k].every w' g2 h)
      have hD3 := Lib.hid (fun w' h => impl_Dec l[k].last w' g3 h)
      obtain ⟨k1, k2, k3, k4, k5, k6, k7⟩ := cat_ok (decStr_size g1) g4 (decStr_size g2) (decStr_size g3)
      clear g1 g2 g3 g4
      unfold chkLine at Hst hsz
      generalize l[k] = x at *
      obtain ⟨x0, x1, x2, x3⟩ := x
      dsimp only at *
      generalize chkText (l.take k) = t at *
      have hba : Below wr.heap.size wr (wr.alloc (.cells #[.int .i64 x0, .string x1, .int .i64 x2, .int .i64 x3] 33)) := (Below.refl _ _).alloc (Nat.le_refl _) _
      have eA := blk_new wr (.cells #[.int .i64 x0, .string x1, .int .i64 x2, .int .i64 x3] 33)
      have zA : (wr.alloc (.cells #[.int .i64 x0, .string x1, .int .i64 x2, .int .i64 x3] 33)).heap.size = wr.heap.size + 1 := by simp
      obtain ⟨WA, hWA⟩ : ∃ WA, wr.alloc (.cells #[.int .i64 x0, .string x1, .int .i64 x2, .int .i64 x3] 33) = WA := ⟨_, rfl⟩
      rw [hWA] at hba eA zA
      have HWA := Lib.hid hWA
      have tA := H10.out.ext (hB.trans (hba.mono hBs))
      have bdA := hbd.out.ext hba
      have hBA := hB.trans (hba.mono hBs)
      have zBA : w.heap.size ≤ WA.heap.size := hBA.size
      clear hWA hba
      go_wp2_with fail
      rw [HWA.out]
      have hmain := Lib.hid (And.intro eA (And.intro tA bdA))
      clear eA tA bdA hbd
      obtain ⟨eA, tA, bdA⟩ := hmain.out
      have EA := Lib.hid eA
      have TA := Lib.hid tA
      have BA := Lib.hid bdA
      obtain ⟨d0, d1, d2, d3⟩ := cells4 eA
      clear eA tA bdA hmain
      go_region_held3 (fun w' => (w'.cell? ⟨wr.heap.size, 0, none⟩ = some (.int .i64 x0) ∧ w'.cell? ⟨wr.heap.size, 1, none⟩ = some (.string x1) ∧ w'.cell? ⟨wr.heap.size, 2, none⟩ = some (.int .i64 x2) ∧ w'.cell? ⟨wr.heap.size, 3, none⟩ = some (.int .i64 x3)) ∧ Below w.heap.size WA w') (first | exact ⟨⟨d0, d1, d2, d3⟩, (Below.refl _ _).drew⟩ | exact ⟨cells4 E4.out, b4⟩ | exact ⟨cells4 E3.out, b3⟩ | exact ⟨cells4 E2.out, b2⟩ | exact ⟨cells4 E1.out, b1⟩)
        (first
          | (go_at_call_of 38 (Value.int IntKind.i64 x0); refine (hD1.out _ (TA.out.ext (Below.refl _ _).drew)).mono ?_; rintro e a1 ⟨rfl, hb1'⟩; have c1' : Below WA.heap.size WA a1 := (Below.refl WA.heap.size WA).drew.trans hb1'; have b1 : Below w.heap.size WA a1 := c1'.mono zBA; have E1 := Lib.hid (blk_below c1' EA.out); have T1 := Lib.hid (TA.out.ext c1'); have B1 := Lib.hid (BA.out.ext c1'))
          | (go_at_call_of 38 (Value.int IntKind.i64 x2); refine (hD2.out _ T1.out).mono ?_; rintro e a2 ⟨rfl, hb2'⟩; have b2 : Below w.heap.size WA a2 := b1.trans (hb2'.mono (Nat.le_trans zBA c1'.size)); have E2 := Lib.hid (blk_below hb2' E1.out); have T2 := Lib.hid (T1.out.ext hb2'); have B2 := Lib.hid (B1.out.ext hb2'))
          | (go_at_call_of 38 (Value.int IntKind.i64 x3); refine (hD3.out _ T2.out).mono ?_; rintro e a3 ⟨rfl, hb3'⟩; have b3 : Below w.heap.size WA a3 := b2.trans (hb3'.mono (Nat.le_trans zBA (Nat.le_trans c1'.size hb2'.size))); have E3 := Lib.hid (blk_below hb3' E2.out); have B3 := Lib.hid (B2.out.ext hb3'))
          | (go_at_call 37; refine (bd_writeString bdT_builder w.heap.size w1.heap.size t _ a3 B3.out (by omega) (Nat.le_trans zBA (Nat.le_trans c1'.size (Nat.le_trans hb2'.size hb3'.size)))).mono ?_; rintro e a4 ⟨rfl, hd4, hb4', hk4⟩; have b4 : Below w.heap.size WA a4 := b3.trans hb4'; have E4 := Lib.hid ((hk4 _ _ _ _ E3.out (by decide) (by omega)).trans E3.out)))
      have Hd4 := Lib.hid hd4
      have HB4 := Lib.hid (hBA.trans b4)
      have z4 : w1.heap.size < a4.heap.size := Nat.lt_of_lt_of_le (by omega) b4.size
      clear hd4 hb4' hk4 hb3' hb2' hb1' c1' b1 b2 b3 b4 E1 E2 E3 E4 T1 T2 B1 B2 B3 EA TA BA k1 k2 k3 k4 k5 k6 k7 hsz htx hD1 hD2 hD3
      go_wp2
      go_roundw
      case rel => exact ⟨k + 1, by omega, by go_num, HB4.out, z4, Lib.hid (by rw [Hst.out]; exact Hd4.out)⟩
      case measure => simp [intOf]; omega
    · have : k = l.length := by omega
      subst this
      rw [List.take_length] at hbd
      have hS := Lib.hid (bd_string w.heap.size w1.heap.size _ wr hbd.out hBs)
      unfold StrPost at hS
      clear hbd
      go_wp2_with fail
      refine hS.out.mono ?_
      rintro e w3 ⟨rfl, -, hb3⟩
      go_wp2
      go_ret
      exact ⟨rfl, hB.trans hb3⟩
end Go.Proofs.YtmglcdmccikinaaDoor
