/- The log: lines, in both packages. -/
import Derived.Test.YtjjibdjliejcfaaGreatDoorLgT
namespace Go.Proofs.YtjjibdjliejcfaaGreatDoor
open Go.RowKit
/-- The line of an entry with a signature. -/
def lineB (sg : Int) (x : Ent) : ByteArray := decStr sg ++ (⟨#[32]⟩ : ByteArray) ++ decStr x.second ++ (⟨#[32]⟩ : ByteArray) ++ x.who ++ (⟨#[32]⟩ : ByteArray) ++ x.what ++ (⟨#[10]⟩ : ByteArray)
theorem cat_line {A B C D : Nat} (hA : A ≤ 20) (hB : B ≤ 20) (hC : C ≤ 12) (hD : D ≤ 50) : ¬ 9223372036854775807 < A + 1 ∧ ¬ 9223372036854775807 < A + 1 + B ∧ ¬ 9223372036854775807 < A + 1 + B + 1 ∧ ¬ 9223372036854775807 < A + 1 + B + 1 + C ∧ ¬ 9223372036854775807 < A + 1 + B + 1 + C + 1 ∧ ¬ 9223372036854775807 < A + 1 + B + 1 + C + 1 + D ∧ ¬ 9223372036854775807 < A + 1 + B + 1 + C + 1 + D + 1 := by
  omega
set_option maxRecDepth 100000 in
set_option maxHeartbeats 8000000 in
theorem spec_Line (sg : Int) (b o : Nat) (x : Ent) (w : World) (hs : 0 ≤ sg ∧ sg ≤ 65520) (hc : ∀ j u, x.cells[j]? = some u → w.cell? ⟨b, o + j, none⟩ = some u) (hx : x.plain) :
    Calls Tryz.prog 59 #[.int .i64 sg, .pointer (some ⟨b, o, none⟩)] w fun e w' => e = .returned (.string (lineB sg x)) ∧ Below w.heap.size w w' := by
  have c0 := hc 0 _ rfl
  have c1 := hc 1 _ rfl
  have c2 := hc 2 _ rfl
  clear hc
  simp only [Nat.add_zero] at c0
  have hbw := World.block_lt_of_cell? w _ c0
  obtain ⟨⟨h0a, h0b⟩, h1, h2⟩ := hx
  have hI : I64 x.second := ⟨by omega, by omega⟩
  have hJ : I64 sg := ⟨by omega, by omega⟩
  have HD := Lib.hid (fun w' => spec_Dec x.second w' hI)
  have HE := Lib.hid (fun w' => spec_Dec sg w' hJ)
  obtain ⟨k1, k2, k3, k4, k5, k6, k7⟩ := cat_line (decStr_size hJ) (decStr_size hI) h1.2.1 h2.2.2
  clear h1 h2 hI hJ h0a h0b hs
  unfold lineB
  obtain ⟨x0, x1, x2⟩ := x
  dsimp only at *
  go_enter Tryz.func59, Tryz.ntmps59
  go_wp2_with fail
  go_region_held3 (fun w' => (∀ b' o', b' < w.heap.size → w'.cell? ⟨b', o', none⟩ = w.cell? ⟨b', o', none⟩) ∧ Below w.heap.size w w') (first | (refine heldB ?_; go_grown; done))
    (first
      | (go_at_call_of 74 (Value.int IntKind.i64 sg); refine (HE.out _).mono ?_; rintro e w2 ⟨rfl, hb2⟩; have b2 : Below w.heap.size w w2 := Below.trans (by go_grown) (hb2.mono (by go_size)))
      | (go_at_call_of 74 (Value.int IntKind.i64 x0); refine (HD.out _).mono ?_; rintro e w3 ⟨rfl, hb3⟩; have b3 : Below w.heap.size w w3 := Below.trans b2 (hb3.mono b2.size)))
  go_wp2
  go_ret
  exact ⟨rfl, b3⟩
set_option maxRecDepth 100000 in
set_option maxHeartbeats 8000000 in
theorem impl_Line (sg : Int) (x : Ent) (w : World) (hs : 0 ≤ sg ∧ sg ≤ 65520) (hx : x.plain) (h10 : P10 w) :
    Calls Tryz.prog 63 #[.int .i64 sg, .agg x.cells.toArray] w fun e w' => e = .returned (.string (lineB sg x)) ∧ Below w.heap.size w w' := by
  obtain ⟨⟨h0a, h0b⟩, h1, h2⟩ := hx
  have hI : I64 x.second := ⟨by omega, by omega⟩
  have hJ : I64 sg := ⟨by omega, by omega⟩
  have hD := fun w' (hb : Below w.heap.size w w') => impl_Dec x.second w' hI (h10.ext hb)
  have hE := fun w' (hb : Below w.heap.size w w') => impl_Dec sg w' hJ (h10.ext hb)
  obtain ⟨k1, k2, k3, k4, k5, k6, k7⟩ := cat_line (decStr_size hJ) (decStr_size hI) h1.2.1 h2.2.2
  clear h1 h2 hI hJ h0a h0b hs h10
  unfold lineB
  obtain ⟨x0, x1, x2⟩ := x
  simp only [Ent.cells] at *
  have hba : Below w.heap.size w (w.alloc (.cells #[.int .i64 x0, .string x1, .string x2] 48)) := (Below.refl _ _).alloc (Nat.le_refl _) _
  have eA : (w.alloc (.cells #[.int .i64 x0, .string x1, .string x2] 48)).heap[w.heap.size]? = some (.cells #[.int .i64 x0, .string x1, .string x2] 48) := Array.getElem?_push_size
  obtain ⟨WA, hWA⟩ : ∃ WA, w.alloc (.cells #[.int .i64 x0, .string x1, .string x2] 48) = WA := ⟨_, rfl⟩
  rw [hWA] at hba eA
  have HWA := Lib.hid hWA
  have c0 : WA.cell? ⟨w.heap.size, 0, none⟩ = some (.int .i64 x0) := by rw [Lib.cell_of_heap eA]; rfl
  have c1 : WA.cell? ⟨w.heap.size, 1, none⟩ = some (.string x1) := by rw [Lib.cell_of_heap eA]; rfl
  have c2 : WA.cell? ⟨w.heap.size, 2, none⟩ = some (.string x2) := by rw [Lib.cell_of_heap eA]; rfl
  have hbw : w.heap.size < WA.heap.size := (Array.getElem?_eq_some_iff.1 eA).1
  have HB := Lib.hid hba
  have HD := Lib.hid (fun w' (hb : Below WA.heap.size WA w') => hD w' (HB.out.trans (hb.mono HB.out.size)))
  have HE := Lib.hid (fun w' (hb : Below WA.heap.size WA w') => hE w' (HB.out.trans (hb.mono HB.out.size)))
  clear hWA hba eA hD hE
  go_enter Tryz.func63, Tryz.ntmps63
  go_wp2_with fail
  rw [HWA.out]
  go_region_held3 (fun w' => (∀ b' o', b' < WA.heap.size → w'.cell? ⟨b', o', none⟩ = WA.cell? ⟨b', o', none⟩) ∧ Below WA.heap.size WA w') (first | (refine heldB ?_; go_grown; done))
    (first
      | (go_at_call_of 76 (Value.int IntKind.i64 sg); refine (HE.out _ ?hb).mono ?_; (case hb => go_grown); rintro e w2 ⟨rfl, hb2⟩; have b2 : Below WA.heap.size WA w2 := Below.trans (by go_grown) (hb2.mono (by go_size)))
      | (go_at_call_of 76 (Value.int IntKind.i64 x0); refine (HD.out _ ?hb).mono ?_; (case hb => exact b2); rintro e w3 ⟨rfl, hb3⟩; have b3 : Below WA.heap.size WA w3 := Below.trans b2 (hb3.mono b2.size)))
  go_wp2
  go_ret
  exact ⟨rfl, HB.out.trans (b3.mono HB.out.size)⟩
end Go.Proofs.YtjjibdjliejcfaaGreatDoor
