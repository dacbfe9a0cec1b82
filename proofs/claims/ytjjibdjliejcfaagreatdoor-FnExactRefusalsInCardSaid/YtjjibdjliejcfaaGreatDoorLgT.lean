/- The log: signatures, the program. -/
import Derived.Test.YtjjibdjliejcfaaGreatDoorLgS
import Derived.Test.YtjjibdjliejcfaaGreatDoorDecI
namespace Go.Proofs.YtjjibdjliejcfaaGreatDoor
open Go.RowKit
set_option maxRecDepth 100000 in
set_option maxHeartbeats 8000000 in
theorem impl_Sign (key before : Int) (x : Ent) (w : World) (hk : 1 ≤ key ∧ key ≤ 65520) (hb : 0 ≤ before ∧ before ≤ 65520) (hx : x.plain) (h10 : P10 w) :
    Calls Tryz.prog 62 #[.agg x.cells.toArray, .int .i64 key, .int .i64 before] w fun e w' => e = .returned (.int .i64 (signE key before x)) ∧ Below w.heap.size w w' := by
  obtain ⟨⟨h0a, h0b⟩, h1, h2⟩ := hx
  have hI : I64 x.second := ⟨by omega, by omega⟩
  have HD := Lib.hid (fun w' (hb : Below w.heap.size w w') => impl_Dec x.second w' hI (h10.ext hb))
  have hz0 := decStr_size hI
  have hz1 := h1.2.1
  have hz2 := h2.2.2
  have Hdef : Hid (signE key before x = (sgFold ((before + 11 * key) % 65521) (sgText x).data.toList + key * key) % 65521) := Lib.hid rfl
  generalize hres : signE key before x = res at *
  clear hres
  unfold sgText at Hdef
  obtain ⟨x0, x1, x2⟩ := x
  simp only [Ent.cells] at *
  have a1 : IntKind.i64.wrap (11 * key) = 11 * key := IntWalk.i64_in _ (by omega)
  have a2 : IntKind.i64.wrap (before + 11 * key) = before + 11 * key := IntWalk.i64_in _ (by omega)
  have a3 : (before + 11 * key).tmod 65521 = (before + 11 * key) % 65521 := Int.tmod_eq_emod_of_nonneg (by omega)
  have k1 : ¬ 9223372036854775807 < (decStr x0).size + x1.size := by omega
  have k2 : ¬ 9223372036854775807 < (decStr x0).size + x1.size + x2.size := by omega
  have hs0 : 0 ≤ (before + 11 * key) % 65521 ∧ (before + 11 * key) % 65521 ≤ 65520 := by omega
  generalize hs : (before + 11 * key) % 65521 = s0 at *
  have hba : Below w.heap.size w (w.alloc (.cells #[.int .i64 x0, .string x1, .string x2] 48)) := (Below.refl _ _).alloc (Nat.le_refl _) _
  have eA : (w.alloc (.cells #[.int .i64 x0, .string x1, .string x2] 48)).heap[w.heap.size]? = some (.cells #[.int .i64 x0, .string x1, .string x2] 48) := Array.getElem?_push_size
  obtain ⟨WA, hWA⟩ : ∃ WA, w.alloc (.cells #[.int .i64 x0, .string x1, .string x2] 48) = WA := ⟨_, rfl⟩
  rw [hWA] at hba eA
  have HWA := Lib.hid hWA
  have c0 : WA.cell? ⟨w.heap.size, 0, none⟩ = some (.int .i64 x0) := by rw [Lib.cell_of_heap eA]; rfl
  have c1 : WA.cell? ⟨w.heap.size, 1, none⟩ = some (.string x1) := by rw [Lib.cell_of_heap eA]; rfl
  have c2 : WA.cell? ⟨w.heap.size, 2, none⟩ = some (.string x2) := by rw [Lib.cell_of_heap eA]; rfl
  have hbw : w.heap.size < WA.heap.size := (Array.getElem?_eq_some_iff.1 eA).1
  have HB := Lib.hid hba
  have HDA := Lib.hid (fun w' (hb : Below WA.heap.size WA w') => HD.out w' (HB.out.trans (hb.mono HB.out.size)))
  clear hWA hba eA HD
  go_enter Tryz.func62, Tryz.ntmps62
  go_wp2_with fail
  rw [HWA.out]
  go_region_held3 (fun w' => (∀ b' o', b' < WA.heap.size → w'.cell? ⟨b', o', none⟩ = WA.cell? ⟨b', o', none⟩) ∧ Below WA.heap.size WA w') (first | (refine heldB ?_; go_grown; done))
    (first | (go_at_call 76; refine (HDA.out _ ?hb).mono ?_; (case hb => go_grown); rintro e w2 ⟨rfl, hb2⟩; have b2 : Below WA.heap.size WA w2 := Below.trans (by go_grown) (hb2.mono (by go_size))))
  have htz : (decStr x0 ++ x1 ++ x2).size ≤ 200 := by simp only [ByteArray.size_append]; omega
  obtain ⟨T, hT⟩ : ∃ T, decStr x0 ++ x1 ++ x2 = T := ⟨_, rfl⟩
  rw [hT] at Hdef htz
  have hB2 := Lib.hid (HB.out.trans (b2.mono HB.out.size))
  clear b2 hb2 c0 c1 c2 HDA h10
  go_wp2
  go_loopw [7, 26] (fun q i wr => ∃ k : Nat, k ≤ T.size ∧ i = .int .i64 k ∧ q = .int .i64 (sgFold s0 (T.data.toList.take k)) ∧ wr = w2) (fun _ i _ => T.size - (intOf i).toNat)
  case atStart => exact ⟨0, Nat.zero_le _, rfl, by simp [sgFold], by first | rfl | trivial⟩
  case round =>
    obtain ⟨k, hkk, rfl, rfl, rfl⟩ := hrel
    by_cases hlt : k < T.size
    · have hbd := sgFold_bd (T.data.toList.take k) s0 hs0
      have Hst := Lib.hid (sgFold_take (s := s0) hlt)
      have hc256 : T[k].toNat < 256 := T[k].toNat_lt
      unfold sgStep at Hst
      generalize sgFold s0 (T.data.toList.take k) = v at *
      obtain ⟨v1, v2⟩ := hbd
      have e1 : IntKind.i64.wrap (41 * v) = 41 * v := IntWalk.i64_in _ (by omega)
      have e2 : IntKind.i64.wrap (41 * v + (T[k].toNat : Int)) = 41 * v + (T[k].toNat : Int) := IntWalk.i64_in _ (by omega)
      have e3 : (41 * v + (T[k].toNat : Int)).tmod 65521 = (41 * v + (T[k].toNat : Int)) % 65521 := Int.tmod_eq_emod_of_nonneg (by omega)
      go_wp2
      go_roundw
      case rel => exact ⟨k + 1, by omega, by go_num, by rw [Hst.out], by first | rfl | trivial⟩
      case measure => simp [intOf]; omega
    · have : k = T.size := by omega
      subst this
      have e : T.data.toList.take T.size = T.data.toList := List.take_of_length_le (Nat.le_of_eq Array.length_toList)
      have hbd := sgFold_bd T.data.toList s0 hs0
      rw [e]
      clear e
      generalize sgFold s0 T.data.toList = v at *
      obtain ⟨v1, v2⟩ := hbd
      obtain ⟨q1, q2⟩ := key_sq hk
      have e1 : IntKind.i64.wrap (key * key) = key * key := IntWalk.i64_in _ (by omega)
      have e2 : IntKind.i64.wrap (v + key * key) = v + key * key := IntWalk.i64_in _ (by omega)
      have e3 : (v + key * key).tmod 65521 = (v + key * key) % 65521 := Int.tmod_eq_emod_of_nonneg (by omega)
      go_wp2
      go_ret
      exact ⟨ret_int Hdef.out.symm, hB2.out⟩
end Go.Proofs.YtjjibdjliejcfaaGreatDoor
