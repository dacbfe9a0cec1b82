/- The log: signatures, the reference. -/
import Derived.Test.YtjjibdjliejcfaaGreatDoorLgP
import Derived.Handy
namespace Go.Proofs.YtjjibdjliejcfaaGreatDoor
open Go.RowKit
def sgStep (s : Int) (c : UInt8) : Int := (41 * s + (c.toNat : Int)) % 65521
def sgFold (s : Int) (t : List UInt8) : Int := t.foldl sgStep s
theorem sgStep_bd (s : Int) (c : UInt8) : 0 ≤ sgStep s c ∧ sgStep s c ≤ 65520 := by unfold sgStep; omega
theorem sgFold_bd : ∀ (t : List UInt8) (s : Int), 0 ≤ s ∧ s ≤ 65520 → 0 ≤ sgFold s t ∧ sgFold s t ≤ 65520
  | [], _, h => h
  | c :: r, s, _ => sgFold_bd r (sgStep s c) (sgStep_bd s c)
theorem sgFold_take {T : ByteArray} {s : Int} {k : Nat} (hk : k < T.size) : sgFold s (T.data.toList.take (k + 1)) = sgStep (sgFold s (T.data.toList.take k)) T[k] := by
  rw [List.take_add_one, getT hk]
  unfold sgFold
  rw [List.foldl_append]
  rfl
def sgText (x : Ent) : ByteArray := decStr x.second ++ x.who ++ x.what
/-- The signature of an entry. -/
def signE (key before : Int) (x : Ent) : Int := (sgFold ((before + 11 * key) % 65521) (sgText x).data.toList + key * key) % 65521
theorem signE_bd (key before : Int) (x : Ent) : 0 ≤ signE key before x ∧ signE key before x ≤ 65520 := by unfold signE; omega
theorem key_sq {k : Int} (h : 1 ≤ k ∧ k ≤ 65520) : 0 ≤ k * k ∧ k * k ≤ 4292870400 := by
  obtain ⟨h1, h2⟩ := h
  refine ⟨Int.mul_nonneg (by omega) (by omega), ?_⟩
  have := Int.mul_le_mul h2 h2 (by omega) (by omega)
  omega
set_option maxRecDepth 100000 in
set_option maxHeartbeats 8000000 in
theorem spec_Sign (key before : Int) (b o : Nat) (x : Ent) (w : World) (hk : 1 ≤ key ∧ key ≤ 65520) (hb : 0 ≤ before ∧ before ≤ 65520) (hc : ∀ j u, x.cells[j]? = some u → w.cell? ⟨b, o + j, none⟩ = some u) (hx : x.plain) :
    Calls Tryz.prog 60 #[.int .i64 key, .int .i64 before, .pointer (some ⟨b, o, none⟩)] w fun e w' => e = .returned (.int .i64 (signE key before x)) ∧ Below w.heap.size w w' := by
  have c0 := hc 0 _ rfl
  have c1 := hc 1 _ rfl
  have c2 := hc 2 _ rfl
  clear hc
  simp only [Nat.add_zero] at c0
  have hbw := World.block_lt_of_cell? w _ c0
  obtain ⟨⟨h0a, h0b⟩, h1, h2⟩ := hx
  have hI : I64 x.second := ⟨by omega, by omega⟩
  have HD := Lib.hid (fun w' => spec_Dec x.second w' hI)
  have hz0 := decStr_size hI
  have hz1 := h1.2.1
  have hz2 := h2.2.2
  have Hdef : Hid (signE key before x = (sgFold ((before + 11 * key) % 65521) (sgText x).data.toList + key * key) % 65521) := Lib.hid rfl
  generalize hres : signE key before x = res at *
  clear hres
  unfold sgText at Hdef
  obtain ⟨x0, x1, x2⟩ := x
  dsimp only at *
  have a1 : IntKind.i64.wrap (11 * key) = 11 * key := IntWalk.i64_in _ (by omega)
  have a2 : IntKind.i64.wrap (before + 11 * key) = before + 11 * key := IntWalk.i64_in _ (by omega)
  have a3 : (before + 11 * key).tmod 65521 = (before + 11 * key) % 65521 := Int.tmod_eq_emod_of_nonneg (by omega)
  have k1 : ¬ 9223372036854775807 < (decStr x0).size + x1.size := by omega
  have k2 : ¬ 9223372036854775807 < (decStr x0).size + x1.size + x2.size := by omega
  have hs0 : 0 ≤ (before + 11 * key) % 65521 ∧ (before + 11 * key) % 65521 ≤ 65520 := by omega
  generalize hs : (before + 11 * key) % 65521 = s0 at *
  go_enter Tryz.func60, Tryz.ntmps60
  go_wp2_with fail
  go_region_held3 (fun w' => (∀ b' o', b' < w.heap.size → w'.cell? ⟨b', o', none⟩ = w.cell? ⟨b', o', none⟩) ∧ Below w.heap.size w w') (first | (refine heldB ?_; go_grown; done))
    (first | (go_at_call 74; refine (HD.out _).mono ?_; rintro e w2 ⟨rfl, hb2⟩; have b2 : Below w.heap.size w w2 := Below.trans (by go_grown) (hb2.mono (by go_size))))
  have htz : (decStr x0 ++ x1 ++ x2).size ≤ 200 := by simp only [ByteArray.size_append]; omega
  obtain ⟨T, hT⟩ : ∃ T, decStr x0 ++ x1 ++ x2 = T := ⟨_, rfl⟩
  rw [hT] at Hdef htz
  have hTw := T.size
  go_wp2
  have hB2 := Lib.hid b2
  clear b2 hb2 c0 c1 c2 HD
  go_loopw [7, 9] (fun q i wr => ∃ k : Nat, k ≤ T.size ∧ i = .int .i64 k ∧ q = .int .i64 (sgFold s0 (T.data.toList.take k)) ∧ wr = w2) (fun _ i _ => T.size - (intOf i).toNat)
  case atStart => exact ⟨0, Nat.zero_le _, rfl, by simp [sgFold], by first | rfl | trivial⟩
  case round =>
    obtain ⟨k, hkk, rfl, rfl, rfl⟩ := hrel
    by_cases hlt : k < T.size
    · have hbd := sgFold_bd (T.data.toList.take k) s0 hs0
      have Hst := Lib.hid (sgFold_take (s := s0) hlt)
      have hc256 : T[k].toNat < 256 := T[k].toNat_lt
      unfold sgStep at Hst
      generalize sgFold s0 (T.data.toList.take k) = v at *
      obtain ⟨v1, v2⟩ := hbd
      have e1 : IntKind.i64.wrap (41 * v) = 41 * v := IntWalk.i64_in _ (by omega)
      have e2 : IntKind.i64.wrap (41 * v + (T[k].toNat : Int)) = 41 * v + (T[k].toNat : Int) := IntWalk.i64_in _ (by omega)
      have e3 : (41 * v + (T[k].toNat : Int)).tmod 65521 = (41 * v + (T[k].toNat : Int)) % 65521 := Int.tmod_eq_emod_of_nonneg (by omega)
      go_wp2
      go_roundw
      case rel => exact ⟨k + 1, by omega, by go_num, by rw [Hst.out], by first | rfl | trivial⟩
      case measure => simp [intOf]; omega
    · have : k = T.size := by omega
      subst this
      have e : T.data.toList.take T.size = T.data.toList := List.take_of_length_le (Nat.le_of_eq Array.length_toList)
      have hbd := sgFold_bd T.data.toList s0 hs0
      rw [e]
      clear e
      generalize sgFold s0 T.data.toList = v at *
      obtain ⟨v1, v2⟩ := hbd
      obtain ⟨q1, q2⟩ := key_sq hk
      have e1 : IntKind.i64.wrap (key * key) = key * key := IntWalk.i64_in _ (by omega)
      have e2 : IntKind.i64.wrap (v + key * key) = v + key * key := IntWalk.i64_in _ (by omega)
      have e3 : (v + key * key).tmod 65521 = (v + key * key) % 65521 := Int.tmod_eq_emod_of_nonneg (by omega)
      go_wp2
      go_ret
      exact ⟨ret_int Hdef.out.symm, hB2.out⟩
end Go.Proofs.YtjjibdjliejcfaaGreatDoor
