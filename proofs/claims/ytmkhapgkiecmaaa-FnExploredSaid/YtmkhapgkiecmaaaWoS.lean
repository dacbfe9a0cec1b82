/- Small contracts for the laws on worlds. -/
import Derived.Test.YtmkhapgkiecmaaaExA
import Derived.Test.YtmkhapgkiecmaaaRunM
import Derived.Test.YtmkhapgkiecmaaaSrc
namespace Go.Proofs.Ytmkhapgkiecmaaa
open Go.RowKit
theorem acts_ne {T : Tab} {v : Wtc} {x : Wld} : 0 < (actsW T v x).length := by
  refine List.length_pos_of_mem (a := actOf 16) ?_
  unfold actsW actsN
  refine List.mem_filter.2 ⟨List.mem_map.2 ⟨16, by simp, rfl⟩, ?_⟩
  simp [canB, actOf]
theorem acts_len36 (T : Tab) (v : Wtc) (x : Wld) : (actsW T v x).length ≤ 36 := actsN_len T v x 36
theorem runW_snoc {T : Tab} {v : Wtc} {y : Act1} {x' : Wld} (hs : stepB T v x' y = true) : ∀ (l : List Act1) (x : Wld) (n : Nat), runW T v x l n = (x', n + l.length) → runW T v x (l ++ [y]) n = (doW x' y, n + l.length + 1)
  | [], x, n, h => by
    rw [runW_nil] at h
    obtain ⟨rfl, -⟩ := Prod.mk.inj h
    rw [List.nil_append, runW_go hs, runW_nil]
    rfl
  | a :: r, x, n, h => by
    cases ha : stepB T v x a with
    | true =>
      rw [runW_go ha] at h
      rw [List.cons_append, runW_go ha, runW_snoc hs r _ _ (by rw [h, List.length_cons]; congr 1; omega), List.length_cons]
      congr 1
      omega
    | false =>
      rw [runW_stop ha] at h
      have := (Prod.mk.inj h).2
      rw [List.length_cons] at this
      omega
set_option maxHeartbeats 1000000 in
theorem law_at (v : Value) (l : List UInt8) (lo hi k : Nat) (n : Int) (w : World) (h : Sl 1 byteC lo hi w v l) (hl : l.length ≤ 1000000) (hk : k ≤ 1000000) (hn : 1 ≤ n ∧ n ≤ 1000000) :
    Calls Try.prog 23 #[v, .int .i64 k, .int .i64 n] w fun e w' => (∃ q : Nat, e = .returned (.int .i64 q) ∧ (q : Int) < n) ∧ Below w.heap.size w w' := by
  obtain ⟨hn1, hn2⟩ := hn
  by_cases hk2 : k < l.length
  · obtain ⟨a, cap, rfl, -⟩ := id h
    obtain ⟨b, off, rfl⟩ := h.addr (by omega)
    have c0 := h.at1 hk2
    have hb := l[k].toNat_lt
    generalize l[k].toNat = c at *
    obtain ⟨m, hm⟩ : ∃ m : Nat, n = m := ⟨n.toNat, by omega⟩
    obtain ⟨q, hq, hqn⟩ : ∃ q : Nat, (c : Int).tmod n = q ∧ (q : Int) < n := by
      refine ⟨c % m, ?_, ?_⟩
      · rw [hm, Int.tmod_eq_emod_of_nonneg (by omega)]; rfl
      · rw [hm]; have := Nat.mod_lt c (show 0 < m by omega); omega
    have hwq : IntKind.i64.wrap (q : Int) = q := IntWalk.i64_in _ (by omega)
    have hd1 : decide ((l.length : Int) ≤ (k : Int)) = false := decide_eq_false (by omega)
    have hd2 : decide (n < 1) = false := decide_eq_false (by omega)
    have hz : (n == 0) = false := by simp; omega
    have hz2 : decide (n = 0) = false := decide_eq_false (by omega)
    clear h hm
    go_enter Try.func23, Try.ntmps23
    go_wp2
    go_ret
    exact ⟨⟨q, rfl, hqn⟩, Below.refl _ _⟩
  · obtain ⟨a, cap, rfl, -⟩ := id h
    have hd1 : decide ((l.length : Int) ≤ (k : Int)) = true := decide_eq_true (by omega)
    clear h
    go_enter Try.func23, Try.ntmps23
    go_wp2
    go_ret
    exact ⟨⟨0, rfl, by omega⟩, Below.refl _ _⟩
set_option maxHeartbeats 1000000 in
theorem impl_Fresh (a b : Int) (w : World) (ha : Dir a) (hb : Dir b) : Calls Try.prog 24 #[.int .i64 a, .int .i64 b] w fun e w' => e = .returned (.tuple #[.agg (⟨a, b, a, b, 0, 0⟩ : Wld).cells.toArray, .int .i64 0]) ∧ Below w.heap.size w w' := by
  obtain ⟨ha1, ha2⟩ := ha
  obtain ⟨hb1, hb2⟩ := hb
  go_enter Try.func24, Try.ntmps24
  go_wp2_with (go_at_call 61; refine (impl_isDirection_t _ _ (by omega) (by omega)).mono ?_; rintro e w' ⟨rfl, rfl⟩)
  exact bodyPost_ret (v := .tuple #[.agg (⟨a, b, a, b, 0, 0⟩ : Wld).cells.toArray, .int .i64 0]) (by simp [results, Try.results24, go_sem, Wld.cells]) rfl ⟨by simp [Wld.cells], by go_grown⟩
theorem spec_VW (v : Wtc) (x : Wld) (w : World) : Calls Try.prog 25 #[.agg v.cells.toArray, .agg x.cells.toArray] w fun e w' => e = .returned (.bool (decide (x.ok v))) ∧ Below w.heap.size w w' := by
  have hO := Lib.hid (fun w => spec_Ok v x w)
  obtain ⟨m, t⟩ := v
  obtain ⟨a, b, sa, sb, ga, gb⟩ := x
  simp only [Wtc.cells, Wld.cells] at *
  go_enter Try.func25, Try.ntmps25
  go_wp2_with (go_at_call 62; refine (hO.out _).mono ?_; rintro e w2 ⟨rfl, hb2⟩)
  go_ret
  exact ⟨rfl, (((Below.refl _ w).alloc (Nat.le_refl _) _).alloc (by simp) _).trans (hb2.mono (by simp; omega))⟩
set_option maxRecDepth 100000 in
set_option maxHeartbeats 4000000 in
theorem impl_ActsOf0 (tv : Value) (rows : List SV) (T : Tab) (lo hi : Nat) (v : Wtc) (x : Wld) (w : World) (h : TabR lo hi w tv rows T) (hT : TabOk T) (hx : x.ok v) :
    Calls Try.prog 26 #[tv, .agg v.cells.toArray, .agg x.cells.toArray] w fun e w' => ∃ v', e = .returned (.tuple #[v', .int .i64 0]) ∧ Sl 4 Act1.cells w.heap.size w'.heap.size w' v' (actsW T v x) ∧ Below w.heap.size w w' := by
  have hC := Lib.hid (fun w' (hb : Below w.heap.size w w') => impl_Code tv rows T lo hi v x w' (h.ext hb))
  rw [show codeW T v x = 0 by unfold codeW; rw [if_pos hT, if_pos hx]] at hC
  have hA := Lib.hid (fun w' (hb : Below w.heap.size w w') => impl_Acts tv rows T lo hi v x w' (h.ext hb) hT hx.1 hx.in_)
  have HB0 := Lib.hid (fun A B : Obj => ((Below.refl w.heap.size w).alloc (Nat.le_refl _) A).alloc (by simp) B)
  clear h hT hx
  obtain ⟨m, t⟩ := v
  obtain ⟨a, b, sa, sb, ga, gb⟩ := x
  simp only [Wtc.cells, Wld.cells] at *
  go_enter Try.func26, Try.ntmps26
  go_wp2_with fail
  refine (hC.out _ (HB0.out _ _)).mono ?_
  rintro e w2 ⟨rfl, hb2⟩
  have q2 := (bcell hb2).1
  have z2 : w.heap.size < w2.heap.size := Nat.lt_of_lt_of_le (by simp; omega) hb2.size
  have y2 : w.heap.size + 1 < w2.heap.size := Nat.lt_of_lt_of_le (by simp) hb2.size
  have B2 : Below w.heap.size w w2 := (HB0.out _ _).trans (hb2.mono (by simp; omega))
  go_wp2_with fail
  refine (hA.out _ B2).mono ?_
  rintro e w3 ⟨v', rfl, hO3, hb3⟩
  have hO3 := Lib.hid ((hO3.slw Act1.len).1.mono B2.size (Nat.le_refl _))
  have B3 := B2.trans (hb3.mono B2.size)
  clear hb3
  go_wp2
  go_ret2
  exact ⟨_, rfl, hO3.out, B3⟩
theorem spec_TurnBy0 (a n : Int) (w : World) (ha : Dir a) (hn : -1000 ≤ n ∧ n ≤ 1000) : Calls Try.prog 29 #[.int .i64 a, .int .i64 n] w fun e w' => e = .returned (.tuple #[.int .i64 ((a + n) % 24), .int .i64 0]) ∧ w = w' := by
  obtain ⟨ha1, ha2⟩ := ha
  obtain ⟨hn1, hn2⟩ := hn
  go_enter Try.func29, Try.ntmps29
  go_wp2_with (first | (go_at_call 71; refine (spec_Dir_t _ _ (by omega) (by omega)).mono ?_; rintro e w' ⟨rfl, rfl⟩) | (go_at_call 56; refine (spec_In_t _ _ _ _ (by omega) (by omega)).mono ?_; rintro e w' ⟨rfl, rfl⟩) | (go_at_call 72; refine (spec_Mod _ _ (by omega)).mono ?_; rintro e w' ⟨rfl, rfl⟩))
  go_ret2
  exact ⟨rfl, rfl⟩
set_option maxRecDepth 100000 in
set_option maxHeartbeats 4000000 in
theorem impl_Guard1 (tv : Value) (rows : List SV) (T : Tab) (lo hi : Nat) (v : Wtc) (first : Bool) (d : Nat) (seen : Int) (w : World) (h : TabR lo hi w tv rows T) (hT : TabOk T) (hv : v.ok) (hd : d < 24) (hs : Dir seen) (hf : freeB T first d seen v.margin = true) :
    Calls Try.prog 30 #[tv, .agg v.cells.toArray, .bool first, .int .i64 d, .int .i64 seen] w fun e w' => e = .returned (.bool true) ∧ Below w.heap.size w w' := by
  have hC := Lib.hid (fun w' (hb : Below w.heap.size w w') => impl_TabOk tv rows T lo hi w' (h.ext hb))
  have hK := Lib.hid (fun w' (hb : Below w.heap.size w w') => impl_clear tv rows T lo hi v.margin first d seen w' (h.ext hb) hT hv.1 hd hs)
  have hV := Lib.hid (fun w => impl_valid v w)
  rw [hf] at hK
  rw [decide_eq_true hT] at hC
  rw [decide_eq_true hv] at hV
  have hd2 : (d : Int) < 24 := by omega
  obtain ⟨hs1, hs2⟩ := hs
  clear h hT hf hv hd
  obtain ⟨m, t⟩ := v
  simp only [Wtc.cells] at *
  go_enter Try.func30, Try.ntmps30
  go_wp2_with fail
  refine (hC.out _ ((Below.refl w.heap.size w).alloc (Nat.le_refl _) _)).mono ?_
  rintro e w2 ⟨rfl, hb2⟩
  have q2 := (bcell hb2).1
  have z2 : w.heap.size < w2.heap.size := Nat.lt_of_lt_of_le (by simp) hb2.size
  have B2 : Below w.heap.size w w2 := ((Below.refl w.heap.size w).alloc (Nat.le_refl _) _).trans (hb2.mono (by simp))
  go_wp2_with (first | (go_at_call 68; refine (hV.out _).mono ?_; rintro e w3 ⟨rfl, hb3⟩; have q3 := (bcell hb3).1; have z3 := Nat.lt_of_lt_of_le z2 hb3.size; have B3 := B2.trans (hb3.mono B2.size)) | (go_at_call 61; refine (impl_isDirection_t _ _ (by omega) (by omega)).mono ?_; rintro e w' ⟨rfl, rfl⟩) | (go_at_call 74; refine (hK.out _ B3).mono ?_; rintro e w' ⟨rfl, rfl⟩) | fail)
  go_ret
  exact ⟨rfl, B3⟩
end Go.Proofs.Ytmkhapgkiecmaaa
