/- The log: valid signers, the program. -/
import Derived.Test.YtjjibdjliejcfaaGreatDoorLgV
import Derived.Handy
namespace Go.Proofs.YtjjibdjliejcfaaGreatDoor
open Go.RowKit
set_option maxRecDepth 100000 in
set_option maxHeartbeats 8000000 in
theorem impl_SgnOk (v : Value) (l : List Sgn) (lo hi : Nat) (w : World) (h : Sgns lo hi w v l) (hwf : ∀ x ∈ l, x.wf) :
    Calls Tryz.prog 67 #[v] w fun e w' => e = .returned (.bool (sgnsB l)) ∧ Below w.heap.size w w' := by
  have hsl := h
  obtain ⟨a, cap, rfl, hlen, hh⟩ := h
  clear hh
  have Hwf := Lib.hid hwf
  clear hwf
  go_enter Tryz.func67, Tryz.ntmps67
  go_wp2
  go_loopw [7] (fun i wr => ∃ k : Nat, k ≤ l.length ∧ i = .int .i64 k ∧ Below w.heap.size w wr ∧ Hid (∀ i (h : i < l.length), i < k → sgnRow l i h)) (fun i _ => l.length - (intOf i).toNat)
  case atStart => exact ⟨0, Nat.zero_le _, rfl, Below.refl _ _, Lib.hid (fun _ _ h => absurd h (by omega))⟩
  case round =>
    obtain ⟨k, hk, rfl, hB, hall⟩ := hrel
    by_cases hlt : k < l.length
    · obtain ⟨b, off, rfl⟩ := hsl.addr (by omega)
      obtain ⟨c0, c1⟩ := Sgns.at (hsl.ext hB).get hlt
      have hbw := World.block_lt_of_cell? wr _ c0
      have htk := (hsl.ext hB).take (k := k) (by omega)
      have hSig := fun w' (x : ByteArray) (hb : Below wr.heap.size wr w') => impl_Signer _ (l.take k) lo hi x w' (htk.ext hb)
      have hw0 := (Hwf.out _ (List.getElem_mem hlt)).1
      have Hst := Lib.hid (fun h => sgn_step hlt hall.out h)
      have Hbad := Lib.hid (fun (h : ¬ sgnRow l k hlt) => sgnsB_f (l := l) (fun hs => h (hs.1 k hlt)))
      have Hrow : Hid (sgnRow l k hlt ↔ l[k].ok ∧ ∀ j (hj : j < k), ¬ l[j].name = l[k].name) := Lib.hid Iff.rfl
      have Htl : Hid ((l.take k).length = k) := Lib.hid (by rw [List.length_take]; omega)
      have Htg : Hid (∀ j (hj : j < k) (h2 : j < (l.take k).length), (l.take k)[j] = l[j]'(by omega)) := Lib.hid (fun j hj h2 => List.getElem_take)
      clear hsl htk
      generalize hx : l[k] = x at *
      obtain ⟨x0, x1⟩ := x
      dsimp only at *
      have hN := fun w' => impl_IsName x0 w' hw0
      have hba : Below wr.heap.size wr (wr.alloc (.cells #[.string x0, .int .i64 x1] 59)) := (Below.refl _ _).alloc (Nat.le_refl _) _
      have eA : (wr.alloc (.cells #[.string x0, .int .i64 x1] 59)).heap[wr.heap.size]? = some (.cells #[.string x0, .int .i64 x1] 59) := Array.getElem?_push_size
      obtain ⟨WA, hWA⟩ : ∃ WA, wr.alloc (.cells #[.string x0, .int .i64 x1] 59) = WA := ⟨_, rfl⟩
      rw [hWA] at hba eA
      have HWA := Lib.hid hWA
      have hBA := hB.trans (hba.mono hB.size)
      have hzA : wr.heap.size < WA.heap.size := (Array.getElem?_eq_some_iff.1 eA).1
      have d0 : WA.cell? ⟨wr.heap.size, 0, none⟩ = some (.string x0) := by rw [Lib.cell_of_heap eA]; rfl
      have d1 : WA.cell? ⟨wr.heap.size, 1, none⟩ = some (.int .i64 x1) := by rw [Lib.cell_of_heap eA]; rfl
      by_cases h1 : isNm x0
      · rw [nmB_t h1] at hN
        have HN := Lib.hid hN
        clear hN
        by_cases h2 : 1 ≤ x1 ∧ x1 ≤ 65520
        · obtain ⟨h2a, h2b⟩ := h2
          have HS := Lib.hid (fun w' (hb : Below WA.heap.size WA w') => hSig w' x0 (hba.trans (hb.mono hba.size)))
          have hk1 : (0 : Int) ≤ (k : Int) := by omega
          have hk2 : (k : Int) ≤ (cap : Int) := by omega
          have hk3 : (k : Int) ≤ (l.length : Int) := by omega
          have hk4 : k ≤ cap := by omega
          clear hSig hba eA hWA hx
          go_wp2_with fail
          rw [HWA.out]
          go_region_held3 (fun w' => (∀ b' o', b' < WA.heap.size → w'.cell? ⟨b', o', none⟩ = WA.cell? ⟨b', o', none⟩) ∧ Below WA.heap.size WA w') (first | (refine heldB ?_; go_grown; done))
            (first
              | (go_at_call 75; refine (HN.out _).mono ?_; rintro e w' ⟨rfl, rfl⟩)
              | (go_at_call 44; refine (impl_within_t _ _ _ _ (by omega) (by omega)).mono ?_; rintro e w' ⟨rfl, rfl⟩)
              | (go_at_call 46; refine (HS.out _ ?hb).mono ?_; (case hb => go_grown); rintro e w2 ⟨q, rfl, hq, hb2⟩; have b2 : Below WA.heap.size WA w2 := Below.trans (by go_grown) (hb2.mono (by go_size))))
          have hB2 := hBA.trans (b2.mono hBA.size)
          rcases hq with ⟨m, hm, rfl, hmn, -⟩ | ⟨rfl, hno⟩
          · have Hr := Lib.hid (Hbad.out (fun h => by
              have hmk : m < k := by have := Htl.out; omega
              exact (Hrow.out.1 h).2 m hmk (by rw [← Htg.out m hmk hm]; exact hmn)))
            have hge : decide ((0 : Int) ≤ (m : Int)) = true := decide_eq_true (by omega)
            clear Hst Hbad Hrow h1 Htl Htg b2 hb2 hmn hm
            go_wp2
            go_ret
            exact ⟨ret_bool Hr.out.symm, hB2⟩
          · have Hn := Lib.hid (Hst.out (Hrow.out.2 ⟨⟨h1, h2a, h2b⟩, fun j hj e => by
              have hjl : j < (l.take k).length := by rw [Htl.out]; exact hj
              exact hno j hjl (by rw [Htg.out j hj hjl]; exact e)⟩))
            clear Hst Hbad Hrow h1 Htl Htg b2 hb2 hno
            go_wp2
            go_roundw
            case rel => exact ⟨k + 1, by omega, by go_num, hB2, Hn⟩
            case measure => simp [intOf]; omega
        · have Hr := Lib.hid (Hbad.out (fun h => h2 (Hrow.out.1 h).1.2))
          clear hSig Hst Hbad Hrow h1 hx hba eA hWA Htl Htg
          go_wp2_with fail
          rw [HWA.out]
          go_wp2_with (go_quiet (first | (go_at_call 75; exact Calls.quiet_of_same (Calls.turn (HN.out _))) | (go_at_call 44; exact Calls.quiet_of_same (Calls.turn (impl_within_f _ _ _ _ (by omega))))))
          go_ret
          exact ⟨ret_bool Hr.out.symm, below_dN hBA _⟩
      · have Hr := Lib.hid (Hbad.out (fun h => h1 (Hrow.out.1 h).1.1))
        rw [nmB_f h1] at hN
        have HN := Lib.hid hN
        clear hN hSig Hst Hbad Hrow h1 hx hba eA hWA Htl Htg
        go_wp2_with fail
        rw [HWA.out]
        go_wp2_with (go_quiet (first | (go_at_call 75; exact Calls.quiet_of_same (Calls.turn (HN.out _)))))
        go_ret
        exact ⟨ret_bool Hr.out.symm, below_dN hBA _⟩
    · by_cases h8 : 1 ≤ l.length ∧ l.length ≤ 8
      · have Hr := Lib.hid (sgnsB_t (l := l) ⟨fun i hi => hall.out i hi (by omega), h8⟩)
        obtain ⟨h8a, h8b⟩ := h8
        go_wp2
        go_ret
        exact ⟨ret_bool (by first | exact Hr.out.symm | (rw [Hr.out]; simp; done) | (rw [Hr.out]; simp; omega)), hB⟩
      · have Hr := Lib.hid (sgnsB_f (l := l) (fun h => h8 h.2))
        by_cases h1 : 1 ≤ l.length
        · have h2 : ¬ l.length ≤ 8 := by omega
          go_wp2
          go_ret
          exact ⟨ret_bool (by first | exact Hr.out.symm | (rw [Hr.out]; simp; done) | (rw [Hr.out]; simp; omega)), hB⟩
        · go_wp2
          go_ret
          exact ⟨ret_bool (by first | exact Hr.out.symm | (rw [Hr.out]; simp; done) | (rw [Hr.out]; simp; omega)), hB⟩
end Go.Proofs.YtjjibdjliejcfaaGreatDoor
