/- Sites and lists of lifts held against each other, in both packages. (Printed by gen_smc.py.) -/
import Derived.Test.YtejicefmbodpdaaSmSCrane
import Derived.Test.YtejicefmbodpdaaSmB
namespace Go.Proofs.Ytejicefmbodpdaa
open Go.RowKit
set_option maxRecDepth 100000 in
set_option maxHeartbeats 8000000 in
theorem spec_SameSCrane (p p2 : Nat) (o o2 : Nat) (v v2 : Value) (rs rs2 : List CraneR) (L M : List (CraneF × List Chs)) (lo hi lo2 hi2 : Nat) (w : World) (hp : w.cell? ⟨p, o, none⟩ = some v) (hp2 : w.cell? ⟨p2, o2, none⟩ = some v2) (h : Cranes lo hi w v rs L) (h2 : Cranes lo2 hi2 w v2 rs2 M) :
    Calls Try.prog 31 #[.pointer (some ⟨p, o, none⟩), .pointer (some ⟨p2, o2, none⟩)] w fun e w' => e = .returned (.bool (eqL L M)) ∧ ∃ m, w' = w.drewN m := by
  have hl1 := h.len
  have hl2 := h2.len
  have hcap : rs.length ≤ 9223372036854775807 := by obtain ⟨a, cap, _, hc, _⟩ := h.out; omega
  have hcap2 : rs2.length ≤ 9223372036854775807 := by obtain ⟨a, cap, _, hc, _⟩ := h2.out; omega
  have Hs := Lib.hid h
  have Hs2 := Lib.hid h2
  obtain ⟨⟨a, cap, rfl, _⟩, _, _⟩ := h
  obtain ⟨⟨a2, cap2, rfl, _⟩, _, _⟩ := h2
  rw [hl1] at hcap hp
  rw [hl2] at hcap2 hp2
  have hbp := World.block_lt_of_cell? w _ hp
  have hbp2 := World.block_lt_of_cell? w _ hp2
  have Hp := Lib.hid hp
  have Hp2 := Lib.hid hp2
  have Hl1 := Lib.hid hl1
  have Hl2 := Lib.hid hl2
  clear hl1 hl2
  by_cases hne : ¬ L.length = M.length
  · have Hd := Lib.hid (eqL_f (a := L) (b := M) (fun e => hne (by rw [e])))
    have hb : ((L.length : Int) != (M.length : Int)) = true := by rw [bne_iff_ne]; omega
    clear hne
    go_enter Try.func31, Try.ntmps31
    go_wp2_with (go_quiet (fail))
    go_ret
    exact ⟨ret_bool Hd.out.symm, _, rfl⟩
  have hle : L.length ≤ M.length ∧ M.length ≤ L.length := by omega
  have hb : ((L.length : Int) != (M.length : Int)) = false := by rw [bne_eq_false_iff_eq]; omega
  clear hne
  go_enter Try.func31, Try.ntmps31
  go_wp2_with (go_quiet (fail))
  have hq0 : ∃ m, w.drewN nq = w.drewN m := ⟨_, rfl⟩
  go_loopw [5] (fun i wr => ∃ k : Nat, k ≤ L.length ∧ i = .int .i64 k ∧ Hid (∃ nq, wr = w.drewN nq) ∧ Hid (∀ i (h : i < L.length) (h2 : i < M.length), i < k → L[i] = M[i])) (fun i _ => L.length - (intOf i).toNat)
  case atStart => exact ⟨0, Nat.zero_le _, rfl, Lib.hid hq0, Lib.hid (fun _ _ _ h => absurd h (by omega))⟩
  case round =>
    obtain ⟨k, hk, rfl, hD, hsame⟩ := hrel
    have hB := quiet_below hD.out
    have cp := (hB.cell (p := ⟨p, o, none⟩) hbp).trans Hp.out
    have cp2 := (hB.cell (p := ⟨p2, o2, none⟩) hbp2).trans Hp2.out
    by_cases hlt : k < L.length
    · have hlt2 : k < M.length := by omega
      have hk1 : k < rs.length := by rw [Hl1.out]; exact hlt
      have hk2 : k < rs2.length := by rw [Hl2.out]; exact hlt2
      have hs : Cranes lo hi wr (.slice a L.length cap) rs L := by rw [← Hl1.out]; exact Hs.out.ext hB
      have hs2 : Cranes lo2 hi2 wr (.slice a2 M.length cap2) rs2 M := by rw [← Hl2.out]; exact Hs2.out.ext hB
      obtain ⟨hfl, hrow⟩ := hs.one hlt hk1
      obtain ⟨hfl2, hrow2⟩ := hs2.one hlt2 hk2
      obtain ⟨b, off, rfl⟩ := hs.out.addr (by omega)
      obtain ⟨b2, off2, rfl⟩ := hs2.out.addr (by omega)
      have Hnx := Lib.hid (eqL_nx hlt hlt2 hsame.out)
      have Hne : Hid (¬ L[k] = M[k] → eqL L M = false) := Lib.hid (fun h => eqL_f (fun e => h (by subst e; rfl)))
      have Hyes := Lib.hid (fun h => Hnx.out (eqP_iff.1 h))
      have Hno := Lib.hid (fun h => Hne.out (eqP_ne h))
      clear Hnx Hne
      have hcc := hs.at hk1
      have hdd := hs2.at hk2
      rw [show CraneR.cells rs[k] = CraneR.cells ⟨L[k].1, rs[k].s⟩ by unfold CraneR.cells; rw [hfl]] at hcc
      rw [show CraneR.cells rs2[k] = CraneR.cells ⟨M[k].1, rs2[k].s⟩ by unfold CraneR.cells; rw [hfl2]] at hdd
      have hcall := fun n => spec_Same1Crane b (off + k * 7) b2 (off2 + k * 7) L[k].1 M[k].1 rs[k].s rs2[k].s L[k].2 M[k].2 lo hi lo2 hi2 (wr.drewN n) hcc hdd (hrow.ext (below_dN (Below.refl _ _) n)) (hrow2.ext (below_dN (Below.refl _ _) n))
      clear hs hs2 hrow hrow2 hfl hfl2 hcc hdd
      generalize rs[k].s = s at *
      generalize rs2[k].s = s2 at *
      generalize L[k].1 = f at *
      generalize M[k].1 = g at *
      generalize L[k].2 = ll at *
      generalize M[k].2 = mm at *
      cases hq : eqP f g ll mm
      · have Hr := Lib.hid (Hno.out hq)
        rw [hq] at hcall
        clear hq Hyes Hno
        have hcall := Lib.hid hcall
        go_wp2_with (go_quiet (first | (go_at_call 53; exact Calls.quiet_of (hcall.out _))))
        go_ret
        exact ⟨ret_bool Hr.out.symm, quiet_on hD.out _⟩
      · have Hr := Lib.hid (Hyes.out hq)
        rw [hq] at hcall
        clear hq Hyes Hno
        have hcall := Lib.hid hcall
        go_wp2_with (go_quiet (first | (go_at_call 53; exact Calls.quiet_of (hcall.out _))))
        go_roundw
        case rel => exact ⟨k + 1, by omega, by go_num, Lib.hid (quiet_on hD.out _), Hr⟩
        case measure => simp [intOf]; omega
    · have Hd : Hid (eqL L M = true) := Lib.hid (eqL_t (List.ext_getElem (by omega) (fun i h1 h2 => hsame.out i h1 h2 (by omega))))
      go_wp2
      go_ret
      exact ⟨ret_bool Hd.out.symm, hD.out⟩
end Go.Proofs.Ytejicefmbodpdaa
