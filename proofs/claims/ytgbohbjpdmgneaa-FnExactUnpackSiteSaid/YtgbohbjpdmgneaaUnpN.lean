/- The program's reader: number. -/
import Derived.Test.YtgbohbjpdmgneaaUnp
namespace Go.Proofs.Ytgbohbjpdmgneaa
open Go.RowKit

def NumPost (b : Nat) (l : List UInt8) (bad : Bool) (w : World) (e : Ending) (w' : World) : Prop :=
  (∀ v r c, dec 7 l = some (v, r, c) → e = .returned (.int .i64 (plain v)) ∧ Un b r bad w') ∧ (dec 7 l = none → ∃ n r, e = .returned (.int .i64 n) ∧ Fit n ∧ r.length ≤ 1048576 ∧ Un b r true w') ∧ Mod b (b + 1) w w'
theorem numP_cases (v : Nat) : ((v : Int).tmod 2 = 1 ∧ (-((v : Int) + 1)).tdiv 2 = plain v) ∨ ((v : Int).tmod 2 = 0 ∧ (v : Int).tdiv 2 = plain v) := by
  unfold plain
  by_cases h : v % 2 = 1
  · refine .inl ⟨by rw [Int.tmod_eq_emod_of_nonneg (by omega)]; omega, ?_⟩
    rw [if_pos h, Int.neg_tdiv, Int.tdiv_eq_ediv_of_nonneg (by omega)]
  · refine .inr ⟨by rw [Int.tmod_eq_emod_of_nonneg (by omega)]; omega, ?_⟩
    rw [if_neg h, Int.tdiv_eq_ediv_of_nonneg (by omega)]
theorem plain_fit {v : Nat} (h : v < 9223372036854775808) : Fit (plain v) := by
  unfold plain Fit
  split <;> omega
theorem wrap_fit {n : Int} (h : Fit n) : wrap64 n = n := by unfold Fit at h; unfold wrap64; omega
theorem step_facts (c : UInt8) (a U : Nat) (hU : U ≤ 4398046511104) (ha : a < U) : (c.toNat : Int).tmod 128 = ((c.toNat % 128 : Nat) : Int) ∧ ((c.toNat % 128 : Nat) : Int) * (U : Int) = ((c.toNat % 128 * U : Nat) : Int) ∧ a + c.toNat % 128 * U < U * 128 ∧ a + c.toNat % 128 * U < 562949953421312 := by
  have h1 : c.toNat % 128 * U ≤ 127 * U := Nat.mul_le_mul_right U (by omega)
  exact ⟨rfl, by simp, by omega, by omega⟩

theorem pow_bound {U k : Nat} (h : U = 128 ^ k) (hk : k < 7) : U ≤ 4398046511104 := by
  rw [h]; exact Nat.le_trans (Nat.pow_le_pow_right (by decide) (show k ≤ 6 by omega)) (by decide)
theorem dec_nil (j : Nat) : dec j [] = none := by cases j <;> rfl
theorem dec_last {j : Nat} {c : UInt8} {r : List UInt8} (hc : c.toNat < 128) : dec (j + 1) (c :: r) = some (c.toNat, r, decide (0 < c.toNat)) := by rw [dec, if_pos hc]
theorem dec_more {j : Nat} {c : UInt8} {r : List UInt8} (hc : ¬ c.toNat < 128) : dec (j + 1) (c :: r) = (dec j r).map fun x => (c.toNat % 128 + 128 * x.1, x.2.1, x.2.2) := by rw [dec, if_neg hc]

set_option maxRecDepth 100000 in
set_option maxHeartbeats 4000000 in
theorem impl_num (b : Nat) (l : List UInt8) (bad : Bool) (w : World) (h : Un b l bad w) (hl : l.length ≤ 1048576) :
    Calls Try.prog 164 #[.pointer (some ⟨b, 0, none⟩)] w (NumPost b l bad w) := by
  have Hun := Lib.hid h
  clear h
  go_enter Try.func164, Try.ntmps164
  go_wp2
  go_loopw [3, 4, 6] (fun a u i wr => ∃ (A U k : Nat) (l' : List UInt8), i = .int .i64 k ∧ k ≤ 7 ∧ a = .int .i64 A ∧ u = .int .i64 U ∧ A < U ∧ Hid (U = 128 ^ k) ∧ Hid (dec 7 l = (dec (7 - k) l').map fun x => (A + U * x.1, x.2)) ∧ Hid (Un b l' bad wr) ∧ l'.length ≤ 1048576 ∧ Mod b (b + 1) w wr) (fun _ _ i _ => 7 - (intOf i).toNat)
  case atStart => exact ⟨0, 1, 0, l, rfl, by omega, rfl, rfl, by omega, Lib.hid rfl, Lib.hid (by simp), Hun, hl, Mod.refl _ _ _⟩
  case round =>
    obtain ⟨A, U, k, l', rfl, hk, rfl, rfl, hA, hU, hdec, hun, hl', hM⟩ := hrel
    by_cases hlt : k < 7
    · have hUb := pow_bound hU.out hlt
      cases l' with
      | nil =>
        have hn : dec 7 l = none := by rw [hdec.out, dec_nil]; rfl
        have Hn := Lib.hid hn
        clear hn
        have hpf := plain_fit (v := A) (by omega)
        have hpw := Lib.hid (wrap_fit hpf)
        have hpc := numP_cases A
        have HM := Lib.hid hM
        clear hM
        generalize plain A = pa at *
        rcases hpc with ⟨q1, q2⟩ | ⟨q1, q2⟩
        all_goals
          have Q2 := Lib.hid q2
          clear q2
          go_wp2_with fail
          refine (oneByte_nil b bad wr hun.out).mono ?_
          rintro e w2 ⟨rfl, hu2, hm2⟩
          have Hu2 := Lib.hid hu2
          clear hu2
          go_wp2
          go_ret
          exact ⟨fun v r c hd => absurd (Hn.out.symm.trans hd) (by simp), fun _ => ⟨pa, [], ret_int (by first | exact Q2.out | exact (congrArg wrap64 Q2.out).trans hpw.out), hpf, by simp, Hu2.out⟩, HM.out.trans hm2⟩
      | cons c r =>
        obtain ⟨f1, f2, f3, f4⟩ := step_facts c A U hUb hA
        have hcl := c.toNat_lt
        have hlr : r.length ≤ 1048576 := by simp at hl'; omega
        have hcall := Lib.hid (oneByte_cons b c r bad wr hun.out hlr)
        have HM := Lib.hid hM
        clear hM
        have hk6 : 7 - k = (6 - k) + 1 := by omega
        by_cases hc : c.toNat < 128
        · have hd : dec 7 l = some (A + c.toNat % 128 * U, r, decide (0 < c.toNat)) := by
            rw [hdec.out, hk6, dec_last hc, Nat.mod_eq_of_lt hc, Nat.mul_comm]; rfl
          have hpc := numP_cases (A + c.toNat % 128 * U)
          have hpf := plain_fit (v := A + c.toNat % 128 * U) (by omega)
          have hpw := Lib.hid (wrap_fit hpf)
          have Hd := Lib.hid hd
          clear hd hdec hpf
          generalize c.toNat % 128 * U = P at *
          generalize c.toNat % 128 = m at *
          generalize hpa : plain (A + P) = pa at *
          have Hpa := Lib.hid hpa
          clear hpa
          simp only [Int.natCast_add] at hpc
          rcases hpc with ⟨q1, q2⟩ | ⟨q1, q2⟩
          all_goals
            have Q2 := Lib.hid q2
            clear q2
            go_wp2_with fail
            refine hcall.out.mono ?_
            rintro e w2 ⟨rfl, hu2, hm2⟩
            have Hu2 := Lib.hid hu2
            clear hu2
            go_wp2
            go_ret
            refine ⟨fun v r' c' hd => ?_, fun hd => absurd (Hd.out.symm.trans hd) (by simp), HM.out.trans hm2⟩
            have := Hd.out.symm.trans hd
            simp only [Option.some.injEq, Prod.mk.injEq] at this
            obtain ⟨rfl, rfl, _⟩ := this
            exact ⟨ret_int (by rw [Hpa.out]; first | exact Q2.out | exact (congrArg wrap64 Q2.out).trans hpw.out), Hu2.out⟩
        · have hd : dec 7 l = (dec (7 - (k + 1)) r).map fun x => (A + c.toNat % 128 * U + U * 128 * x.1, x.2) := by
            rw [hdec.out, hk6, dec_more hc, show 7 - (k + 1) = 6 - k by omega, Option.map_map]
            congr 1
            funext x
            simp only [Function.comp]
            rw [Nat.mul_add, Nat.mul_comm U (c.toNat % 128), ← Nat.mul_assoc, Nat.add_assoc]
          have Hd := Lib.hid hd
          have HU : Hid (U * 128 = 128 ^ (k + 1)) := Lib.hid (by rw [Nat.pow_succ, hU.out])
          clear hd hdec
          generalize c.toNat % 128 * U = P at *
          generalize c.toNat % 128 = m at *
          go_wp2_with fail
          refine hcall.out.mono ?_
          rintro e w2 ⟨rfl, hu2, hm2⟩
          have Hu2 := Lib.hid hu2
          clear hu2
          go_wp2
          go_roundw
          case rel => exact ⟨A + P, U * 128, k + 1, r, by go_num, by omega, by go_num, by go_num, f3, HU, Hd, Hu2, hlr, HM.out.trans hm2⟩
          case measure => simp [intOf]; omega
    · have hk7 : k = 7 := by omega
      subst hk7
      have hn : dec 7 l = none := by rw [hdec.out]; rfl
      have Hn := Lib.hid hn
      have c1 := hun.out.c1
      have f1 := hun.out.f 1
      have Hfin := Lib.hid (hun.out.setBad true)
      have HM := Lib.hid hM
      clear hn hM
      go_wp2
      go_ret
      exact ⟨fun v r c hd => absurd (Hn.out.symm.trans hd) (by simp), fun _ => ⟨0, _, rfl, ⟨by omega, by omega⟩, hl', Hfin.out⟩, HM.out.setCell (p := ⟨b, 1, none⟩) (Nat.le_refl _) (Nat.lt_succ_self _) _⟩
end Go.Proofs.Ytgbohbjpdmgneaa
