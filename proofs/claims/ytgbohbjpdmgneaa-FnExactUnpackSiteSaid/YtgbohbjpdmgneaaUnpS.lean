/- Numbers read back from their bytes: the reference's reader. -/
import Derived.Test.YtgbohbjpdmgneaaUnpN
namespace Go.Proofs.Ytgbohbjpdmgneaa
open Go.RowKit

/-- Block b is the reference's reader: the bytes l, the place, the mark. -/
def Rd (b : Nat) (l : List UInt8) (at_ : Nat) (ok : Bool) (w : World) : Prop := w.heap[b]? = some (.cells #[.string (bs l), .int .i64 at_, .bool ok] 154 (0, 0))
theorem Rd.c0 {b : Nat} {l : List UInt8} {k : Nat} {ok : Bool} {w : World} (h : Rd b l k ok w) : w.cell? ⟨b, 0, none⟩ = some (.string (bs l)) := by rw [Lib.cell_of_heap h]; rfl
theorem Rd.c1 {b : Nat} {l : List UInt8} {k : Nat} {ok : Bool} {w : World} (h : Rd b l k ok w) : w.cell? ⟨b, 1, none⟩ = some (.int .i64 k) := by rw [Lib.cell_of_heap h]; rfl
theorem Rd.c2 {b : Nat} {l : List UInt8} {k : Nat} {ok : Bool} {w : World} (h : Rd b l k ok w) : w.cell? ⟨b, 2, none⟩ = some (.bool ok) := by rw [Lib.cell_of_heap h]; rfl
theorem Rd.f {b : Nat} {l : List UInt8} {k : Nat} {ok : Bool} {w : World} (h : Rd b l k ok w) (j : Nat) : w.frozen? ⟨b, j, none⟩ = false := Lib.frozen_of_heap h j
theorem Rd.setOk {b : Nat} {l : List UInt8} {k : Nat} {ok : Bool} {w : World} (h : Rd b l k ok w) (x : Bool) : Rd b l k x (w.setCell ⟨b, 2, none⟩ (.bool x)) := by
  unfold Rd at *
  simp [World.setCell, Array.getElem?_modify, h]
theorem Rd.setAt {b : Nat} {l : List UInt8} {k : Nat} {ok : Bool} {w : World} (h : Rd b l k ok w) (x : Nat) : Rd b l x ok (w.setCell ⟨b, 1, none⟩ (.int .i64 x)) := by
  unfold Rd at *
  simp [World.setCell, Array.getElem?_modify, h]

set_option maxHeartbeats 1000000 in
theorem spec_Plain (v : Nat) (w : World) (h : v < 9223372036854775807) : Calls Try.prog 183 #[.int .i64 v] w fun e w' => e = .returned (.int .i64 (plain v)) ∧ w' = w := by
  have hpc := numP_cases v
  have hpw := Lib.hid (wrap_fit (plain_fit (v := v) (by omega)))
  generalize plain v = pa at *
  rcases hpc with ⟨q1, q2⟩ | ⟨q1, q2⟩
  all_goals
    have Q2 := Lib.hid q2
    clear q2
    go_enter Try.func183, Try.ntmps183
    go_wp2
    go_ret
    exact ⟨ret_int (by first | exact Q2.out | exact (congrArg wrap64 Q2.out).trans hpw.out), rfl⟩


theorem shift_val (c : UInt8) (A U k : Nat) (hU : U = 128 ^ k) (h : A + c.toNat % 128 * U < 562949953421312) : wrap64 ((A : Int) + wrap64 ((c.toNat : Int) % 128 * 2 ^ (7 * k))) = ((A + c.toNat % 128 * U : Nat) : Int) := by
  have h2 : (2 : Int) ^ (7 * k) = (U : Int) := by
    rw [hU, Int.natCast_pow, Int.pow_mul]; rfl
  have h3 : (c.toNat : Int) % 128 * (U : Int) = ((c.toNat % 128 * U : Nat) : Int) := by simp
  rw [h2, h3]
  generalize c.toNat % 128 * U = P at *
  unfold wrap64
  omega

def SNum (b : Nat) (l : List UInt8) (p : Nat) (w : World) (e : Ending) (w' : World) : Prop :=
  (∀ v r c, dec 7 (l.drop p) = some (v, r, c) → e = .returned (.int .i64 (plain v)) ∧ Rd b l (l.length - r.length) (c || decide (l.length - r.length = p + 1)) w') ∧ (dec 7 (l.drop p) = none → e = .returned (.int .i64 0) ∧ ∃ p', p' ≤ l.length ∧ Rd b l p' false w') ∧ Mod b (b + 1) w w'

set_option maxRecDepth 100000 in
set_option maxHeartbeats 4000000 in
theorem spec_num (b : Nat) (l : List UInt8) (p : Nat) (w : World) (h : Rd b l p true w) (hl : l.length ≤ 1048576) (hp : p ≤ l.length) :
    Calls Try.prog 161 #[.pointer (some ⟨b, 0, none⟩)] w (SNum b l p w) := by
  have Hrd := Lib.hid h
  have hsz : (bs l).size = l.length := by simp [bs, ByteArray.size]
  clear h
  go_enter Try.func161, Try.ntmps161
  go_wp2
  go_loopw [3, 4] (fun a i wr => ∃ (A U k : Nat), i = .int .i64 k ∧ k ≤ 7 ∧ a = .int .i64 A ∧ A < U ∧ Hid (U = 128 ^ k) ∧ Hid (dec 7 (l.drop p) = (dec (7 - k) (l.drop (p + k))).map fun x => (A + U * x.1, x.2)) ∧ Hid (Rd b l (p + k) true wr) ∧ p + k ≤ l.length ∧ Mod b (b + 1) w wr) (fun _ i _ => 7 - (intOf i).toNat)
  case atStart => exact ⟨0, 1, 0, rfl, by omega, rfl, by omega, Lib.hid rfl, Lib.hid (by simp), Hrd, hp, Mod.refl _ _ _⟩
  case round =>
    obtain ⟨A, U, k, rfl, hk, rfl, hA, hU, hdec, hrd, hpk, hM⟩ := hrel
    have c0 := hrd.out.c0
    have c1 := hrd.out.c1
    have c2 := hrd.out.c2
    have g1 := hrd.out.f 1
    have g2 := hrd.out.f 2
    have HM := Lib.hid hM
    clear hM
    by_cases hlt : k < 7
    · have hUb := pow_bound hU.out hlt
      by_cases hend : p + k < l.length
      · obtain ⟨q, hq⟩ : ∃ q, q = p + k := ⟨_, rfl⟩
        rw [← hq] at c1 hend hpk
        obtain ⟨c, hc⟩ : ∃ c, c = l[q] := ⟨_, rfl⟩
        have hdrop : l.drop (p + k) = c :: l.drop (q + 1) := by rw [← hq, hc]; exact List.drop_eq_getElem_cons hend
        have hdec2 := hdec.out
        rw [hdrop] at hdec2
        have Hdec := Lib.hid hdec2
        have Hrd2 := Lib.hid (show Rd b l q true wr by rw [hq]; exact hrd.out)
        have hg : ∀ h : q < (bs l).size, (bs l)[q]'h = c := fun h => by rw [hc]; rfl
        clear hc hdec hdec2 hdrop hrd
        have Hq := Lib.hid hq
        clear hq
        obtain ⟨f1, f2, f3, f4⟩ := step_facts c A U hUb hA
        have hcl := c.toNat_lt
        have HA := Lib.hid (Hrd2.out.setAt (q + 1))
        have Hsv := Lib.hid (shift_val c A U k hU.out f4)
        have hk6 : 7 - k = (6 - k) + 1 := by omega
        by_cases hc : c.toNat < 128
        · have hd : dec 7 (l.drop p) = some (A + c.toNat % 128 * U, l.drop (q + 1), decide (0 < c.toNat)) := by
            rw [Hdec.out, hk6, dec_last hc, Nat.mod_eq_of_lt hc, Nat.mul_comm]; rfl
          have Hd := Lib.hid hd
          have HX := Lib.hid (fun x => (Hrd2.out.setAt (q + 1)).setOk x)
          have hll : l.length - (l.drop (q + 1)).length = q + 1 := by rw [List.length_drop]; omega
          have Hll := Lib.hid hll
          clear hd Hdec hll
          generalize bs l = s at *
          have hqs : q < s.size := by omega
          have hg2 := hg hqs
          have hcd : decide ((c.toNat : Int) < 128) = true := decide_eq_true (by omega)
          by_cases h0 : 0 < c.toNat
          · have h0d : decide ((0 : Int) < (c.toNat : Int)) = true := decide_eq_true (by omega)
            go_wp2_with fail
            go_quiet (fail)
            go_wp2_with fail
            go_quiet (fail)
            go_wp2_with fail
            rw [Hsv.out]
            refine (spec_Plain _ _ (by omega)).mono ?_
            rintro e w2 ⟨rfl, rfl⟩
            go_wp2
            go_ret
            refine ⟨fun v r' c' hd => ?_, fun hd => absurd (Hd.out.symm.trans hd) (by simp), ((HM.out.drewN _).setCell (p := ⟨b, 1, none⟩) (Nat.le_refl _) (Nat.lt_succ_self _) _).setCell (p := ⟨b, 2, none⟩) (Nat.le_refl _) (Nat.lt_succ_self _) _⟩
            have := Hd.out.symm.trans hd
            simp only [Option.some.injEq, Prod.mk.injEq] at this
            obtain ⟨rfl, rfl, rfl⟩ := this
            refine ⟨rfl, ?_⟩
            rw [Hll.out]
            have hx := HX.out (decide (0 < c.toNat) || decide (q + 1 = p + 1))
            rw [show (decide (0 < c.toNat) || decide (q + 1 = p + 1)) = true by rw [decide_eq_true h0]; rfl] at hx ⊢
            exact hx
          · have h0d : decide ((0 : Int) < (c.toNat : Int)) = false := decide_eq_false (by omega)
            by_cases hk0 : k = 0
            · have hk0d : ((k : Int) == 0) = true := by simp; omega
              have hk0e : decide ((k : Int) = 0) = true := by simp; omega
              have hU1 : U = 1 := by rw [hU.out, hk0, Nat.pow_zero]
              have Hs0 : Hid ((A : Int) + (c.toNat : Int) % 128 = ((A + c.toNat % 128 * U : Nat) : Int)) := Lib.hid (by rw [hU1]; omega)
              clear hU1
              go_wp2_with fail
              go_quiet (fail)
              go_wp2_with fail
              go_quiet (fail)
              go_wp2_with fail
              first | rw [Hsv.out] | rw [Hs0.out]
              refine (spec_Plain _ _ (by omega)).mono ?_
              rintro e w2 ⟨rfl, rfl⟩
              go_wp2
              go_ret
              refine ⟨fun v r' c' hd => ?_, fun hd => absurd (Hd.out.symm.trans hd) (by simp), ((HM.out.drewN _).setCell (p := ⟨b, 1, none⟩) (Nat.le_refl _) (Nat.lt_succ_self _) _).setCell (p := ⟨b, 2, none⟩) (Nat.le_refl _) (Nat.lt_succ_self _) _⟩
              have := Hd.out.symm.trans hd
              simp only [Option.some.injEq, Prod.mk.injEq] at this
              obtain ⟨rfl, rfl, rfl⟩ := this
              refine ⟨rfl, ?_⟩
              rw [Hll.out]
              have hx := HX.out (decide (0 < c.toNat) || decide (q + 1 = p + 1))
              rw [show (decide (0 < c.toNat) || decide (q + 1 = p + 1)) = true by rw [decide_eq_false h0, decide_eq_true (by have := Hq.out; omega)]; rfl] at hx ⊢
              exact hx
            · have hk0d : ((k : Int) == 0) = false := by simp; omega
              have hk0e : decide ((k : Int) = 0) = false := by simp; omega
              go_wp2_with fail
              go_quiet (fail)
              go_wp2_with fail
              go_quiet (fail)
              go_wp2_with fail
              rw [Hsv.out]
              refine (spec_Plain _ _ (by omega)).mono ?_
              rintro e w2 ⟨rfl, rfl⟩
              go_wp2
              go_ret
              refine ⟨fun v r' c' hd => ?_, fun hd => absurd (Hd.out.symm.trans hd) (by simp), ((HM.out.drewN _).setCell (p := ⟨b, 1, none⟩) (Nat.le_refl _) (Nat.lt_succ_self _) _).setCell (p := ⟨b, 2, none⟩) (Nat.le_refl _) (Nat.lt_succ_self _) _⟩
              have := Hd.out.symm.trans hd
              simp only [Option.some.injEq, Prod.mk.injEq] at this
              obtain ⟨rfl, rfl, rfl⟩ := this
              refine ⟨rfl, ?_⟩
              rw [Hll.out]
              have hx := HX.out (decide (0 < c.toNat) || decide (q + 1 = p + 1))
              rw [show (decide (0 < c.toNat) || decide (q + 1 = p + 1)) = false by rw [decide_eq_false h0, decide_eq_false (by have := Hq.out; omega)]; rfl] at hx ⊢
              exact hx
        · have hd : dec 7 (l.drop p) = (dec (7 - (k + 1)) (l.drop (p + (k + 1)))).map fun x => (A + c.toNat % 128 * U + U * 128 * x.1, x.2) := by
            rw [Hdec.out, hk6, dec_more hc, show 7 - (k + 1) = 6 - k by omega, Option.map_map, show p + (k + 1) = q + 1 by have := Hq.out; omega]
            congr 1
            funext x
            simp only [Function.comp]
            rw [Nat.mul_add, Nat.mul_comm U (c.toNat % 128), ← Nat.mul_assoc, Nat.add_assoc]
          have Hd := Lib.hid hd
          have HU : Hid (U * 128 = 128 ^ (k + 1)) := Lib.hid (by rw [Nat.pow_succ, hU.out])
          clear hd Hdec
          generalize bs l = s at *
          have hqs : q < s.size := by omega
          have hg2 := hg hqs
          have hcd : decide ((c.toNat : Int) < 128) = false := decide_eq_false (by omega)
          go_wp2_with fail
          go_quiet (fail)
          go_wp2_with fail
          go_quiet (fail)
          go_wp2
          go_roundw
          case rel => exact ⟨A + c.toNat % 128 * U, U * 128, k + 1, by go_num, by omega, congrArg _ Hsv.out, f3, HU, Hd, Lib.hid (by have := Hq.out; rw [show p + (k + 1) = q + 1 by omega]; exact HA.out), by have := Hq.out; omega, (HM.out.drewN _).setCell (p := ⟨b, 1, none⟩) (Nat.le_refl _) (Nat.lt_succ_self _) _⟩
          case measure => simp [intOf]; omega
      · have hn : dec 7 (l.drop p) = none := by rw [hdec.out, List.drop_eq_nil_of_le (by omega), dec_nil]; rfl
        have Hn := Lib.hid hn
        clear hn
        have Hfin := Lib.hid (hrd.out.setOk false)
        generalize bs l = s at *
        have hle : decide ((s.size : Int) ≤ ((p + k : Nat) : Int)) = true := by simp; omega
        go_wp2_with fail
        go_quiet (fail)
        go_wp2
        go_ret
        exact ⟨fun v r c hd => absurd (Hn.out.symm.trans hd) (by simp), fun _ => ⟨rfl, p + k, hpk, Hfin.out⟩, (HM.out.drewN _).setCell (p := ⟨b, 2, none⟩) (Nat.le_refl _) (Nat.lt_succ_self _) _⟩
    · have hk7 : k = 7 := by omega
      subst hk7
      have hn : dec 7 (l.drop p) = none := by rw [hdec.out]; rfl
      have Hn := Lib.hid hn
      have Hfin := Lib.hid (hrd.out.setOk false)
      clear hn
      go_wp2
      go_ret
      exact ⟨fun v r c hd => absurd (Hn.out.symm.trans hd) (by simp), fun _ => ⟨rfl, p + 7, hpk, Hfin.out⟩, HM.out.setCell (p := ⟨b, 2, none⟩) (Nat.le_refl _) (Nat.lt_succ_self _) _⟩
end Go.Proofs.Ytgbohbjpdmgneaa
