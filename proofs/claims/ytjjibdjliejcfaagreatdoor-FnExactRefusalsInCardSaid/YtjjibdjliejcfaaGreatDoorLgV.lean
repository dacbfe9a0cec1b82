/- The log: valid signers, in both packages. -/
import Derived.Test.YtjjibdjliejcfaaGreatDoorLgK
import Derived.Test.YtjjibdjliejcfaaGreatDoorBasic
namespace Go.Proofs.YtjjibdjliejcfaaGreatDoor
open Go.RowKit
def Sgn.ok (x : Sgn) : Prop := isNm x.name ∧ (1 ≤ x.key ∧ x.key ≤ 65520)
def sgnRow (l : List Sgn) (i : Nat) (h : i < l.length) : Prop := l[i].ok ∧ ∀ j (hj : j < i), ¬ l[j].name = l[i].name
def sgnsOk (l : List Sgn) : Prop := (∀ i (h : i < l.length), sgnRow l i h) ∧ 1 ≤ l.length ∧ l.length ≤ 8
open Classical in
noncomputable def sgnsB (l : List Sgn) : Bool := decide (sgnsOk l)
theorem sgnsB_t {l : List Sgn} (h : sgnsOk l) : sgnsB l = true := by classical exact decide_eq_true h
theorem sgnsB_f {l : List Sgn} (h : ¬ sgnsOk l) : sgnsB l = false := by classical exact decide_eq_false h
theorem sgnsB_iff {l : List Sgn} : sgnsB l = true ↔ sgnsOk l := ⟨fun h => by classical exact of_decide_eq_true h, sgnsB_t⟩
theorem sgn_step {l : List Sgn} {k : Nat} (hlt : k < l.length) (h : ∀ i (h : i < l.length), i < k → sgnRow l i h) (hk : sgnRow l k hlt) : ∀ i (h : i < l.length), i < k + 1 → sgnRow l i h := by
  intro i hi hik
  by_cases e : i < k
  · exact h i hi e
  · have : i = k := by omega
    subst this; exact hk
theorem key_dup {l : List Sgn} {k : Nat} (hlt : k < l.length) (h : ∀ i (h : i < l.length), i < k → sgnRow l i h) (n : ByteArray) :
    (¬ keyOf (l.take k) n = 0) ↔ ∃ j, ∃ hj : j < k, l[j].name = n := by
  constructor
  · intro hne
    by_cases hd : ∃ j, ∃ hj : j < k, l[j].name = n
    · exact hd
    · exfalso
      apply hne
      refine keyOf_miss fun j hj => ?_
      rw [List.length_take] at hj
      rw [List.getElem_take]
      exact fun e => hd ⟨j, by omega, e⟩
  · rintro ⟨j, hj, hn⟩ h0
    -- the least such place
    have hleast : ∃ m, ∃ hm : m < k, l[m].name = n ∧ ∀ i (hi : i < m), ¬ l[i].name = n := by
      induction j using Nat.strongRecOn with
      | _ j ih =>
        by_cases he : ∃ i, ∃ hi : i < j, l[i].name = n
        · obtain ⟨i, hi, hin⟩ := he
          exact ih i hi (by omega) hin
        · exact ⟨j, hj, hn, fun i hi hin => he ⟨i, hi, hin⟩⟩
    obtain ⟨m, hm, hmn, hmin⟩ := hleast
    have hml : m < (l.take k).length := by rw [List.length_take]; omega
    have h1 := keyOf_hit (l := l.take k) (n := n) hml (fun i hi him => by rw [List.getElem_take]; exact hmin i him) (by rw [List.getElem_take]; exact hmn)
    rw [List.getElem_take] at h1
    have h2 := (h m (by omega) hm).1.2.1
    omega
set_option maxRecDepth 100000 in
set_option maxHeartbeats 8000000 in
theorem spec_SgnOk (v : Value) (l : List Sgn) (lo hi : Nat) (w : World) (h : Sgns lo hi w v l) (hwf : ∀ x ∈ l, x.wf) :
    Calls Tryz.prog 65 #[v] w fun e w' => e = .returned (.bool (sgnsB l)) ∧ Below w.heap.size w w' := by
  have hsl := h
  obtain ⟨a, cap, rfl, hlen, hh⟩ := h
  clear hh
  have Hwf := Lib.hid hwf
  clear hwf
  go_enter Tryz.func65, Tryz.ntmps65
  go_wp2
  go_loopw [3] (fun i wr => ∃ k : Nat, k ≤ l.length ∧ i = .int .i64 k ∧ Below w.heap.size w wr ∧ Hid (∀ i (h : i < l.length), i < k → sgnRow l i h)) (fun i _ => l.length - (intOf i).toNat)
  case atStart => exact ⟨0, Nat.zero_le _, rfl, Below.refl _ _, Lib.hid (fun _ _ h => absurd h (by omega))⟩
  case round =>
    obtain ⟨k, hk, rfl, hB, hall⟩ := hrel
    by_cases hlt : k < l.length
    · obtain ⟨b, off, rfl⟩ := hsl.addr (by omega)
      obtain ⟨c0, c1⟩ := Sgns.at (hsl.ext hB).get hlt
      have htk := (hsl.ext hB).take (k := k) (by omega)
      have hKey := fun n (x : ByteArray) => spec_Key _ (l.take k) x lo hi (wr.drewN n) (htk.ext (below_dN (Below.refl _ _) n))
      have hdup := key_dup hlt hall.out l[k].name
      have hw0 := (Hwf.out _ (List.getElem_mem hlt)).1
      have Hst := Lib.hid (fun h => sgn_step hlt hall.out h)
      have Hbad := Lib.hid (fun (h : ¬ sgnRow l k hlt) => sgnsB_f (l := l) (fun hs => h (hs.1 k hlt)))
      have Hrow : Hid (sgnRow l k hlt ↔ l[k].ok ∧ ∀ j (hj : j < k), ¬ l[j].name = l[k].name) := Lib.hid Iff.rfl
      clear hsl htk
      generalize hx : l[k] = x at *
      obtain ⟨x0, x1⟩ := x
      dsimp only at *
      have hN := fun w' => spec_IsName x0 w' hw0
      by_cases h1 : isNm x0
      · rw [nmB_t h1] at hN
        have HN := Lib.hid hN
        clear hN
        by_cases h2 : 1 ≤ x1 ∧ x1 ≤ 65520
        · obtain ⟨h2a, h2b⟩ := h2
          by_cases h3 : keyOf (l.take k) x0 = 0
          · have Hn := Lib.hid (Hst.out (Hrow.out.2 ⟨⟨h1, h2a, h2b⟩, fun j hj e => hdup.2 ⟨j, hj, e⟩ h3⟩))
            have hq : ((0 : Int) != 0) = false := rfl
            have hKey := fun n => hKey n x0
            rw [h3] at hKey
            have HK := Lib.hid hKey
            clear hKey hdup Hst Hbad Hrow h1 hx
            go_wp2_with (go_quiet (first | (go_at_call 72; exact Calls.quiet_of_same (Calls.turn (HN.out _))) | (go_at_call 41; exact Calls.quiet_of_same (Calls.turn (spec_In_t _ _ _ _ (by omega) (by omega)))) | (go_at_call 45; exact Calls.quiet_of_same (Calls.turn (HK.out _)))))
            go_roundw
            case rel => exact ⟨k + 1, by omega, by go_num, below_dN hB _, Hn⟩
            case measure => simp [intOf]; omega
          · have Hr := Lib.hid (Hbad.out (fun h => by
              obtain ⟨j, hj, e⟩ := hdup.1 h3
              exact (Hrow.out.1 h).2 j hj e))
            have hKey := fun n => hKey n x0
            generalize keyOf (l.take k) x0 = kk at *
            have hq : (kk != 0) = true := by rw [bne_iff_ne]; exact h3
            have HK := Lib.hid hKey
            clear hKey hdup Hst Hbad Hrow h1 hx h3
            go_wp2_with (go_quiet (first | (go_at_call 72; exact Calls.quiet_of_same (Calls.turn (HN.out _))) | (go_at_call 41; exact Calls.quiet_of_same (Calls.turn (spec_In_t _ _ _ _ (by omega) (by omega)))) | (go_at_call 45; exact Calls.quiet_of_same (Calls.turn (HK.out _)))))
            go_ret
            exact ⟨ret_bool Hr.out.symm, below_dN hB _⟩
        · have Hr := Lib.hid (Hbad.out (fun h => h2 (Hrow.out.1 h).1.2))
          clear hKey hdup Hst Hbad Hrow h1 hx
          go_wp2_with (go_quiet (first | (go_at_call 72; exact Calls.quiet_of_same (Calls.turn (HN.out _))) | (go_at_call 41; exact Calls.quiet_of_same (Calls.turn (spec_In_f _ _ _ _ (by omega))))))
          go_ret
          exact ⟨ret_bool Hr.out.symm, below_dN hB _⟩
      · have Hr := Lib.hid (Hbad.out (fun h => h1 (Hrow.out.1 h).1.1))
        rw [nmB_f h1] at hN
        have HN := Lib.hid hN
        clear hN hKey hdup Hst Hbad Hrow h1 hx
        go_wp2_with (go_quiet (first | (go_at_call 72; exact Calls.quiet_of_same (Calls.turn (HN.out _)))))
        go_ret
        exact ⟨ret_bool Hr.out.symm, below_dN hB _⟩
    · by_cases h8 : 1 ≤ l.length ∧ l.length ≤ 8
      · have Hr := Lib.hid (sgnsB_t (l := l) ⟨fun i hi => hall.out i hi (by omega), h8⟩)
        go_wp2_with (go_at_call 41; refine (spec_In_t _ _ _ _ (by omega) (by omega)).mono ?_; rintro e w' ⟨rfl, rfl⟩)
        go_ret
        exact ⟨ret_bool Hr.out.symm, hB⟩
      · have Hr := Lib.hid (sgnsB_f (l := l) (fun h => h8 h.2))
        go_wp2_with (go_at_call 41; refine (spec_In_f _ _ _ _ (by omega)).mono ?_; rintro e w' ⟨rfl, rfl⟩)
        go_ret
        exact ⟨ret_bool Hr.out.symm, hB⟩
end Go.Proofs.YtjjibdjliejcfaaGreatDoor
