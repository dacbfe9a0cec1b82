/- What a controller allows, in both packages. -/
import Derived.Test.YtmkhapgkiecmaaaTabC
namespace Go.Proofs.Ytmkhapgkiecmaaa
open Go.RowKit

theorem tab_cell {lo hi : Nat} {w : World} {v : Value} {rows : List SV} {T : Tab} (h : TabR lo hi w v rows T) (hT : TabOk T) {d o : Nat} (hd : d < 24) (ho : o < 24) :
    ∃ b off cap b2 off2 cap2, v = .slice (some ⟨b, off, none⟩) 24 cap ∧ w.cell? ⟨b, off + d, none⟩ = some (.slice (some ⟨b2, off2, none⟩) 24 cap2) ∧ w.cell? ⟨b2, off2 + o, none⟩ = some (.bool (cellT T d o)) := by
  have hl := h.len
  have hdT : d < T.length := by rw [hT.1]; exact hd
  have hdr : d < rows.length := by omega
  have h24 : T[d].length = 24 := hT.2 _ (List.getElem_mem _)
  have hrow := h.row d rows[d] T[d] (List.getElem?_eq_getElem hdr) (List.getElem?_eq_getElem hdT)
  have hat := fun (b off len cap : _) (hv : v = .slice (some ⟨b, off, none⟩) len cap) => SSr.at (b := b) (off := off) (len := len) (cap := cap) (by rw [← hv]; exact h) hdr
  obtain ⟨⟨a, cap, hv, hcap, hh⟩, _, _⟩ := h
  obtain ⟨b, off, ha, _⟩ := hh (by omega)
  rw [ha] at hv
  have c0 := hat _ _ _ _ hv
  have hro := hrow
  obtain ⟨a2, cap2, hv2, hcap2, hh2⟩ := hrow
  obtain ⟨b2, off2, ha2, _, _, hc2⟩ := hh2 (by omega)
  have hoT : o < T[d].length := by omega
  have c1 := hc2 o hoT 0 (.bool T[d][o]) rfl
  have e : cellT T d o = T[d][o] := by simp [cellT, List.getD_eq_getElem?_getD, hdT, hoT]
  rw [hv2, ha2, h24] at c0
  refine ⟨b, off, cap, b2, off2, cap2, by rw [hv, hl, hT.1], c0, ?_⟩
  rw [e]
  simpa using c1

set_option maxRecDepth 100000 in
set_option maxHeartbeats 4000000 in
theorem spec_Guard (v : Value) (rows : List SV) (T : Tab) (lo hi : Nat) (m : Int) (first : Bool) (d : Nat) (seen : Int) (w : World) (h : TabR lo hi w v rows T) (hT : TabOk T) (hm : 0 ≤ m ∧ m ≤ 3) (hd : d < 24) (hs : Dir seen) :
    Calls Try.prog 101 #[v, .int .i64 m, .bool first, .int .i64 d, .int .i64 seen] w fun e w' => e = .returned (.bool (freeB T first d seen m)) ∧ w = w' := by
  have Hfree := Lib.hid (free_iff (T := T) (first := first) (d := d) hs hm)
  have Hc := Lib.hid (fun d o (hd : d < 24) (ho : o < 24) => tab_cell h hT hd ho)
  obtain ⟨hs1, hs2⟩ := hs
  obtain ⟨hm1, hm2⟩ := hm
  have Hd := Lib.hid hd
  clear hT h
  cases first
  case true =>
    go_enter Try.func101, Try.ntmps101
    go_wp2
    go_loopw [11] (fun i wr => ∃ k : Int, i = .int .i64 k ∧ -m ≤ k ∧ k ≤ m + 1 ∧ wr = w ∧ Hid (∀ k' : Int, -m ≤ k' → k' < k → cellF T true d ((seen + k') % 24).toNat = false)) (fun i _ => (m + 1 - intOf i).toNat)
    case atStart => exact ⟨-m, rfl, by omega, by omega, rfl, Lib.hid (fun k' h1 h2 => absurd h1 (by omega))⟩
    case round =>
      obtain ⟨k, rfl, hk1, hk2, rfl, hall⟩ := hrel
      by_cases hlt : k ≤ m
      · obtain ⟨o, ho, ho24⟩ : ∃ o : Nat, (seen + k) % 24 = o ∧ o < 24 := ⟨((seen + k) % 24).toNat, by omega, by omega⟩
        have Ho := Lib.hid ho
        clear ho
        obtain ⟨b, off, cap, b2, off2, cap2, rfl, c0, c1⟩ := Hc.out d o Hd.out ho24
        have hd24 := Hd.out
        have hM := Lib.hid (fun w => spec_Mod (seen + k) w ⟨by omega, by omega⟩)
        cases hb : cellT T d o
        · rw [hb] at c1
          have Hb := Lib.hid (show cellF T true d o = false from hb)
          clear hb
          go_wp2_with (first | (go_at_call 72; refine (hM.out _).mono ?_; rintro e w' ⟨he, rfl⟩; rw [Ho.out] at he; subst he))
          go_roundw
          case rel =>
            refine ⟨k + 1, by go_num, by omega, by omega, (by first | rfl | trivial), Lib.hid (fun k' h1 h2 => ?_)⟩
            by_cases h3 : k' < k
            · exact hall.out k' h1 h3
            · have : k' = k := by omega
              subst this
              rw [Ho.out]; exact Hb.out
          case measure => simp [intOf]; omega
        · rw [hb] at c1
          have Hno : Hid (freeB T true d seen m = false) := Lib.hid (freeB_f (fun hf => by
            have := Hfree.out.1 hf k hk1 hlt
            rw [Ho.out] at this
            rw [show cellF T true d ((o : Int)).toNat = true from hb] at this
            cases this))
          clear hb
          go_wp2_with (first | (go_at_call 72; refine (hM.out _).mono ?_; rintro e w' ⟨he, rfl⟩; rw [Ho.out] at he; subst he))
          go_ret
          rw [Hno.out]
          exact ⟨rfl, rfl⟩
      · have Hyes : Hid (freeB T true d seen m = true) := Lib.hid (freeB_t (Hfree.out.2 (fun k' h1 h2 => hall.out k' h1 (by omega))))
        go_wp2
        go_ret
        rw [Hyes.out]
        exact ⟨rfl, rfl⟩
  case false =>
    go_enter Try.func101, Try.ntmps101
    go_wp2
    go_loopw [11] (fun i wr => ∃ k : Int, i = .int .i64 k ∧ -m ≤ k ∧ k ≤ m + 1 ∧ wr = w ∧ Hid (∀ k' : Int, -m ≤ k' → k' < k → cellF T false d ((seen + k') % 24).toNat = false)) (fun i _ => (m + 1 - intOf i).toNat)
    case atStart => exact ⟨-m, rfl, by omega, by omega, rfl, Lib.hid (fun k' h1 h2 => absurd h1 (by omega))⟩
    case round =>
      obtain ⟨k, rfl, hk1, hk2, rfl, hall⟩ := hrel
      by_cases hlt : k ≤ m
      · obtain ⟨o, ho, ho24⟩ : ∃ o : Nat, (seen + k) % 24 = o ∧ o < 24 := ⟨((seen + k) % 24).toNat, by omega, by omega⟩
        have Ho := Lib.hid ho
        clear ho
        obtain ⟨b, off, cap, b2, off2, cap2, rfl, c0, c1⟩ := Hc.out o d ho24 Hd.out
        have hd24 := Hd.out
        have hM := Lib.hid (fun w => spec_Mod (seen + k) w ⟨by omega, by omega⟩)
        cases hb : cellT T o d
        · rw [hb] at c1
          have Hb := Lib.hid (show cellF T false d o = false from hb)
          clear hb
          go_wp2_with (first | (go_at_call 72; refine (hM.out _).mono ?_; rintro e w' ⟨he, rfl⟩; rw [Ho.out] at he; subst he))
          go_roundw
          case rel =>
            refine ⟨k + 1, by go_num, by omega, by omega, (by first | rfl | trivial), Lib.hid (fun k' h1 h2 => ?_)⟩
            by_cases h3 : k' < k
            · exact hall.out k' h1 h3
            · have : k' = k := by omega
              subst this
              rw [Ho.out]; exact Hb.out
          case measure => simp [intOf]; omega
        · rw [hb] at c1
          have Hno : Hid (freeB T false d seen m = false) := Lib.hid (freeB_f (fun hf => by
            have := Hfree.out.1 hf k hk1 hlt
            rw [Ho.out] at this
            rw [show cellF T false d ((o : Int)).toNat = true from hb] at this
            cases this))
          clear hb
          go_wp2_with (first | (go_at_call 72; refine (hM.out _).mono ?_; rintro e w' ⟨he, rfl⟩; rw [Ho.out] at he; subst he))
          go_ret
          rw [Hno.out]
          exact ⟨rfl, rfl⟩
      · have Hyes : Hid (freeB T false d seen m = true) := Lib.hid (freeB_t (Hfree.out.2 (fun k' h1 h2 => hall.out k' h1 (by omega))))
        go_wp2
        go_ret
        rw [Hyes.out]
        exact ⟨rfl, rfl⟩

set_option maxRecDepth 100000 in
set_option maxHeartbeats 4000000 in
theorem impl_clear (v : Value) (rows : List SV) (T : Tab) (lo hi : Nat) (m : Int) (first : Bool) (d : Nat) (seen : Int) (w : World) (h : TabR lo hi w v rows T) (hT : TabOk T) (hm : 0 ≤ m ∧ m ≤ 3) (hd : d < 24) (hs : Dir seen) :
    Calls Try.prog 74 #[v, .bool first, .int .i64 d, .int .i64 seen, .int .i64 m] w fun e w' => e = .returned (.bool (freeB T first d seen m)) ∧ w = w' := by
  have Hc := Lib.hid (fun d o (hd : d < 24) (ho : o < 24) => tab_cell h hT hd ho)
  obtain ⟨hs1, hs2⟩ := hs
  obtain ⟨hm1, hm2⟩ := hm
  have Hd := Lib.hid hd
  clear hT h
  cases first
  case true =>
    go_enter Try.func74, Try.ntmps74
    go_wp2
    go_loopw [12] (fun i wr => ∃ o : Nat, i = .int .i64 o ∧ o ≤ 24 ∧ wr = w ∧ Hid (∀ o' : Nat, o' < o → absI (tb seen o') ≤ m → cellF T true d o' = false)) (fun i _ => 24 - (intOf i).toNat)
    case atStart => exact ⟨0, rfl, by omega, rfl, Lib.hid (fun o' h1 => absurd h1 (by omega))⟩
    case round =>
      obtain ⟨o, rfl, ho, rfl, hall⟩ := hrel
      by_cases ho24 : o < 24
      · have hT := Lib.hid (fun w => impl_turnBetween seen o w ⟨hs1, hs2⟩ ⟨by omega, by omega⟩)
        have htb := tb_bound seen o
        have hA := Lib.hid (fun w => impl_abs (tb seen o) w ⟨by omega, by omega⟩)
        have Hstep := Lib.hid (fun (hb : absI (tb seen o) ≤ m → cellF T true d o = false) o' (h1 : o' < o + 1) h2 => by
          by_cases h3 : o' < o
          · exact hall.out o' h3 h2
          · have : o' = o := by omega
            subst this
            exact hb h2)
        have Hno := Lib.hid (fun (h1 : absI (tb seen o) ≤ m) (h2 : cellF T true d o = true) => freeB_f (T := T) (first := true) (d := d) (seen := seen) (m := m) (fun hf => by
          have := hf o ho24 h1
          rw [h2] at this
          cases this))
        by_cases hle : absI (tb seen o) ≤ m
        · obtain ⟨b, off, cap, b2, off2, cap2, rfl, c0, c1⟩ := Hc.out d o Hd.out ho24
          have hd24 := Hd.out
          cases hb : cellT T d o
          · rw [hb] at c1
            have Hb := Lib.hid (Hstep.out (fun _ => show cellF T true d o = false from hb))
            clear hb
            generalize tb seen o = q at *
            generalize absI q = z at *
            go_wp2_with (first | (go_at_call 70; refine (hT.out _).mono ?_; rintro e w' ⟨rfl, rfl⟩) | (go_at_call 69; refine (hA.out _).mono ?_; rintro e w' ⟨rfl, rfl⟩))
            go_roundw
            case rel => exact ⟨o + 1, by go_num, by omega, (by first | rfl | trivial), Hb⟩
            case measure => simp [intOf]; omega
          · rw [hb] at c1
            have Hb := Lib.hid (Hno.out hle (show cellF T true d o = true from hb))
            clear hb
            generalize tb seen o = q at *
            generalize absI q = z at *
            go_wp2_with (first | (go_at_call 70; refine (hT.out _).mono ?_; rintro e w' ⟨rfl, rfl⟩) | (go_at_call 69; refine (hA.out _).mono ?_; rintro e w' ⟨rfl, rfl⟩))
            go_ret
            rw [Hb.out]
            exact ⟨rfl, rfl⟩
        · have Hb := Lib.hid (Hstep.out (fun h => absurd h hle))
          generalize tb seen o = q at *
          generalize absI q = z at *
          go_wp2_with (first | (go_at_call 70; refine (hT.out _).mono ?_; rintro e w' ⟨rfl, rfl⟩) | (go_at_call 69; refine (hA.out _).mono ?_; rintro e w' ⟨rfl, rfl⟩))
          go_roundw
          case rel => exact ⟨o + 1, by go_num, by omega, (by first | rfl | trivial), Hb⟩
          case measure => simp [intOf]; omega
      · have Hyes : Hid (freeB T true d seen m = true) := Lib.hid (freeB_t (fun o' h1 h2 => hall.out o' (by omega) h2))
        go_wp2
        go_ret
        rw [Hyes.out]
        exact ⟨rfl, rfl⟩
  case false =>
    go_enter Try.func74, Try.ntmps74
    go_wp2
    go_loopw [12] (fun i wr => ∃ o : Nat, i = .int .i64 o ∧ o ≤ 24 ∧ wr = w ∧ Hid (∀ o' : Nat, o' < o → absI (tb seen o') ≤ m → cellF T false d o' = false)) (fun i _ => 24 - (intOf i).toNat)
    case atStart => exact ⟨0, rfl, by omega, rfl, Lib.hid (fun o' h1 => absurd h1 (by omega))⟩
    case round =>
      obtain ⟨o, rfl, ho, rfl, hall⟩ := hrel
      by_cases ho24 : o < 24
      · have hT := Lib.hid (fun w => impl_turnBetween seen o w ⟨hs1, hs2⟩ ⟨by omega, by omega⟩)
        have htb := tb_bound seen o
        have hA := Lib.hid (fun w => impl_abs (tb seen o) w ⟨by omega, by omega⟩)
        have Hstep := Lib.hid (fun (hb : absI (tb seen o) ≤ m → cellF T false d o = false) o' (h1 : o' < o + 1) h2 => by
          by_cases h3 : o' < o
          · exact hall.out o' h3 h2
          · have : o' = o := by omega
            subst this
            exact hb h2)
        have Hno := Lib.hid (fun (h1 : absI (tb seen o) ≤ m) (h2 : cellF T false d o = true) => freeB_f (T := T) (first := false) (d := d) (seen := seen) (m := m) (fun hf => by
          have := hf o ho24 h1
          rw [h2] at this
          cases this))
        by_cases hle : absI (tb seen o) ≤ m
        · obtain ⟨b, off, cap, b2, off2, cap2, rfl, c0, c1⟩ := Hc.out o d ho24 Hd.out
          have hd24 := Hd.out
          cases hb : cellT T o d
          · rw [hb] at c1
            have Hb := Lib.hid (Hstep.out (fun _ => show cellF T false d o = false from hb))
            clear hb
            generalize tb seen o = q at *
            generalize absI q = z at *
            go_wp2_with (first | (go_at_call 70; refine (hT.out _).mono ?_; rintro e w' ⟨rfl, rfl⟩) | (go_at_call 69; refine (hA.out _).mono ?_; rintro e w' ⟨rfl, rfl⟩))
            go_roundw
            case rel => exact ⟨o + 1, by go_num, by omega, (by first | rfl | trivial), Hb⟩
            case measure => simp [intOf]; omega
          · rw [hb] at c1
            have Hb := Lib.hid (Hno.out hle (show cellF T false d o = true from hb))
            clear hb
            generalize tb seen o = q at *
            generalize absI q = z at *
            go_wp2_with (first | (go_at_call 70; refine (hT.out _).mono ?_; rintro e w' ⟨rfl, rfl⟩) | (go_at_call 69; refine (hA.out _).mono ?_; rintro e w' ⟨rfl, rfl⟩))
            go_ret
            rw [Hb.out]
            exact ⟨rfl, rfl⟩
        · have Hb := Lib.hid (Hstep.out (fun h => absurd h hle))
          generalize tb seen o = q at *
          generalize absI q = z at *
          go_wp2_with (first | (go_at_call 70; refine (hT.out _).mono ?_; rintro e w' ⟨rfl, rfl⟩) | (go_at_call 69; refine (hA.out _).mono ?_; rintro e w' ⟨rfl, rfl⟩))
          go_roundw
          case rel => exact ⟨o + 1, by go_num, by omega, (by first | rfl | trivial), Hb⟩
          case measure => simp [intOf]; omega
      · have Hyes : Hid (freeB T false d seen m = true) := Lib.hid (freeB_t (fun o' h1 h2 => hall.out o' (by omega) h2))
        go_wp2
        go_ret
        rw [Hyes.out]
        exact ⟨rfl, rfl⟩
end Go.Proofs.Ytmkhapgkiecmaaa
