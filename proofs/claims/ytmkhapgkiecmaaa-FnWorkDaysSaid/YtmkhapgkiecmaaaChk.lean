/- Checks: validity, in both packages. -/
import Derived.Test.YtmkhapgkiecmaaaTCheck
import Derived.Test.YtmkhapgkiecmaaaBasic
import Derived.Test.YtmkhapgkiecmaaaName
namespace Go.Proofs.Ytmkhapgkiecmaaa
open Go.RowKit

def Chk.ok (x : Chk) : Prop := (0 ≤ x.crane ∧ x.crane ≤ 5) ∧ isNm x.name ∧ (1 ≤ x.every ∧ x.every ≤ 1000) ∧ (0 ≤ x.last ∧ x.last ≤ 100000)
def Chk.same (x y : Chk) : Prop := x.crane = y.crane ∧ x.name = y.name
def chkRow (l : List Chk) (i : Nat) (h : i < l.length) : Prop := l[i].ok ∧ ∀ j (hj : j < i), ¬ (l[j].same l[i])
def chksOk (l : List Chk) : Prop := (∀ i (h : i < l.length), chkRow l i h) ∧ l.length ≤ 30
open Classical in
noncomputable def chksB (l : List Chk) : Bool := decide (chksOk l)
theorem chksB_t {l : List Chk} (h : chksOk l) : chksB l = true := by classical exact decide_eq_true h
theorem chksB_f {l : List Chk} (h : ¬ chksOk l) : chksB l = false := by classical exact decide_eq_false h
theorem chksB_iff {l : List Chk} : chksB l = true ↔ chksOk l := ⟨fun h => by classical exact of_decide_eq_true h, chksB_t⟩

theorem Chk.cases (x : Chk) : (x.ok ∧ (0 ≤ x.crane ∧ x.crane ≤ 5) ∧ (nmB x.name = true) ∧ (1 ≤ x.every ∧ x.every ≤ 1000) ∧ (0 ≤ x.last ∧ x.last ≤ 100000)) ∨
    (¬ x.ok ∧ ¬ (0 ≤ x.crane ∧ x.crane ≤ 5)) ∨ (¬ x.ok ∧ (0 ≤ x.crane ∧ x.crane ≤ 5) ∧ nmB x.name = false) ∨
    (¬ x.ok ∧ (0 ≤ x.crane ∧ x.crane ≤ 5) ∧ (nmB x.name = true) ∧ ¬ (1 ≤ x.every ∧ x.every ≤ 1000)) ∨
    (¬ x.ok ∧ (0 ≤ x.crane ∧ x.crane ≤ 5) ∧ (nmB x.name = true) ∧ (1 ≤ x.every ∧ x.every ≤ 1000) ∧ ¬ (0 ≤ x.last ∧ x.last ≤ 100000)) := by
  unfold Chk.ok
  by_cases hn : isNm x.name
  · have := nmB_t hn
    simp only [hn, this, true_and, Bool.true_eq_false, and_false]
    omega
  · have := nmB_f hn
    simp only [hn, this, false_and, and_false, not_false_iff, true_and, and_true, Bool.false_eq_true]
    omega

set_option maxRecDepth 100000 in
set_option maxHeartbeats 4000000 in
theorem spec_l26Ok (v : Value) (l : List Chk) (lo hi : Nat) (w : World) (h : Chks lo hi w v l) (hwf : ∀ x ∈ l, x.wf) :
    Calls Try.prog 90 #[v] w fun e w' => e = .returned (.bool (chksB l)) ∧ Below w.heap.size w w' := by
  have hsl := h
  have Hwf := Lib.hid hwf
  obtain ⟨a, cap, rfl, hlen, hh⟩ := h
  clear hh hwf
  go_enter Try.func90, Try.ntmps90
  go_wp2
  go_loopw [3] (fun i wr => ∃ k : Nat, k ≤ l.length ∧ i = .int .i64 k ∧ Below w.heap.size w wr ∧ Hid (∀ i (h : i < l.length), i < k → chkRow l i h)) (fun i _ => l.length - (intOf i).toNat)
  case atStart => exact ⟨0, Nat.zero_le _, rfl, Below.refl _ _, Lib.hid (fun _ _ h => absurd h (by omega))⟩
  case round =>
    obtain ⟨k, hk, rfl, hB, hall⟩ := hrel
    by_cases hlt : k < l.length
    · obtain ⟨b, off, rfl⟩ := hsl.addr (by omega)
      have Hsl := Lib.hid hsl
      obtain ⟨c0, c1, c2, c3⟩ := Chks.at (hsl.ext hB).get hlt
      have Hw1 := Lib.hid (Hwf.out _ (List.getElem_mem hlt))
      clear hsl
      have Hrow := Lib.hid (rfl : chkRow l k hlt = (l[k].ok ∧ ∀ j (hj : j < k), ¬ (l[j].same l[k])))
      have Hb : Hid (¬ chkRow l k hlt → chksB l = false) := Lib.hid (fun h => chksB_f (fun hn => h (hn.1 k hlt)))
      rw [Hrow.out] at Hb
      have Hg : Hid (chkRow l k hlt → ∀ i (h : i < l.length), i < k + 1 → chkRow l i h) := Lib.hid (fun h i hi hik => by
        by_cases e : i < k
        · exact hall.out i hi e
        · have : i = k := by omega
          subst this; exact h)
      rw [Hrow.out] at Hg
      clear Hrow
      generalize hx : l[k] = x at *
      have Hx := Lib.hid hx
      clear hx
      have Hcs := Lib.hid (Chk.cases x)
      have hns := Hw1.out.2.1
      rcases Hcs.out with ⟨hok, ⟨_, _⟩, hn, ⟨_, _⟩, _, _⟩ | ⟨hok, _⟩ | ⟨hok, ⟨_, _⟩, hn⟩ | ⟨hok, ⟨_, _⟩, hn, _⟩ | ⟨hok, ⟨_, _⟩, hn, ⟨_, _⟩, _⟩
      · have Hok := Lib.hid hok
        have hnm := fun w => spec_IsName x.name w hns
        rw [hn] at hnm
        have Hnm := Lib.hid hnm
        clear hok hn hnm
        go_wp2_with (first | (go_at_call 56; first | (refine (spec_In_t _ _ _ _ (by omega) (by omega)).mono ?_; rintro e w' ⟨rfl, rfl⟩) | (refine (spec_In_f _ _ _ _ (by omega)).mono ?_; rintro e w' ⟨rfl, rfl⟩)) | (go_at_call 51; first | (refine (spec_Day_t _ _ (by omega) (by omega)).mono ?_; rintro e w' ⟨rfl, rfl⟩) | (refine (spec_Day_f _ _ (by omega)).mono ?_; rintro e w' ⟨rfl, rfl⟩)) | (go_at_call 109; refine (Hnm.out _).mono ?_; rintro e w' ⟨rfl, rfl⟩))
        obtain ⟨wo, rfl⟩ : ∃ wo : World, wo = wr := ⟨_, rfl⟩
        go_loopw [5] (fun i wr => ∃ j : Nat, j ≤ k ∧ i = .int .i64 j ∧ Below w.heap.size w wr ∧ Hid (∀ i (h : i < k), i < j → ¬ (l[i].same x))) (fun i _ => k - (intOf i).toNat)
        case atStart => exact ⟨0, Nat.zero_le _, rfl, hB, Lib.hid (fun _ _ h => absurd h (by omega))⟩
        case round =>
          obtain ⟨j, hj, rfl, hB2, hno⟩ := hrel
          by_cases hjk : j < k
          · have hjl : j < l.length := by omega
            have hcc := (Hsl.out.ext hB2).get
            obtain ⟨d0, d1, d2, d3⟩ := Chks.at hcc hjl
            obtain ⟨f0, f1, f2, f3⟩ := Chks.at hcc hlt
            rw [Hx.out] at f0 f1 f2 f3
            clear hcc
            have Hnx : Hid (¬ (l[j].same x) → ∀ i (h : i < k), i < j + 1 → ¬ (l[i].same x)) := Lib.hid (fun h i hi hij => by
              by_cases e : i < j
              · exact hno.out i hi e
              · have : i = j := by omega
                subst this; exact h)
            have Hdup : Hid (l[j].same x → chksB l = false) := Lib.hid (fun h => Hb.out (fun hr => hr.2 j hjk (by rw [Hx.out]; exact h)))
            generalize l[j] = y at *
            by_cases hcr : y.crane = x.crane
            · have hcr1 : (y.crane == x.crane) = true := by rw [beq_iff_eq]; exact hcr
              have Hcr := Lib.hid hcr
              clear hcr
              by_cases hnm : y.name = x.name
              · have hnm1 : (y.name.toList == x.name.toList) = true := by rw [hnm]; simp
                have Hd : Hid (chksB l = false) := Lib.hid (Hdup.out ⟨Hcr.out, hnm⟩)
                clear hnm
                go_wp2_with (go_quiet (fail))
                go_ret
                rw [Hd.out]; exact ⟨rfl, by first | exact hB2 | exact below_dN hB2 _⟩
              · have hnm1 : (y.name.toList == x.name.toList) = false := by
                  rw [beq_eq_false_iff_ne]; intro e; exact hnm (ByteArray.ext (by simpa [ByteArray.toList_eq] using e))
                have Hn := Lib.hid (Hnx.out (fun h => hnm h.2))
                clear hnm
                go_wp2_with (go_quiet (fail))
                go_roundw
                case rel => exact ⟨j + 1, by omega, by go_num, by first | exact hB2 | exact below_dN hB2 _, Hn⟩
                case measure => simp [intOf]; omega
            · have hcr1 : (y.crane == x.crane) = false := by rw [beq_eq_false_iff_ne]; exact hcr
              have Hn := Lib.hid (Hnx.out (fun h => hcr h.1))
              clear hcr
              go_wp2_with (go_quiet (fail))
              go_roundw
              case rel => exact ⟨j + 1, by omega, by go_num, by first | exact hB2 | exact below_dN hB2 _, Hn⟩
              case measure => simp [intOf]; omega
          · have Hrow2 := Lib.hid (Hg.out ⟨Hx.out ▸ Hok.out, fun j hj => by rw [Hx.out]; exact hno.out j hj (by omega)⟩)
            go_wp2
            go_roundw
            case rel => exact ⟨k + 1, by omega, by go_num, hB2, Hrow2⟩
            case measure => simp [intOf]; omega
      all_goals
        have Hd : Hid (chksB l = false) := Lib.hid (Hb.out (fun h => hok (Hx.out ▸ h.1)))
        clear hok
        try
          have hnm := fun w => spec_IsName x.name w hns
          rw [hn] at hnm
          have Hnm := Lib.hid hnm
          clear hn hnm
        go_wp2_with (first | (go_at_call 56; first | (refine (spec_In_t _ _ _ _ (by omega) (by omega)).mono ?_; rintro e w' ⟨rfl, rfl⟩) | (refine (spec_In_f _ _ _ _ (by omega)).mono ?_; rintro e w' ⟨rfl, rfl⟩)) | (go_at_call 51; first | (refine (spec_Day_t _ _ (by omega) (by omega)).mono ?_; rintro e w' ⟨rfl, rfl⟩) | (refine (spec_Day_f _ _ (by omega)).mono ?_; rintro e w' ⟨rfl, rfl⟩)) | (go_at_call 109; refine (Hnm.out _).mono ?_; rintro e w' ⟨rfl, rfl⟩))
        go_ret
        rw [Hd.out]; exact ⟨rfl, hB⟩
    · have Hall : Hid (∀ i (h : i < l.length), chkRow l i h) := Lib.hid (fun i h => hall.out i h (by omega))
      by_cases h30 : l.length ≤ 30
      · have Hd := Lib.hid (chksB_t ⟨Hall.out, h30⟩)
        go_wp2
        go_ret
        exact ⟨ret_bool (by rw [Hd.out]; simp; omega), hB⟩
      · have Hd := Lib.hid (chksB_f (l := l) (fun h => h30 h.2))
        go_wp2
        go_ret
        exact ⟨ret_bool (by rw [Hd.out]; simp; omega), hB⟩
theorem name_eq {s t : ByteArray} (h : s = t) : (s.toList == t.toList) = true := by rw [h]; simp
theorem name_ne {s t : ByteArray} (h : ¬ s = t) : (s.toList == t.toList) = false := by
  rw [beq_eq_false_iff_ne]; intro e; exact h (ByteArray.ext (by simpa [ByteArray.toList_eq] using e))

set_option maxHeartbeats 2000000 in
theorem impl_VC11 (x y : Chk) (b : Nat) (w : World) (c0 : w.cell? ⟨b, 0, none⟩ = some (.int .i64 x.crane)) (c1 : w.cell? ⟨b, 1, none⟩ = some (.string x.name)) (r : Bool) (hr : r = true ↔ y.same x) :
    Calls Try.prog 108 #[.agg y.cells.toArray, .pointer (some ⟨b, 0, none⟩)] w fun e w' => e = .returned (.bool r) ∧ Below w.heap.size w w' := by
  have hb := World.block_lt_of_cell? w _ c0
  simp only [Chk.cells]
  by_cases hcr : y.crane = x.crane
  · have hcr1 : (y.crane == x.crane) = true := by rw [beq_iff_eq]; exact hcr
    by_cases hnm : y.name = x.name
    · have hn := name_eq hnm
      have : r = true := hr.2 ⟨hcr, hnm⟩
      subst this
      clear hcr hnm hr
      go_enter Try.func108, Try.ntmps108
      go_wp2
      go_ret
      exact ⟨rfl, (Below.refl _ _).alloc (Nat.le_refl _) _⟩
    · have hn := name_ne hnm
      have : r = false := by rw [Bool.eq_false_iff]; intro h; exact hnm (hr.1 h).2
      subst this
      clear hcr hnm hr
      go_enter Try.func108, Try.ntmps108
      go_wp2
      go_ret
      exact ⟨rfl, (Below.refl _ _).alloc (Nat.le_refl _) _⟩
  · have hcr1 : (y.crane == x.crane) = false := by rw [beq_eq_false_iff_ne]; exact hcr
    have : r = false := by rw [Bool.eq_false_iff]; intro h; exact hcr (hr.1 h).1
    subst this
    clear hcr hr
    go_enter Try.func108, Try.ntmps108
    go_wp2
    go_ret
    exact ⟨rfl, (Below.refl _ _).alloc (Nat.le_refl _) _⟩

theorem same_dec (y x : Chk) : ∃ r : Bool, r = true ↔ y.same x := by
  by_cases h : y.same x
  · exact ⟨true, by simp [h]⟩
  · exact ⟨false, by simp [h]⟩

def IdxRes (p : Prop) (w : World) (e : Ending) (w' : World) : Prop := ∃ n : Int, e = .returned (.int .i64 n) ∧ ((0 ≤ n ∧ p) ∨ (n < 0 ∧ ¬ p)) ∧ Below w.heap.size w w'

set_option maxHeartbeats 2000000 in
theorem impl_IndexFunc (v : Value) (l : List Chk) (lo hi : Nat) (x : Chk) (b : Nat) (w : World) (h : Chks lo hi w v l) (c0 : w.cell? ⟨b, 0, none⟩ = some (.int .i64 x.crane)) (c1 : w.cell? ⟨b, 1, none⟩ = some (.string x.name)) :
    Calls Try.prog 116 #[v, .func (.func 108) #[] #[.pointer (some ⟨b, 0, none⟩)]] w (IdxRes (∃ y ∈ l, y.same x) w) := by
  have hsl := h
  obtain ⟨a, cap, rfl, hlen, hh⟩ := h
  clear hh
  have hbb := World.block_lt_of_cell? w _ c0
  have C0 := Lib.hid c0
  have C1 := Lib.hid c1
  clear c0 c1
  go_enter Try.func116, Try.ntmps116
  go_wp2
  go_loopw [8] (fun i wr => ∃ k : Nat, k ≤ l.length ∧ i = .int .i64 k ∧ Below w.heap.size w wr ∧ Hid (∀ i (h : i < l.length), i < k → ¬ (l[i].same x))) (fun i _ => l.length - (intOf i).toNat)
  case atStart => exact ⟨0, Nat.zero_le _, rfl, Below.refl _ _, Lib.hid (fun _ _ h => absurd h (by omega))⟩
  case round =>
    obtain ⟨k, hk, rfl, hB, hno⟩ := hrel
    by_cases hlt : k < l.length
    · obtain ⟨b2, off, rfl⟩ := hsl.addr (by omega)
      obtain ⟨d0, d1, d2, d3⟩ := Chks.at (hsl.ext hB).get hlt
      have hcall := fun (r : Bool) (hr : r = true ↔ l[k].same x) => impl_VC11 x l[k] b wr ((hB.cell (p := ⟨b, 0, none⟩) hbb).trans C0.out) ((hB.cell (p := ⟨b, 1, none⟩) hbb).trans C1.out) r hr
      obtain ⟨r, hr⟩ := same_dec l[k] x
      have hcall := hcall r hr
      have Hin : Hid (l[k].same x → ∃ y ∈ l, y.same x) := Lib.hid (fun h => ⟨_, List.getElem_mem hlt, h⟩)
      have Hnx : Hid (¬ (l[k].same x) → ∀ i (h : i < l.length), i < k + 1 → ¬ (l[i].same x)) := Lib.hid (fun h i hi hij => by
        by_cases e : i < k
        · exact hno.out i hi e
        · have : i = k := by omega
          subst this; exact h)
      generalize l[k] = y at *
      simp only [Chk.cells] at hcall
      cases r
      · have Hn := Lib.hid (Hnx.out (fun h => by have := hr.2 h; simp at this))
        have Hcall := Lib.hid hcall
        clear hcall hr hsl
        go_wp2_with (go_at_call 108; refine Hcall.out.mono ?_; rintro e w1 ⟨rfl, hb1⟩)
        go_roundw
        case rel => exact ⟨k + 1, by omega, by go_num, hB.trans (hb1.mono hB.size), Hn⟩
        case measure => simp [intOf]; omega
      · have Hy := Lib.hid (Hin.out (hr.1 rfl))
        have Hcall := Lib.hid hcall
        clear hcall hr hsl
        go_wp2_with (go_at_call 108; refine Hcall.out.mono ?_; rintro e w1 ⟨rfl, hb1⟩)
        go_ret
        exact ⟨_, rfl, .inl ⟨by omega, Hy.out⟩, hB.trans (hb1.mono hB.size)⟩
    · have Hn : Hid (¬ ∃ y ∈ l, y.same x) := Lib.hid (by
        rintro ⟨y, hy, h⟩
        obtain ⟨i, hi, rfl⟩ := List.mem_iff_getElem.1 hy
        exact hno.out i hi (by omega) h)
      go_wp2
      go_ret
      exact ⟨_, rfl, .inr ⟨by omega, Hn.out⟩, hB⟩

theorem impl_ContainsFunc (v : Value) (l : List Chk) (lo hi : Nat) (x : Chk) (b : Nat) (w : World) (h : Chks lo hi w v l) (c0 : w.cell? ⟨b, 0, none⟩ = some (.int .i64 x.crane)) (c1 : w.cell? ⟨b, 1, none⟩ = some (.string x.name)) (r : Bool) (hr : r = true ↔ ∃ y ∈ l, y.same x) :
    Calls Try.prog 107 #[v, .func (.func 108) #[] #[.pointer (some ⟨b, 0, none⟩)]] w fun e w' => e = .returned (.bool r) ∧ Below w.heap.size w w' := by
  have hc := Lib.hid (impl_IndexFunc v l lo hi x b w h c0 c1)
  obtain ⟨a, cap, rfl, hlen, hh⟩ := h
  have Hr := Lib.hid hr
  clear hh c0 c1 hr
  go_enter Try.func107, Try.ntmps107
  go_wp2_with fail
  refine hc.out.mono ?_
  rintro e w1 ⟨n, rfl, hp | hp, hb1⟩
  · have h1 := hp.1
    have hrt : Hid (r = true) := Lib.hid (Hr.out.2 hp.2)
    clear hp
    go_wp2
    go_ret
    exact ⟨ret_bool (by first | exact hrt.out.symm | (rw [hrt.out]; simp; omega)), hb1⟩
  · have h1 := hp.1
    have hrf : Hid (r = false) := Lib.hid (by rw [Bool.eq_false_iff]; intro h; exact hp.2 (Hr.out.1 h))
    clear hp
    go_wp2
    go_ret
    exact ⟨ret_bool (by first | exact hrf.out.symm | (rw [hrf.out]; simp; omega)), hb1⟩

set_option maxRecDepth 100000 in
set_option maxHeartbeats 2000000 in
theorem impl_VC1 (l : List Chk) (a : Option Addr) (cap lo hi bl k : Nat) (w : World) (h : Chks lo hi w (.slice a l.length cap) l) (hbl : w.cell? ⟨bl, 0, none⟩ = some (.slice a l.length cap)) (hk : k < l.length) (x : Chk) (hxw : x.wf) (r : Bool) (hr : r = true ↔ (x.ok ∧ ∀ j (hj : j < k), ¬ (l[j].same x))) :
    Calls Try.prog 105 #[.int .i64 k, .agg x.cells.toArray, .pointer (some ⟨bl, 0, none⟩)] w fun e w' => e = .returned (.bool r) ∧ Below w.heap.size w w' := by
  have hlen : l.length ≤ 9223372036854775807 := by obtain ⟨_, _, _, h, _⟩ := h; omega
  have hbb := World.block_lt_of_cell? w _ hbl
  have Hsl := Lib.hid h
  have hns := hxw.2.1
  have Hr := Lib.hid hr
  have hcap : l.length ≤ cap ∧ cap ≤ 9223372036854775807 := by obtain ⟨_, _, h1, h, _⟩ := h; cases h1; exact h
  clear h hr hxw
  have Hcs := Lib.hid (Chk.cases x)
  rcases Hcs.out with ⟨hok, ⟨_, _⟩, hn, ⟨_, _⟩, _, _⟩ | ⟨hok, _⟩ | ⟨hok, ⟨_, _⟩, hn⟩ | ⟨hok, ⟨_, _⟩, hn, _⟩ | ⟨hok, ⟨_, _⟩, hn, ⟨_, _⟩, _⟩
  · have Hok := Lib.hid hok
    have hnm := fun w => impl_IsName x.name w hns
    rw [hn] at hnm
    have Hnm := Lib.hid hnm
    clear hok hn hnm
    simp only [Chk.cells]
    have hlk : ((k : Int)).toNat = k := by omega
    obtain ⟨b, off, rfl⟩ := Hsl.out.addr (by omega)
    go_enter Try.func105, Try.ntmps105
    go_wp2_with (first | (go_at_call 59; first | (refine (impl_within_t _ _ _ _ (by omega) (by omega)).mono ?_; rintro e w' ⟨rfl, rfl⟩) | (refine (impl_within_f _ _ _ _ (by omega)).mono ?_; rintro e w' ⟨rfl, rfl⟩)) | (go_at_call 106; refine (Hnm.out _).mono ?_; rintro e w' ⟨rfl, rfl⟩))
    obtain ⟨r2, hr2⟩ : ∃ r2 : Bool, r2 = true ↔ ∃ y ∈ l.take k, y.same x := by
      by_cases h : ∃ y ∈ l.take k, y.same x
      · exact ⟨true, by simp [h]⟩
      · exact ⟨false, by simp [h]⟩
    have hrr : r = !r2 := by
      have h1 : (∃ y ∈ l.take k, y.same x) ↔ ∃ j, ∃ hj : j < k, l[j].same x := by
        constructor
        · rintro ⟨y, hy, h⟩
          obtain ⟨i, hi, rfl⟩ := List.mem_iff_getElem.1 hy
          rw [List.length_take] at hi
          exact ⟨i, by omega, by rwa [List.getElem_take] at h⟩
        · rintro ⟨j, hj, h⟩
          exact ⟨l[j], List.mem_iff_getElem.2 ⟨j, by rw [List.length_take]; omega, by rw [List.getElem_take]⟩, h⟩
      have h2 := Hr.out
      rw [h1] at hr2
      cases r2
      · have h3 : r = true := h2.2 ⟨Hok.out, fun j hj h => by have := hr2.2 ⟨j, hj, h⟩; simp at this⟩
        rw [h3]; rfl
      · obtain ⟨j, hj, h⟩ := hr2.1 rfl
        have h3 : r = false := by rw [Bool.eq_false_iff]; intro hh; exact (h2.1 hh).2 j hj h
        rw [h3]; rfl
    have Hr2 := Lib.hid hr2
    have Hrr := Lib.hid hrr
    clear hr2 hrr
    have hbw := (Below.refl w.heap.size w).alloc (Nat.le_refl _) (.cells #[.int .i64 x.crane, .string x.name, .int .i64 x.every, .int .i64 x.last] 106)
    refine (impl_ContainsFunc _ (l.take k) lo hi x w.heap.size _ ((Hsl.out.ext hbw).take (by omega)) (by simp) (by simp) r2 Hr2.out).mono ?_
    rintro e w1 ⟨rfl, hb1⟩
    go_wp2
    go_ret
    exact ⟨ret_bool (by rw [Hrr.out]), hbw.trans (hb1.mono (by simp))⟩
  all_goals
    have Hd : Hid (r = false) := Lib.hid (by rw [Bool.eq_false_iff]; intro h; exact hok (Hr.out.1 h).1)
    clear hok
    try
      have hnm := fun w => impl_IsName x.name w hns
      rw [hn] at hnm
      have Hnm := Lib.hid hnm
      clear hn hnm
    simp only [Chk.cells]
    go_enter Try.func105, Try.ntmps105
    go_wp2_with (first | (go_at_call 59; first | (refine (impl_within_t _ _ _ _ (by omega) (by omega)).mono ?_; rintro e w' ⟨rfl, rfl⟩) | (refine (impl_within_f _ _ _ _ (by omega)).mono ?_; rintro e w' ⟨rfl, rfl⟩)) | (go_at_call 106; refine (Hnm.out _).mono ?_; rintro e w' ⟨rfl, rfl⟩))
    go_ret
    rw [Hd.out]; exact ⟨rfl, (Below.refl _ _).alloc (Nat.le_refl _) _⟩

set_option maxRecDepth 100000 in
set_option maxHeartbeats 2000000 in
theorem impl_validated_Check (l : List Chk) (a : Option Addr) (cap lo hi bl : Nat) (w : World) (h : Chks lo hi w (.slice a l.length cap) l) (hwf : ∀ x ∈ l, x.wf) (hbl : w.cell? ⟨bl, 0, none⟩ = some (.slice a l.length cap)) :
    Calls Try.prog 104 #[.slice a l.length cap, .int .i64 30, .func (.func 105) #[] #[.pointer (some ⟨bl, 0, none⟩)]] w fun e w' => e = .returned (.bool (chksB l)) ∧ Below w.heap.size w w' := by
  have hlen : l.length ≤ 9223372036854775807 := by obtain ⟨_, _, _, h, _⟩ := h; omega
  have Hbl := Lib.hid hbl
  have hbb := World.block_lt_of_cell? w _ hbl
  have Hwf := Lib.hid hwf
  have hsl := h
  clear h hwf hbl
  go_enter Try.func104, Try.ntmps104
  go_wp2
  go_loopw [11] (fun i wr => ∃ k : Nat, k ≤ l.length ∧ i = .int .i64 k ∧ Below w.heap.size w wr ∧ Hid (∀ i (h : i < l.length), i < k → chkRow l i h)) (fun i _ => l.length - (intOf i).toNat)
  case atStart => exact ⟨0, Nat.zero_le _, rfl, Below.refl _ _, Lib.hid (fun _ _ h => absurd h (by omega))⟩
  case round =>
    obtain ⟨k, hk, rfl, hB, hall⟩ := hrel
    by_cases hlt : k < l.length
    · obtain ⟨b, off, rfl⟩ := hsl.addr (by omega)
      obtain ⟨c0, c1, c2, c3⟩ := Chks.at (hsl.ext hB).get hlt
      have hbs := hB.size
      have Hg : Hid (chkRow l k hlt → ∀ i (h : i < l.length), i < k + 1 → chkRow l i h) := Lib.hid (fun h i hi hik => by
        by_cases e : i < k
        · exact hall.out i hi e
        · have : i = k := by omega
          subst this; exact h)
      have Hb : Hid (¬ chkRow l k hlt → chksB l = false) := Lib.hid (fun h => chksB_f (fun hn => h (hn.1 k hlt)))
      obtain ⟨r, hr⟩ : ∃ r : Bool, r = true ↔ (l[k].ok ∧ ∀ j (hj : j < k), ¬ (l[j].same l[k])) := by
        by_cases h : l[k].ok ∧ ∀ j (hj : j < k), ¬ (l[j].same l[k])
        · exact ⟨true, fun _ => h, fun _ => rfl⟩
        · refine ⟨false, ?_⟩
          constructor
          · intro h'; cases h'
          · intro h'; exact absurd h' h
      have hcall := fun w2 (hB2 : Below w.heap.size w w2) => impl_VC1 l (some ⟨b, off, none⟩) cap lo hi bl k w2 (hsl.ext hB2) ((hB2.cell (p := ⟨bl, 0, none⟩) hbb).trans Hbl.out) hlt l[k] (Hwf.out _ (List.getElem_mem hlt)) r hr
      have Hcall := Lib.hid hcall
      have Hr1 : Hid (r = true → chkRow l k hlt) := Lib.hid (fun h => hr.1 h)
      have Hr0 : Hid (r = false → ¬ chkRow l k hlt) := Lib.hid (fun h hc => by have := hr.2 hc; rw [h] at this; cases this)
      clear hcall hr hsl
      generalize l[k] = x at *
      have hcx := Hcall.out
      simp only [Chk.cells] at hcx
      have Hcx := Lib.hid hcx
      clear hcx
      cases r
      · have Hd := Lib.hid (Hb.out (Hr0.out rfl))
        go_wp2_with (go_at_call 105; refine (Hcx.out _ (hB.alloc hbs _)).mono ?_; rintro e w1 ⟨rfl, hb1⟩)
        go_ret
        rw [Hd.out]; exact ⟨rfl, (hB.alloc hbs _).trans (hb1.mono (by simp; omega))⟩
      · have Hn := Lib.hid (Hg.out (Hr1.out rfl))
        go_wp2_with (go_at_call 105; refine (Hcx.out _ (hB.alloc hbs _)).mono ?_; rintro e w1 ⟨rfl, hb1⟩)
        go_roundw
        case rel => exact ⟨k + 1, by omega, by go_num, (hB.alloc hbs _).trans (hb1.mono (by simp; omega)), Hn⟩
        case measure => simp [intOf]; omega
    · have Hall : Hid (∀ i (h : i < l.length), chkRow l i h) := Lib.hid (fun i h => hall.out i h (by omega))
      by_cases h30 : l.length ≤ 30
      · have Hd := Lib.hid (chksB_t ⟨Hall.out, h30⟩)
        go_wp2
        go_ret
        exact ⟨ret_bool (by rw [Hd.out]; simp; omega), hB⟩
      · have Hd := Lib.hid (chksB_f (l := l) (fun h => h30 h.2))
        go_wp2
        go_ret
        exact ⟨ret_bool (by rw [Hd.out]; simp; omega), hB⟩

set_option maxRecDepth 100000 in
theorem impl_ValidChecks (v : Value) (l : List Chk) (lo hi : Nat) (w : World) (h : Chks lo hi w v l) (_hl : l.length ≤ 1048576) (hwf : ∀ x ∈ l, x.wf) :
    Calls Try.prog 88 #[v] w fun e w' => e = .returned (.bool (chksB l)) ∧ Below w.heap.size w w' := by
  have h' := h
  obtain ⟨a, cap, rfl, hlen, hh⟩ := h
  have Hwf := Lib.hid hwf
  clear hh hwf
  have hbw := (Below.refl w.heap.size w).alloc (Nat.le_refl _) (.cells #[.slice a l.length cap] 24)
  go_enter Try.func88, Try.ntmps88
  go_wp2_with fail
  refine (impl_validated_Check l a cap lo hi w.heap.size _ (h'.ext hbw) Hwf.out (by simp)).mono ?_
  rintro e w1 ⟨rfl, hb1⟩
  go_wp2
  go_ret
  exact ⟨rfl, hbw.trans (hb1.mono (by simp))⟩
end Go.Proofs.Ytmkhapgkiecmaaa
