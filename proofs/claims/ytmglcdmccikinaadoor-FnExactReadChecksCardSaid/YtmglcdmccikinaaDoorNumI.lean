/- Decimal numbers, the program's reading. -/
import Derived.Test.YtmglcdmccikinaaDoorNumW
import Derived.Test.YtmglcdmccikinaaDoorDecI
namespace Go.Proofs.YtmglcdmccikinaaDoor
open Go.RowKit
theorem valD_ge : ∀ (l : List UInt8) (a : Nat), a ≤ valD a l
  | [], a => Nat.le_refl _
  | c :: r, a => by
    have := valD_ge r (10 * a + (c.toNat - 48))
    rw [valD_cons]; omega
theorem parseM_ok : ∀ (l : List UInt8) (a : Nat), (∀ c ∈ l, isDig c) → valD a l < 1000000000000000000 → Lib.parseUintM (2 ^ 64 - 1) a l = .ok (valD a l)
  | [], a, _, _ => by unfold Lib.parseUintM; rfl
  | c :: r, a, hd, hv => by
    have h1 := hd c List.mem_cons_self
    have h2 := valD_ge r (10 * a + (c.toNat - 48))
    rw [valD_cons] at hv ⊢
    have ih := parseM_ok r (10 * a + (c.toNat - 48)) (fun x hx => hd x (List.mem_cons_of_mem _ hx)) hv
    unfold isDig at h1
    have e : a * 10 + (c.toNat - 48) = 10 * a + (c.toNat - 48) := by omega
    rw [Lib.parseUintM, if_pos h1, if_neg (by omega), if_neg (by omega), e]
    exact ih
theorem parse_digits (u : Nat) (h : u < 1000000000000000000) : Lib.parseUintB 64 (Lib.decDigits u) = .ok u := by
  obtain ⟨c, r, hl, -⟩ := decDigits_head u
  obtain ⟨h1, h2⟩ := decDigits_val u
  unfold Lib.parseUintB
  rw [if_neg (by rw [hl]; simp), parseM_ok _ 0 h2 (by rw [h1]; exact h), h1]
theorem parse_num {s : ByteArray} {n : Int} (h : NumOf s n) : Lib.parseIntB 64 s.data.toList = .ok n := by
  have hb := h.bd
  rw [← h.1, decStr_list]
  have hp := parse_digits n.natAbs hb
  unfold Lib.itoa
  by_cases hn : n < 0
  · rw [if_pos hn]
    have h45 : (45 : UInt8).toNat = 45 := rfl
    simp only [Lib.parseIntB, h45, or_true, if_true, hp]
    rw [if_neg (by simp), if_neg (by omega)]
    rw [show -((n.natAbs : Nat) : Int) = n by omega]
  · rw [if_neg hn, show n.toNat = n.natAbs by omega]
    obtain ⟨c, r, hl, hc⟩ := decDigits_head n.natAbs
    have hd := (decDigits_val n.natAbs).2 c (by rw [hl]; exact List.mem_cons_self)
    rw [hl] at hp ⊢
    unfold isDig at hd
    have h43 : ¬ (c.toNat = 43 ∨ c.toNat = 45) := by omega
    simp only [Lib.parseIntB, if_neg h43, hp]
    rw [if_neg (by omega), if_neg (by omega), if_neg hc, show ((n.natAbs : Nat) : Int) = n by omega]
theorem parse_bd {l : List UInt8} {v : Int} (h : Lib.parseIntB 64 l = .ok v) : I64 v := by
  cases l with
  | nil => simp [Lib.parseIntB] at h
  | cons c r =>
    simp only [Lib.parseIntB] at h
    generalize Lib.parseUintB 64 (if c.toNat = 43 ∨ c.toNat = 45 then r else c :: r) = q at h
    cases q with
    | «syntax» => cases h
    | range => cases h
    | ok u =>
      dsimp only at h
      by_cases hc : c.toNat = 45
      · rw [if_neg (by simp [hc])] at h
        split at h
        · cases h
        · rename_i h2
          injection h with h
          have h3 : (2 : Nat) ^ (64 - 1) = 9223372036854775808 := by decide
          rw [h3] at h2
          subst h
          unfold I64
          omega
      · split at h
        · cases h
        · rename_i h2
          split at h
          · cases h
          · injection h with h
            have h3 : (2 : Nat) ^ (64 - 1) = 9223372036854775808 := by decide
            rw [h3] at h2
            subst h
            unfold I64
            omega
theorem trim_unS (l : List UInt8) : Lib.trimPrefix l [45] = unS l := by
  unfold Lib.trimPrefix unS
  cases l with
  | nil => simp [Lib.hasPrefix]
  | cons c r =>
    by_cases h : c.toNat = 45
    · have : c = 45 := UInt8.toNat_inj.1 h
      subst this
      simp [Lib.hasPrefix]
    · have : ¬ 45 = c := fun e => h (by rw [← e]; rfl)
      simp [Lib.hasPrefix, this, h]
/-- The two errors of the library that a reading may meet. -/
def EV (w : World) : Prop := (∃ tp p, w.var? Tryd.prog "strconv.ErrSyntax" = some #[.iface tp p]) ∧ ∃ tp p, w.var? Tryd.prog "strconv.ErrRange" = some #[.iface tp p]
theorem gES : Tryd.prog.globalNamed "strconv.ErrSyntax" = some 1 := by kernel_rfl
theorem gER : Tryd.prog.globalNamed "strconv.ErrRange" = some 2 := by kernel_rfl
theorem var_lt {w : World} {n : String} {g : Nat} {u : Value} (hg : Tryd.prog.globalNamed n = some g) (h : w.var? Tryd.prog n = some #[u]) : g < w.heap.size :=
  World.block_lt_of_cell? w ⟨g, 0, none⟩ (u := u) (by rw [World.var?_cell hg h 0]; rfl)
theorem EV.ext {w w' : World} (h : EV w) (hb : Below w.heap.size w w') : EV w' := by
  obtain ⟨⟨t1, p1, h1⟩, t2, p2, h2⟩ := h
  exact ⟨⟨t1, p1, var?_below hb gES (var_lt gES h1) h1⟩, t2, p2, var?_below hb gER (var_lt gER h2) h2⟩
set_option maxRecDepth 100000 in
set_option maxHeartbeats 4000000 in
theorem impl_ReadDec (s : ByteArray) (w : World) (hs : s.size ≤ 281474976710656) (h10 : P10 w) (hev : EV w) :
    Calls Tryd.prog 30 #[.string s] w fun e w' => e = .returned (.tuple #[.int .i64 (numV s), .bool (numB s)]) ∧ Below w.heap.size w w' := by
  have HT := Lib.hid (Tryd.strings_TrimPrefix s ⟨#[45]⟩ w)
  rw [show ((⟨#[45]⟩ : ByteArray).data.toList) = [45] from rfl, trim_unS] at HT
  by_cases hlen : 18 < (unS s.data.toList).length
  · have Hr := Lib.hid (num_f (s := s) (fun n hn => by have := hn.2; omega))
    clear hev h10
    generalize unS s.data.toList = L at *
    go_enter Tryd.func30, Tryd.ntmps30
    go_wp2_with fail
    refine HT.out.mono ?_
    rintro e w1 ⟨rfl, rfl⟩
    go_wp2
    go_ret2
    exact ⟨by rw [Hr.out.1, Hr.out.2]; rfl, Below.refl _ _⟩
  have HY := Lib.hid (fun n (h : decStr n = s) => num_t (s := s) (n := n) ⟨h, by omega⟩)
  have hL18 : (unS s.data.toList).length ≤ 18 := by omega
  generalize unS s.data.toList = L at *
  obtain ⟨⟨t1, p1, h1⟩, t2, p2, h2⟩ := hev
  cases hp : Lib.parseIntB 64 s.data.toList with
  | ok v =>
    have HP := Lib.hid (Tryd.strconv_ParseInt_10_at64_ok s (by omega) v hp w)
    have hv : I64 v := parse_bd hp
    have HD := Lib.hid (fun w' (hb : Below w.heap.size w w') => impl_Dec v w' hv (h10.ext hb))
    have HN := Lib.hid (fun (h : ¬ decStr v = s) => num_f (s := s) (fun n hn => by
      have h3 := parse_num hn
      rw [hp] at h3
      cases h3
      exact h hn.1))
    clear h10 h1 h2 hp
    by_cases hres : decStr v = s
    · have Hr := Lib.hid (HY.out v hres)
      have hne := sm_eqN hres
      clear HN HY hres
      go_enter Tryd.func30, Tryd.ntmps30
      go_wp2_with fail
      refine HT.out.mono ?_
      rintro e w1 ⟨rfl, rfl⟩
      go_wp2_with fail
      refine HP.out.mono ?_
      rintro e w2 ⟨rfl, hw2⟩
      have hb2 : Below w1.heap.size w1 w2 := by
        rcases hw2 with rfl | ⟨t, rfl⟩
        · exact Below.refl _ _
        · exact Lib.bytesWorld_below _ _ _
      clear hw2
      go_wp2_with (go_at_call 38; refine (HD.out _ hb2).mono ?_; rintro e w3 ⟨rfl, hb3⟩)
      go_ret2
      exact ⟨by rw [Hr.out.1, Hr.out.2]; rfl, hb2.trans (hb3.mono hb2.size)⟩
    · have Hr := Lib.hid (HN.out hres)
      have hne := sm_neN hres
      clear HN HY hres
      go_enter Tryd.func30, Tryd.ntmps30
      go_wp2_with fail
      refine HT.out.mono ?_
      rintro e w1 ⟨rfl, rfl⟩
      go_wp2_with fail
      refine HP.out.mono ?_
      rintro e w2 ⟨rfl, hw2⟩
      have hb2 : Below w1.heap.size w1 w2 := by
        rcases hw2 with rfl | ⟨t, rfl⟩
        · exact Below.refl _ _
        · exact Lib.bytesWorld_below _ _ _
      clear hw2
      go_wp2_with (go_at_call 38; refine (HD.out _ hb2).mono ?_; rintro e w3 ⟨rfl, hb3⟩)
      go_ret2
      exact ⟨by rw [Hr.out.1, Hr.out.2]; rfl, hb2.trans (hb3.mono hb2.size)⟩
  | «syntax» =>
    have HP := Lib.hid (Tryd.strconv_ParseInt_10_at64_syntax_var s hs hp t1 p1 w h1)
    have Hr := Lib.hid (num_f (s := s) (fun n hn => by have h3 := parse_num hn; rw [hp] at h3; cases h3))
    clear h10 h1 h2 hp HY
    go_enter Tryd.func30, Tryd.ntmps30
    go_wp2_with fail
    refine HT.out.mono ?_
    rintro e w1 ⟨rfl, rfl⟩
    go_wp2_with fail
    refine HP.out.mono ?_
    rintro e w2 ⟨N, rfl, -, -, hb2⟩
    go_wp2
    go_ret2
    exact ⟨by rw [Hr.out.1, Hr.out.2]; rfl, hb2⟩
  | range =>
    have HP := Lib.hid (Tryd.strconv_ParseInt_10_at64_range_var s hs hp t2 p2 w h2)
    have Hr := Lib.hid (num_f (s := s) (fun n hn => by have h3 := parse_num hn; rw [hp] at h3; cases h3))
    clear h10 h1 h2 hp HY
    go_enter Tryd.func30, Tryd.ntmps30
    go_wp2_with fail
    refine HT.out.mono ?_
    rintro e w1 ⟨rfl, rfl⟩
    go_wp2_with fail
    refine HP.out.mono ?_
    rintro e w2 ⟨N, rfl, -, -, hb2⟩
    go_wp2
    go_ret2
    exact ⟨by rw [Hr.out.1, Hr.out.2]; rfl, hb2⟩
end Go.Proofs.YtmglcdmccikinaaDoor
