/- The draws' spoilt texts. -/
import Derived.Test.YthdipbgeanmcgaaSrc
import Derived.Laws.Strings2
namespace Go.Proofs.Ythdipbgeanmcgaa
open Go.RowKit

theorem strC_len (s : ByteArray) : (strC s).length = 1 := rfl
def spoilL : List ByteArray := [⟨#[32]⟩, ⟨#[48]⟩, ⟨#[45]⟩, ⟨#[120]⟩, ⟨#[49]⟩, ⟨#[57]⟩, ⟨#[46]⟩]
theorem spoilL_one {x : ByteArray} (h : x ∈ spoilL) : x.size = 1 := by
  simp [spoilL] at h
  rcases h with rfl | rfl | rfl | rfl | rfl | rfl | rfl <;> rfl

theorem empty_yes {t : ByteArray} (h : t.size = 0) : t.toList.isEmpty = true := by
  rw [ByteArray.toList_eq, List.isEmpty_iff, ← List.length_eq_zero_iff, Array.length_toList]; exact h
theorem empty_no {t : ByteArray} (h : ¬ t.size = 0) : t.toList.isEmpty = false := by
  rw [← Bool.not_eq_true, ByteArray.toList_eq, List.isEmpty_iff, ← List.length_eq_zero_iff, Array.length_toList]; exact h
theorem add_run (a b : ByteArray) (h : a.size + b.size ≤ 9223372036854775807) : ∀ w : World, (Op.stringOp .add a b).run Try.prog w = .ok (.string (a ++ b)) w := fun w => run_string_add_sum w a b h

set_option maxRecDepth 100000 in
set_option maxHeartbeats 4000000 in
theorem spec_Spoil (b A : Nat) (t : ByteArray) (w : World) (h : Src b A w) (hA : A ≤ 1000) (ht : t.size ≤ 1048575) : Calls Try.prog 39 #[.pointer (some ⟨b, 0, none⟩), .string t] w fun e w' => (∃ s : ByteArray, e = .returned (.string s) ∧ s.size ≤ t.size + 1) ∧ Below b w w' := by
  have hp := Lib.hid (fun A w' h hA n hn => src_pick b A n w' h hA hn)
  have Hs1 := Lib.hid h
  clear h
  go_enter Try.func39, Try.ntmps39
  go_wp2_with fail
  refine (hp.out _ _ Hs1.out (by omega) _ (by omega)).mono ?_
  rintro e w2 ⟨k, rfl, ⟨_, hkn⟩, hs2, hm2⟩
  have hk := Lib.hid (show k < 5 by omega)
  clear hkn
  have Hs2 := Lib.hid hs2
  have hb2 := hm2.below (Nat.le_refl _) (Nat.le_of_lt Hs1.out.lt)
  clear hs2 hm2
  obtain rfl | rfl | hk5 : k = 0 ∨ k = 1 ∨ 2 ≤ k := by omega
  · go_wp2_with fail
    refine (hp.out _ _ Hs2.out (by omega) _ (by omega)).mono ?_
    rintro e w3 ⟨i, rfl, ⟨_, hin⟩, hs3, hm3⟩
    have hi : i ≤ t.size := by omega
    clear hin
    have Hs3 := Lib.hid hs3
    have hlt3 := hs3.lt
    have hb3 := hb2.trans (hm3.below (Nat.le_refl _) (Nat.le_of_lt Hs2.out.lt))
    clear hs3 hm3
    go_wp2_with fail
    have hbl : Below b w3 ((w3.alloc (.cells #[.string ⟨#[32]⟩, .string ⟨#[48]⟩, .string ⟨#[45]⟩, .string ⟨#[120]⟩, .string ⟨#[49]⟩, .string ⟨#[57]⟩, .string ⟨#[46]⟩] 9)).drew) := ((Below.refl _ w3).alloc (by omega) _).drew
    have hlit := Lib.hid (src_text b _ (.slice (some ⟨w3.heap.size, 0, none⟩) 7 7) spoilL w3.heap.size (w3.heap.size + 1) _ (Hs3.out.below (((Below.refl _ w3).alloc (Nat.le_refl _) (.cells #[.string ⟨#[32]⟩, .string ⟨#[48]⟩, .string ⟨#[45]⟩, .string ⟨#[120]⟩, .string ⟨#[49]⟩, .string ⟨#[57]⟩, .string ⟨#[46]⟩] 9)).drew)) (by omega) (by decide) ((sl_lit strC_len spoilL w3 9 (cs := #[.string ⟨#[32]⟩, .string ⟨#[48]⟩, .string ⟨#[45]⟩, .string ⟨#[120]⟩, .string ⟨#[49]⟩, .string ⟨#[57]⟩, .string ⟨#[46]⟩]) rfl (m := 7) rfl (by decide)).below ((Below.refl (w3.heap.size + 1) _).drew) (Nat.le_refl _)) (.inr hlt3) (by simp))
    go_region_held3 (fun w' => (∀ b' o', b' < b → w'.cell? ⟨b', o', none⟩ = w3.cell? ⟨b', o', none⟩) ∧ Below b w3 w') (first | exact heldB (Below.refl _ _).drew | exact heldB ((Below.refl _ _).drew.alloc (by first | omega | (simp; omega)) _) | exact heldB hb4)
      (first | (go_at_call 47; refine hlit.out.mono ?_; rintro e w4 ⟨x, hx, rfl, hs4, hm4⟩; have hb4 : Below b w3 w4 := hbl.trans (hm4.below (Nat.le_refl _) (Nat.le_trans (Nat.le_of_lt hlt3) (by simp))); have hx1 := spoilL_one hx; have hc1 := add_run (t.extract 0 i) x (by rw [hx1]; simp; omega); have hc2 := add_run (t.extract 0 i ++ x) (t.extract i t.size) (by simp [hx1]; omega); clear hs4 hm4 hx hbl))
    go_wp2
    go_ret
    exact ⟨⟨_, rfl, by simp [hx1]; omega⟩, hb3.trans hb4⟩
  · by_cases h0 : t.size = 0
    · have he : t.toList.isEmpty = true := empty_yes h0
      go_wp2
      go_ret
      exact ⟨⟨t, rfl, by omega⟩, hb2⟩
    · have he : t.toList.isEmpty = false := empty_no h0
      go_wp2_with fail
      refine (hp.out _ _ Hs2.out (by omega) _ (by omega)).mono ?_
      rintro e w3 ⟨i, rfl, ⟨_, hin⟩, hs3, hm3⟩
      have hi : i < t.size := by omega
      clear hin
      have hb3 := hb2.trans (hm3.below (Nat.le_refl _) (Nat.le_of_lt Hs2.out.lt))
      clear hs3 hm3
      go_wp2_with fail
      go_quiet (fail)
      go_wp2
      go_ret
      exact ⟨⟨_, rfl, by simp; omega⟩, below_dN hb3 _⟩
  · have hk0 : ((k : Int) == 0) = false := by simp; omega
    have hk1 : ((k : Int) == 1) = false := by simp; omega
    clear hk5
    go_wp2
    go_ret
    exact ⟨⟨t, rfl, by omega⟩, hb2⟩
end Go.Proofs.Ythdipbgeanmcgaa
