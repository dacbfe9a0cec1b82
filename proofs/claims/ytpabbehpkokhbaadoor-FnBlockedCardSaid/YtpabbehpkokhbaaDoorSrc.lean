/- The draws' source of choices. -/
import Derived.Test.YtpabbehpkokhbaaDoorBytes
import Derived.Laws.BitsAllLaws
import Derived.Laws.Shifts
namespace Go.Proofs.YtpabbehpkokhbaaDoor
open Go.RowKit

/-- Block b is a source over the bytes 'l', which lie below b; it has been asked at most A times. -/
def Src (b A : Nat) (w : World) : Prop := ∃ (v : Value) (l : List UInt8) (k : Nat) (s : Int), w.heap[b]? = some (.cells #[v, .int .i64 k, .int .u64 s] 80 (0, 0)) ∧ Sl 1 byteC 0 b w v l ∧ k ≤ A ∧ l.length ≤ 1048576 ∧ 0 ≤ s ∧ s < 18446744073709551616

theorem Src.lt {b A : Nat} {w : World} (h : Src b A w) : b < w.heap.size := by obtain ⟨v, l, k, s, h, _⟩ := h; exact (Array.getElem?_eq_some_iff.1 h).1
theorem Src.below {b A : Nat} {w w' : World} (h : Src b A w) (hb : Below w.heap.size w w') : Src b A w' := by
  have hlt := h.lt
  obtain ⟨v, l, k, s, h, h1, h2⟩ := h
  exact ⟨v, l, k, s, (hb.block _ hlt).trans h, h1.below hb (by omega), h2⟩
theorem Src.lo {b A lo : Nat} {w w' : World} (h : Src b A w) (hb : Below lo w w') (hlo : b + 1 ≤ lo) : Src b A w' := by
  obtain ⟨v, l, k, s, h, h1, h2⟩ := h
  exact ⟨v, l, k, s, (hb.block _ (by omega)).trans h, h1.below hb (by omega), h2⟩
theorem Src.mono {b A A' : Nat} {w : World} (h : Src b A w) (hA : A ≤ A') : Src b A' w := by
  obtain ⟨v, l, k, s, h, h1, h2, h3⟩ := h
  exact ⟨v, l, k, s, h, h1, by omega, h3⟩

/-- What a choice gives: a number with P, and the source goes on. -/
def SrcPost (b A : Nat) (P : Int → Prop) (w : World) (e : Ending) (w' : World) : Prop := ∃ n : Nat, e = .returned (.int .i64 n) ∧ P n ∧ Src b A w' ∧ Mod b (b + 1) w w'

theorem Sl.at1 {b off len cap lo hi : Nat} {l : List UInt8} {w : World} (h : Sl 1 byteC lo hi w (.slice (some ⟨b, off, none⟩) len cap) l) {k : Nat} (hk : k < l.length) : w.cell? ⟨b, off + k, none⟩ = some (.int .u8 l[k].toNat) := by
  have := h.get k hk 0 (.int .u8 l[k].toNat) rfl
  simpa using this


theorem and255 (x : Int) (h0 : 0 ≤ x) (h1 : x < 18446744073709551616) : ∃ n : Nat, n < 256 ∧ wrap64 (bits .and .u64 (x / 1099511627776) 255) = n := by
  rw [u64_and _ _ (Int.ediv_nonneg h0 (by omega)) (by omega) (by omega) (by omega)]
  refine ⟨(x / 1099511627776).toNat &&& (255 : Int).toNat, ?_, ?_⟩
  · exact Nat.lt_of_le_of_lt Nat.and_le_right (by decide)
  · have : (x / 1099511627776).toNat &&& (255 : Int).toNat ≤ (255 : Int).toNat := Nat.and_le_right
    generalize (x / 1099511627776).toNat &&& (255 : Int).toNat = q at *
    have h2 : (255 : Int).toNat = 255 := rfl
    unfold wrap64
    omega
theorem src_step {b A k : Nat} {v : Value} {l : List UInt8} {s s' : Int} {w w' : World} (hb : w.heap[b]? = some (.cells #[v, .int .i64 k, .int .u64 s] 80 (0, 0))) (hsl : Sl 1 byteC 0 b w v l) (hk : k ≤ A) (hl : l.length ≤ 1048576) (h0 : 0 ≤ s') (h1 : s' < 18446744073709551616) (n m : Nat) (hw : w' = (((w.drewN n).setCell ⟨b, 1, none⟩ (.int .i64 ((k : Int) + 1))).setCell ⟨b, 2, none⟩ (.int .u64 s')).drewN m) : Src b (A + 1) w' ∧ Mod b (b + 1) w w' := by
  subst hw
  have hm : Mod b (b + 1) w ((((w.drewN n).setCell ⟨b, 1, none⟩ (.int .i64 ((k : Int) + 1))).setCell ⟨b, 2, none⟩ (.int .u64 s')).drewN m) :=
    ((((Mod.refl b (b + 1) w).drewN n).setCell (p := ⟨b, 1, none⟩) (Nat.le_refl _) (Nat.lt_succ_self _) _).setCell (p := ⟨b, 2, none⟩) (Nat.le_refl _) (Nat.lt_succ_self _) _).drewN m
  refine ⟨⟨v, l, k + 1, s', ?_, hsl.keep (hm.same (Nat.le_of_lt (Array.getElem?_eq_some_iff.1 hb).1) (.inl (Nat.le_refl _))), by omega, hl, h0, h1⟩, hm⟩
  simp [World.setCell, Array.getElem?_modify, hb]

theorem u64_lt (n : Int) : IntKind.u64.wrap n < 18446744073709551616 := by rw [IntKind.wrap_u64]; omega

set_option maxHeartbeats 2000000 in
theorem src_next (b A : Nat) (w : World) (h : Src b A w) (hA : A ≤ 1048576) : Calls Tryd.prog 64 #[.pointer (some ⟨b, 0, none⟩)] w (SrcPost b (A + 1) (fun n => n < 256) w) := by
  obtain ⟨v, l, k, s, hb, hsl, hk, hl, hs0, hs1⟩ := h
  have c0 : w.cell? ⟨b, 0, none⟩ = some v := by rw [Lib.cell_of_heap hb]; rfl
  have c1 : w.cell? ⟨b, 1, none⟩ = some (.int .i64 k) := by rw [Lib.cell_of_heap hb]; rfl
  have c2 : w.cell? ⟨b, 2, none⟩ = some (.int .u64 s) := by rw [Lib.cell_of_heap hb]; rfl
  have f1 : w.frozen? ⟨b, 1, none⟩ = false := Lib.frozen_of_heap hb 1
  have f2 : w.frozen? ⟨b, 2, none⟩ = false := Lib.frozen_of_heap hb 2
  have Hb := Lib.hid hb
  have Hsl := Lib.hid hsl
  clear hb
  by_cases hlt : k < l.length
  · obtain ⟨b2, off2, ha⟩ := (by obtain ⟨a, cap, hv, _, hh⟩ := hsl; obtain ⟨b2, off2, ha, _⟩ := hh (by omega); exact ⟨b2, off2, ⟨_, cap, by rw [hv, ha]⟩⟩ : ∃ b2 off2, ∃ n cap, v = .slice (some ⟨b2, off2, none⟩) n cap)
    obtain ⟨n2, cap2, rfl⟩ := ha
    obtain rfl : n2 = l.length := by obtain ⟨a, cap, hv, _⟩ := hsl; cases hv; rfl
    have c3 := hsl.at1 hlt
    have hcl := l[k].toNat_lt
    generalize l[k] = c at *
    clear hsl
    go_enter Tryd.func64, Tryd.ntmps64
    go_wp2_with fail
    go_quiet (fail)
    go_wp2_with fail
    go_quiet (fail)
    go_wp2_with fail
    go_quiet (fail)
    go_wp2
    go_ret
    obtain ⟨hS, hM⟩ := src_step Hb.out Hsl.out hk hl (wrap_u64_nonneg _) (u64_lt _) _ _ rfl
    exact ⟨c.toNat, rfl, by omega, hS, hM⟩
  · obtain ⟨a, cap, rfl, _⟩ := hsl
    go_enter Tryd.func64, Tryd.ntmps64
    go_wp2_with fail
    go_quiet (fail)
    go_wp2_with fail
    go_quiet (fail)
    go_wp2
    go_ret
    obtain ⟨hS, hM⟩ := src_step Hb.out Hsl.out hk hl (wrap_u64_nonneg _) (u64_lt _) _ _ rfl
    obtain ⟨n, hn, hv⟩ := and255 _ (wrap_u64_nonneg _) (u64_lt _)
    exact ⟨n, ret_int hv, by omega, hS, hM⟩

theorem tmod_nat {x n : Int} (h0 : 0 ≤ x) (h1 : x < 65536) (h2 : 0 < n) : ∃ q : Nat, x.tmod n = q ∧ (q : Int) < n ∧ q < 65536 := by
  have ht : x.tmod n = x % n := Int.tmod_eq_emod_of_nonneg h0
  have ht1 := Int.emod_nonneg x (show n ≠ 0 by omega)
  have ht2 := Int.emod_lt_of_pos x h2
  have ht3 : x % n ≤ x := by
    have h4 := Int.mul_ediv_add_emod x n
    have h5 : 0 ≤ n * (x / n) := Int.mul_nonneg (by omega) (Int.ediv_nonneg h0 (by omega))
    omega
  exact ⟨(x % n).toNat, by omega, by omega, by omega⟩
set_option maxRecDepth 100000 in
set_option maxHeartbeats 2000000 in
theorem src_pick (b A : Nat) (n : Int) (w : World) (h : Src b A w) (hA : A ≤ 1048574) (hn : n ≤ 9223372036854775807) : Calls Tryd.prog 37 #[.pointer (some ⟨b, 0, none⟩), .int .i64 n] w (SrcPost b (A + 2) (fun k => k < 65536 ∧ (1 ≤ n → k < n)) w) := by
  have hne := Lib.hid (fun A w' h hA => src_next b A w' h hA)
  have Hs := Lib.hid h
  clear h
  by_cases h1 : n ≤ 1
  · go_enter Tryd.func37, Tryd.ntmps37
    go_wp2
    go_ret
    exact ⟨0, rfl, ⟨by omega, by omega⟩, Hs.out.mono (by omega), Mod.refl _ _ _⟩
  · by_cases h2 : 200 < n
    · go_enter Tryd.func37, Tryd.ntmps37
      go_wp2_with fail
      refine (hne.out _ _ Hs.out (by omega)).mono ?_
      rintro e w1 ⟨x, rfl, hx, hs1, hm1⟩
      have Hs1 := Lib.hid hs1
      have hm1 := Lib.hid hm1
      clear hs1
      go_wp2_with fail
      refine (hne.out _ _ Hs1.out (by omega)).mono ?_
      rintro e w2 ⟨y, rfl, hy, hs2, hm2⟩
      have Hs2 := Lib.hid hs2
      have hm2 := Lib.hid hm2
      clear hs2
      obtain ⟨q, hq, hq1, hq2⟩ : ∃ q : Nat, ((x : Int) * 256 + y).tmod n = q ∧ (q : Int) < n ∧ q < 65536 := tmod_nat (by omega) (by omega) (by omega)
      go_wp2
      go_ret
      exact ⟨q, rfl, ⟨by omega, fun _ => hq1⟩, Hs2.out, hm1.out.trans hm2.out⟩
    · go_enter Tryd.func37, Tryd.ntmps37
      go_wp2_with fail
      refine (hne.out _ _ Hs.out (by omega)).mono ?_
      rintro e w1 ⟨x, rfl, hx, hs1, hm1⟩
      have Hs1 := Lib.hid hs1
      have hm1 := Lib.hid hm1
      clear hs1
      obtain ⟨q, hq, hq1, hq2⟩ : ∃ q : Nat, (x : Int).tmod n = q ∧ (q : Int) < n ∧ q < 65536 := tmod_nat (by omega) (by omega) (by omega)
      have Hq := Lib.hid hq
      clear hq
      go_wp2
      go_ret
      exact ⟨q, ret_int ((Int.tmod_eq_emod_of_nonneg (by omega)).symm.trans Hq.out), ⟨by omega, fun _ => hq1⟩, Hs1.out.mono (by omega), hm1.out⟩

/-- Yes or no, and the source goes on. -/
def SrcB (b A : Nat) (w : World) (e : Ending) (w' : World) : Prop := ∃ x : Bool, e = .returned (.bool x) ∧ Src b A w' ∧ Mod b (b + 1) w w'

set_option maxHeartbeats 1000000 in
theorem src_one (b A : Nat) (n : Int) (w : World) (h : Src b A w) (hA : A ≤ 1048574) (hn : n ≤ 9223372036854775807) : Calls Tryd.prog 23 #[.pointer (some ⟨b, 0, none⟩), .int .i64 n] w (SrcB b (A + 2) w) := by
  have hp := Lib.hid (src_pick b A n w h hA hn)
  clear h
  go_enter Tryd.func23, Tryd.ntmps23
  go_wp2_with fail
  refine hp.out.mono ?_
  rintro e w1 ⟨x, rfl, _, hs1, hm1⟩
  have Hs1 := Lib.hid hs1
  have hm1 := Lib.hid hm1
  clear hs1
  go_wp2
  go_ret
  exact ⟨_, rfl, Hs1.out, hm1.out⟩

/-- One of a list, and the source goes on. -/
def SrcIn {α : Type} (c : α → Value) (b A : Nat) (l : List α) (w : World) (e : Ending) (w' : World) : Prop := ∃ x ∈ l, e = .returned (c x) ∧ Src b A w' ∧ Mod b (b + 1) w w'

set_option maxHeartbeats 1000000 in
theorem src_among (b A : Nat) (v : Value) (l : List Int) (lo hi : Nat) (w : World) (h : Src b A w) (hA : A ≤ 1048574) (hl : 1 ≤ l.length) (hsl : Ints lo hi w v l) (hlh : hi ≤ b ∨ b + 1 ≤ lo) (hhi : hi ≤ w.heap.size) : Calls Tryd.prog 54 #[.pointer (some ⟨b, 0, none⟩), v] w (SrcIn (fun n => .int .i64 n) b (A + 2) l w) := by
  have hcap : l.length ≤ 9223372036854775807 := by obtain ⟨a, cap, _, h, _⟩ := hsl; omega
  have hp := Lib.hid (src_pick b A l.length w h hA (by omega))
  have hk := Lib.hid (fun w1 (hm : Mod b (b + 1) w w1) => hsl.keep (hm.same hhi (by omega)))
  obtain ⟨a, cap, rfl, _⟩ := hsl
  obtain ⟨b2, off, rfl⟩ := Sl.addr (hk.out w (Mod.refl _ _ _)) (by omega)
  clear h
  go_enter Tryd.func54, Tryd.ntmps54
  go_wp2_with fail
  refine hp.out.mono ?_
  rintro e w1 ⟨x, rfl, ⟨_, hx⟩, hs1, hm1⟩
  have Hs1 := Lib.hid hs1
  have hk1 := hk.out _ hm1
  have hm1 := Lib.hid hm1
  have hlt : x < l.length := by omega
  have c0 := Ints.at hk1.get hlt
  clear hs1 hk1
  go_wp2
  go_ret
  exact ⟨l[x], List.getElem_mem _, rfl, Hs1.out, hm1.out⟩

def strC (s : ByteArray) : List Value := [.string s]
set_option maxHeartbeats 1000000 in
theorem src_text (b A : Nat) (v : Value) (l : List ByteArray) (lo hi : Nat) (w : World) (h : Src b A w) (hA : A ≤ 1048574) (hl : 1 ≤ l.length) (hsl : Sl 1 strC lo hi w v l) (hlh : hi ≤ b ∨ b + 1 ≤ lo) (hhi : hi ≤ w.heap.size) : Calls Tryd.prog 87 #[.pointer (some ⟨b, 0, none⟩), v] w (SrcIn (fun n => .string n) b (A + 2) l w) := by
  have hcap : l.length ≤ 9223372036854775807 := by obtain ⟨a, cap, _, h, _⟩ := hsl; omega
  have hp := Lib.hid (src_pick b A l.length w h hA (by omega))
  have hk := Lib.hid (fun w1 (hm : Mod b (b + 1) w w1) => hsl.keep (hm.same hhi (by omega)))
  obtain ⟨a, cap, rfl, _⟩ := hsl
  obtain ⟨b2, off, rfl⟩ := Sl.addr (hk.out w (Mod.refl _ _ _)) (by omega)
  clear h
  go_enter Tryd.func87, Tryd.ntmps87
  go_wp2_with fail
  refine hp.out.mono ?_
  rintro e w1 ⟨x, rfl, ⟨_, hx⟩, hs1, hm1⟩
  have Hs1 := Lib.hid hs1
  have hk1 := hk.out _ hm1
  have hm1 := Lib.hid hm1
  have hlt : x < l.length := by omega
  have c0 : w1.cell? ⟨b2, off + x, none⟩ = some (.string l[x]) := by simpa using hk1.get x hlt 0 (.string l[x]) rfl
  clear hs1 hk1
  go_wp2
  go_ret
  exact ⟨l[x], List.getElem_mem _, rfl, Hs1.out, hm1.out⟩

set_option maxHeartbeats 1000000 in
theorem src_from (v : Value) (l : List UInt8) (hi : Nat) (w : World) (h : Sl 1 byteC 0 hi w v l) (hhi : hi ≤ w.heap.size) (hl : l.length ≤ 1048576) : Calls Tryd.prog 20 #[v] w fun e w' => e = .returned (.pointer (some ⟨w.heap.size, 0, none⟩)) ∧ Src w.heap.size 0 w' ∧ Below w.heap.size w w' := by
  have hn : Hid (∀ T, T = 80 → Src w.heap.size 0 (w.alloc (.cells #[v, .int .i64 0, .int .u64 0] T))) := Lib.hid (by
    rintro T rfl
    have hb : Below w.heap.size w (w.alloc (.cells #[v, .int .i64 0, .int .u64 0] 80)) := (Below.refl _ w).alloc (Nat.le_refl _) _
    exact ⟨v, l, 0, 0, Array.getElem?_push_size, (h.mono (Nat.le_refl _) hhi).below hb (Nat.le_refl _), Nat.le_refl _, hl, by omega, by omega⟩)
  obtain ⟨a, cap, rfl, _⟩ := h
  go_enter Tryd.func20, Tryd.ntmps20
  go_wp2
  go_ret
  exact ⟨rfl, hn.out _ rfl, (Below.refl _ w).alloc (Nat.le_refl _) _⟩
end Go.Proofs.YtpabbehpkokhbaaDoor
