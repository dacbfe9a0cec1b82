/- Packing: numbers, texts and points, the reference. -/
import Derived.Test.YtgbohbjpdmgneaaPut
import Derived.Test.YtgbohbjpdmgneaaSS
import Derived.Lib.AppendStr
namespace Go.Proofs.Ytgbohbjpdmgneaa
open Go.RowKit
/-- Blocks that hold no bytes are as they were. -/
def Keep (w w' : World) : Prop := ∀ (k : Nat) (cs : Array Value) (t : TypeId) (fz : Nat × Nat), w.heap[k]? = some (.cells cs t fz) → t ≠ 5 → w'.heap[k]? = w.heap[k]?
theorem Keep.refl (w : World) : Keep w w := fun _ _ _ _ _ _ => rfl
theorem Keep.trans {a b c : World} (h : Keep a b) (h2 : Keep b c) : Keep a c := fun k cs t fz hk ht => by
  have h3 := h k cs t fz hk ht
  exact (h2 k cs t fz (h3.trans hk) ht).trans h3
theorem Keep.of_below {w w' : World} (h : Below w.heap.size w w') : Keep w w' := fun k _ _ _ hk _ => h.block k (Array.getElem?_eq_some_iff.1 hk).1
theorem Keep.grown {w w' : World} {lo : Nat} {v : Value} {l : List UInt8} {cs : Array Value} (hown : Own 1 byteC lo 5 w v l) (hg : (w.alloc (.cells cs 5)).grownBy w' v.ownBlock) : Keep w w' := fun k cs' t fz hk ht => by
  have hlt := (Array.getElem?_eq_some_iff.1 hk).1
  rw [hg.block k (by simp; omega) (fun e => by
    obtain ⟨cur, fz', hc⟩ := hown.block e.symm
    rw [hk] at hc; cases hc; exact ht rfl)]
  exact ((Below.refl w.heap.size w).alloc (Nat.le_refl _) _).block k hlt
theorem Keep.grown0 {w w' : World} {lo : Nat} {v : Value} {l : List UInt8} (hown : Own 1 byteC lo 5 w v l) (hg : w.grownBy w' v.ownBlock) : Keep w w' := fun k cs' t fz hk ht =>
  hg.block k (Array.getElem?_eq_some_iff.1 hk).1 (fun e => by
    obtain ⟨cur, fz', hc⟩ := hown.block e.symm
    rw [hk] at hc; cases hc; exact ht rfl)
set_option maxRecDepth 100000 in
set_option maxHeartbeats 4000000 in
theorem spec_PutK (v : Value) (l : List UInt8) (lo : Nat) (n : Int) (w : World) (hown : Own 1 byteC lo 5 w v l) (hl : l.length ≤ 70368744177664) (hlo : lo ≤ w.heap.size) (hn : Fit n) :
    Calls Try.prog 130 #[v, .int .i64 n] w fun e w' => ∃ v', e = .returned v' ∧ Own 1 byteC lo 5 w' v' (l ++ putB (sgn n)) ∧ Below lo w w' ∧ Keep w w' := by
  have hsl := sgn_lt hn
  have hpl := putB_sgn hn
  have hsg := Lib.hid (fun w' => spec_Signed n w' hn)
  generalize sgn n = x0 at *
  have Hown := Lib.hid hown
  clear hown
  go_enter Try.func130, Try.ntmps130
  go_wp2_with fail
  refine (hsg.out _).mono ?_
  rintro e w1 ⟨rfl, rfl⟩
  go_wp2
  go_loopw [0, 5] (fun v i wr => ∃ (x : Nat) (acc : List UInt8), i = .int .i64 x ∧ x < 9223372036854775808 ∧ Hid (Own 1 byteC lo 5 wr v acc) ∧ Hid (acc ++ putB x = l ++ putB x0) ∧ Below lo w1 wr ∧ Hid (Keep w1 wr)) (fun _ i _ => (intOf i).toNat)
  case atStart => exact ⟨x0, l, rfl, hsl, Hown, Lib.hid rfl, Below.refl _ _, Lib.hid (Keep.refl _)⟩
  case round =>
    obtain ⟨x, acc, rfl, hx, hown, hacc, hB, hkeep⟩ := hrel
    have hBs := Nat.le_trans hlo hB.size
    obtain ⟨f1, f2, f3, f4, f5⟩ := put_facts x hx
    have hal : acc.length ≤ 70368744177684 := by
      have := congrArg List.length hacc.out
      rw [List.length_append, List.length_append] at this
      omega
    by_cases hlt : x < 128
    · have f6 := f5 hlt
      have hfin := hacc.out
      rw [putB_lt hlt] at hfin
      have Hfin := Lib.hid hfin
      clear hfin f5 f1 f2 f3 f4
      generalize UInt8.ofNat x = y at *
      go_wp2_with (at_builtin; refine wpList_app1 (c := byteC) (bytes := 1) rfl _ _ 41 5 rfl Try.underlying41 info_uint8 (by omega) byteC_len byteC_one lo acc y _ rfl _ rfl hown.out rfl (by omega) (by omega) hBs ?_; intro v' w3 hown3 hg3; have hB3 := (hown.out).app hB (Nat.le_refl _) hBs hg3; have hK3 := Lib.hid (hkeep.out.trans (Keep.grown hown.out hg3)))
      go_ret
      exact ⟨_, rfl, by rw [← Hfin.out]; exact hown3, hB3, hK3.out⟩
    · have hnext := hacc.out
      rw [putB_ge hlt] at hnext
      have Hnext := Lib.hid hnext
      clear hnext f5
      generalize UInt8.ofNat (128 + x % 128) = y at *
      have hd : x / 128 < x := by omega
      generalize x / 128 = x' at *
      generalize x % 128 = r at *
      go_wp2_with (at_builtin; refine wpList_app1 (c := byteC) (bytes := 1) rfl _ _ 41 5 rfl Try.underlying41 info_uint8 (by omega) byteC_len byteC_one lo acc y _ rfl _ rfl hown.out rfl (by omega) (by omega) hBs ?_; intro v' w3 hown3 hg3; have hB3 := (hown.out).app hB (Nat.le_refl _) hBs hg3; have hK3 := Lib.hid (hkeep.out.trans (Keep.grown hown.out hg3)))
      go_roundw
      case rel => exact ⟨x', acc ++ [y], rfl, by omega, Lib.hid hown3, Lib.hid (by rw [← Hnext.out]; simp), hB3, hK3⟩
      case measure => simp [intOf]; omega


def putN (n : Int) : List UInt8 := putB (sgn n)
def textB (s : ByteArray) : List UInt8 := putN s.size ++ s.data.toList
def ptB (x y : Int) : List UInt8 := putN x ++ putN y
theorem putN_len {n : Int} (h : Fit n) : (putN n).length ≤ 10 := putB_sgn h
theorem strCells_byteC (s : ByteArray) : Lib.strCells s = s.data.toList.flatMap byteC := by
  unfold Lib.strCells
  induction s.data.toList with
  | nil => rfl
  | cons x r ih => simp only [List.map_cons, List.flatMap_cons, ih, byteC, List.cons_append, List.nil_append]
theorem size_data (s : ByteArray) : s.data.toList.length = s.size := by rw [Array.length_toList]; rfl
theorem blkK_new (w : World) (o : Obj) : (w.alloc o).heap[w.heap.size]? = some o := Array.getElem?_push_size
set_option maxRecDepth 100000 in
set_option maxHeartbeats 4000000 in
theorem spec_Text (v : Value) (l : List UInt8) (lo : Nat) (s : ByteArray) (w : World) (hown : Own 1 byteC lo 5 w v l) (hl : l.length ≤ 1000000000) (hlo : lo ≤ w.heap.size) (hs : s.size ≤ 1000000000) :
    Calls Try.prog 131 #[v, .string s] w fun e w' => ∃ v', e = .returned v' ∧ Own 1 byteC lo 5 w' v' (l ++ textB s) ∧ Below lo w w' ∧ Keep w w' := by
  have hfit : Fit (s.size : Int) := by unfold Fit; omega
  have hput := Lib.hid (spec_PutK v l lo (s.size : Int) w hown (by omega) hlo hfit)
  have hpl := putB_sgn hfit
  have hinfo : (Try.prog.info? 5).map (fun i => (i.zero, i.size, i.bytes)) = some (some (.int .u8 0), 1, 1) := by kernel_rfl
  obtain ⟨i0, hi, hz0, hz1, hz2⟩ := info_parts hinfo
  clear hown hinfo hfit
  unfold textB putN
  generalize putB (sgn (s.size : Int)) = p at *
  go_enter Try.func131, Try.ntmps131
  go_wp2_with fail
  refine hput.out.mono ?_
  rintro e w1 ⟨v1, rfl, hown1, hb1, hk1⟩
  have Hown1 := Lib.hid hown1
  have Hk1 := Lib.hid hk1
  have hlen1 : (l ++ p).length ≤ 1000000100 := by rw [List.length_append]; omega
  have hlo1 := Nat.le_trans hlo hb1.size
  clear hown1 hk1
  go_wp2_with (at_builtin; refine Lib.wpList_append_own_string _ rfl _ _ 41 9 rfl lo 5 i0 Try.underlying41 Try.underlying9 hi hz0 hz1 hz2 _ (l ++ p).length ((l ++ p).flatMap byteC) rfl Hown1.out s rfl (by unfold maxLen; omega) (by omega) hlo1 ?_; intro v' w3 h1 h2 _; have hB3 := Own.grows Hown1.out hb1 (Nat.le_refl _) hlo1 h2; have hK3 := Lib.hid (Hk1.out.trans (Keep.grown0 Hown1.out h2)); have H1 := Lib.hid h1; clear h1 h2)
  go_ret
  refine ⟨_, rfl, ?_, hB3, hK3.out⟩
  have h1 := H1.out
  rw [strCells_byteC, ← List.flatMap_append, ← size_data, ← List.length_append, List.append_assoc] at h1
  exact h1
set_option maxRecDepth 100000 in
set_option maxHeartbeats 4000000 in
theorem spec_Point (v : Value) (l : List UInt8) (lo : Nat) (x y : Int) (w : World) (hown : Own 1 byteC lo 5 w v l) (hl : l.length ≤ 1000000000) (hlo : lo ≤ w.heap.size) (hx : Fit x) (hy : Fit y) :
    Calls Try.prog 132 #[v, .agg #[.int .i64 x, .int .i64 y]] w fun e w' => ∃ v', e = .returned v' ∧ Own 1 byteC lo 5 w' v' (l ++ ptB x y) ∧ Below lo w w' ∧ Keep w w' := by
  have hba : Below w.heap.size w (w.alloc (.cells #[.int .i64 x, .int .i64 y] 46)) := (Below.refl _ _).alloc (Nat.le_refl _) _
  have hp1 := Lib.hid (fun w' (hb : Below w.heap.size w w') => spec_PutK v l lo x w' (hown.below hb) (by omega) (Nat.le_trans hlo hb.size) hx)
  have hp2 := Lib.hid (fun v w' h1 h2 => spec_PutK v (l ++ putB (sgn x)) lo y w' h1 (by have := putB_sgn hx; rw [List.length_append]; omega) h2 hy)
  have hbx := Lib.hid (blkK_new w (.cells #[.int .i64 x, .int .i64 y] 46))
  clear hown
  have Hlo := Lib.hid hlo
  unfold ptB putN
  generalize putB (sgn x) = p at *
  generalize putB (sgn y) = q at *
  go_enter Try.func132, Try.ntmps132
  go_wp2_with fail
  have e0 : (w.alloc (.cells #[.int .i64 x, .int .i64 y] 46)).drew.cell? ⟨w.heap.size, 0, none⟩ = some (.int .i64 x) := (Lib.cell_of_heap hbx.out 0).trans rfl
  have e1 : (w.alloc (.cells #[.int .i64 x, .int .i64 y] 46)).drew.cell? ⟨w.heap.size, 1, none⟩ = some (.int .i64 y) := (Lib.cell_of_heap hbx.out 1).trans rfl
  go_region_held3 (fun w' => w'.cell? ⟨w.heap.size, 0, none⟩ = some (.int .i64 x) ∧ w'.cell? ⟨w.heap.size, 1, none⟩ = some (.int .i64 y))
    (first | exact ⟨e0, e1⟩ | exact ⟨f0, f1⟩ | exact ⟨g0, g1⟩)
    (first
      | (go_at_call_of 130 x; refine (hp1.out _ hba.drew).mono ?_; rintro e w2 ⟨v2, rfl, ho2, hb2, hk2⟩; have ho2 := Lib.hid ho2; have hk2 := Lib.hid hk2; have hx2 := Lib.hid ((hk2.out _ _ _ _ hbx.out (by decide)).trans hbx.out); have f0 : w2.cell? ⟨w.heap.size, 0, none⟩ = some (.int .i64 x) := (Lib.cell_of_heap hx2.out 0).trans rfl; have f1 : w2.cell? ⟨w.heap.size, 1, none⟩ = some (.int .i64 y) := (Lib.cell_of_heap hx2.out 1).trans rfl; have hl2 := Nat.le_trans Hlo.out (Nat.le_trans hba.drew.size hb2.size))
      | (go_at_call_of 130 y; refine (hp2.out _ _ ho2.out hl2).mono ?_; rintro e w3 ⟨v3, rfl, ho3, hb3, hk3⟩; have ho3 := Lib.hid ho3; have hk3 := Lib.hid hk3; have hx3 := Lib.hid ((hk3.out _ _ _ _ hx2.out (by decide)).trans hx2.out); have g0 : w3.cell? ⟨w.heap.size, 0, none⟩ = some (.int .i64 x) := (Lib.cell_of_heap hx3.out 0).trans rfl; have g1 : w3.cell? ⟨w.heap.size, 1, none⟩ = some (.int .i64 y) := (Lib.cell_of_heap hx3.out 1).trans rfl))
  go_wp2
  go_ret
  exact ⟨_, rfl, by rw [← List.append_assoc]; exact ho3.out, ((hba.drew.mono Hlo.out).trans hb2).trans hb3, ((Keep.of_below hba.drew).trans hk2.out).trans hk3.out⟩
end Go.Proofs.Ytgbohbjpdmgneaa
