/- Packing: texts and points, the program; the end with the checksum, both packages. -/
import Derived.Test.YtgbohbjpdmgneaaPk1
import Derived.Test.YtgbohbjpdmgneaaSum
namespace Go.Proofs.Ytgbohbjpdmgneaa
open Go.RowKit
/-- Blocks but b that hold no bytes are as they were. -/
def KeepB (b : Nat) (w w' : World) : Prop := ∀ (k : Nat) (cs : Array Value) (t : TypeId) (fz : Nat × Nat), w.heap[k]? = some (.cells cs t fz) → t ≠ 5 → k ≠ b → w'.heap[k]? = w.heap[k]?
theorem KeepB.refl (b : Nat) (w : World) : KeepB b w w := fun _ _ _ _ _ _ _ => rfl
theorem KeepB.trans {b : Nat} {x y z : World} (h : KeepB b x y) (h2 : KeepB b y z) : KeepB b x z := fun k cs t fz hk ht hb => by
  have h3 := h k cs t fz hk ht hb
  exact (h2 k cs t fz (h3.trans hk) ht hb).trans h3
theorem KeepB.setCell (b o : Nat) (w : World) (u : Value) : KeepB b w (w.setCell ⟨b, o, none⟩ u) := fun _ _ _ _ _ _ hb => Below.heap_setCell _ _ _ _ hb
theorem KeepB.grownF {b B n : Nat} {xs : List Value} {w w' : World} {v : Value} {cs : Array Value} (hown : w.ownsRowF B 5 1 v n xs) (hg : (w.alloc (.cells cs 5)).grownBy w' v.ownBlock) : KeepB b w w' := fun k cs' t fz hk ht _ => by
  have hlt := (Array.getElem?_eq_some_iff.1 hk).1
  rw [hg.block k (by simp; omega) (fun e => by
    rcases hown.2 with ⟨rfl, _⟩ | ⟨g, cap, cur, fz', rfl, _, hgh, _⟩
    · simp [Value.ownBlock] at e
    · simp [Value.ownBlock] at e
      subst e
      rw [hk] at hgh; cases hgh; exact ht rfl)]
  exact ((Below.refl w.heap.size w).alloc (Nat.le_refl _) _).block k hlt
theorem KeepB.grownF0 {b B n : Nat} {xs : List Value} {w w' : World} {v : Value} (hown : w.ownsRowF B 5 1 v n xs) (hg : w.grownBy w' v.ownBlock) : KeepB b w w' := fun k cs' t fz hk ht _ =>
  hg.block k (Array.getElem?_eq_some_iff.1 hk).1 (fun e => by
    rcases hown.2 with ⟨rfl, _⟩ | ⟨g, cap, cur, fz', rfl, _, hgh, _⟩
    · simp [Value.ownBlock] at e
    · simp [Value.ownBlock] at e
      subst e
      rw [hk] at hgh; cases hgh; exact ht rfl)
theorem KeepB.of_below {b : Nat} {w w' : World} (h : Below w.heap.size w w') : KeepB b w w' := fun k _ _ _ hk _ _ => h.block k (Array.getElem?_eq_some_iff.1 hk).1
theorem copyCheckK {T : TypeId} (hT : BdT T) (B b : Nat) (l : List UInt8) (w : World) (h : Bd T B b l w) :
    Calls Try.prog 136 #[.pointer (some ⟨b, 0, none⟩)] w fun e w' => e = .returned (.tuple #[]) ∧ Lib.BuilderAtF T 5 B b (.pointer (some ⟨b, 0, none⟩)) (Lib.byteCells l) w' ∧ Below B w w' ∧ KeepB b w w' := by
  rcases h with h | h
  · refine (copyCheck_fresh hT b w h.cell0 h.shape h.frozen0).mono ?_
    rintro e w' ⟨rfl, rfl⟩
    exact ⟨rfl, h.used _, (Below.refl B w).setCell (p := ⟨b, 0, none⟩) h.1 _, KeepB.setCell _ _ _ _⟩
  · refine (copyCheck_used b w h.cell0).mono ?_
    rintro e w' ⟨rfl, rfl⟩
    exact ⟨rfl, h, Below.refl B _, KeepB.refl _ _⟩

set_option maxHeartbeats 2000000 in
set_option maxRecDepth 100000 in
theorem bd_writeString {T : TypeId} (hT : BdT T) (B b : Nat) (l : List UInt8) (s : ByteArray) (w : World) (h : Bd T B b l w) (hlen : l.length + s.size ≤ 140737488355328) (hBw : B ≤ w.heap.size) :
    Calls Try.prog 137 #[.pointer (some ⟨b, 0, none⟩), .string s] w fun e w' => e = .returned (.tuple #[.int .i64 s.size, .nilIface]) ∧ Bd T B b (l ++ s.data.toList) w' ∧ Below B w w' ∧ KeepB b w w' := by
  have hinfo : (Try.prog.info? 5).map (fun i => (i.zero, i.size, i.bytes)) = some (some (.int .u8 0), 1, 1) := by kernel_rfl
  obtain ⟨i0, hi, hz0, hz1, hz2⟩ := info_parts hinfo
  have hcc := fun w' h' => copyCheckK hT B b l w' h'
  have Hh := Lib.hid h
  clear h hinfo
  go_enter Try.func137, Try.ntmps137
  go_wp2_with fail
  refine (hcc _ Hh.out).mono ?_
  rintro e w1 ⟨rfl, h1, hb1, hkp1⟩
  have hkp1 := Lib.hid hkp1
  obtain ⟨hB, v, hbk, hown, hne⟩ := h1
  rw [Lib.byteCells_length] at hown
  have c0 : w1.cell? ⟨b, 0, none⟩ = some (.pointer (some ⟨b, 0, none⟩)) := by rw [Lib.cell_of_heap hbk]; rfl
  have c1 : w1.cell? ⟨b, 1, none⟩ = some v := by rw [Lib.cell_of_heap hbk]; rfl
  have hBw1 := Nat.le_trans hBw hb1.size
  go_wp2_with (at_builtin; refine Lib.wpList_append_own_stringF _ rfl _ _ 41 9 rfl B 5 i0 Try.underlying41 Try.underlying9 hi hz0 hz1 hz2 v l.length (Lib.byteCells l) rfl hown s rfl (by unfold maxLen; omega) (by omega) hBw1 ?_)
  intro v' w2 hown' hgrow _
  have hlt : b < w1.heap.size := by
    rcases Nat.lt_or_ge b w1.heap.size with h' | h'
    · exact h'
    · simp [Array.getElem?_eq_none h'] at hbk
  have hb2 : w2.heap[b]? = some (.cells #[.pointer (some ⟨b, 0, none⟩), v] T (0, 0)) := by
    rw [hgrow.block b hlt (fun e => hne e.symm)]
    exact hbk
  have d0 : w2.cell? ⟨b, 0, none⟩ = some (.pointer (some ⟨b, 0, none⟩)) := by rw [Lib.cell_of_heap hb2]; rfl
  have d1 : w2.cell? ⟨b, 1, none⟩ = some v := by rw [Lib.cell_of_heap hb2]; rfl
  have f1 : w2.frozen? ⟨b, 1, none⟩ = false := Lib.frozen_of_heap hb2 1
  have hfin : Hid (Bd T B b (l ++ s.data.toList) (w2.setCell ⟨b, 1, none⟩ v')) := Lib.hid (.inr (by
    have e : Lib.byteCells (l ++ s.data.toList) = Lib.byteCells l ++ Lib.strCells s := by simp [Lib.byteCells, Lib.strCells]
    rw [e]
    refine Lib.BuilderAtF.put (T := T) (e := 5) hB hb2 (bs' := Lib.byteCells l ++ Lib.strCells s) ?_ hT.2
    rw [List.length_append, Lib.byteCells_length, Lib.strCells_length]
    exact hown'))
  have hBf : Below B w (w2.setCell ⟨b, 1, none⟩ v') := (hb1.grown hgrow hBw1 (fun k hk => (hown.lt k hk).1)).setCell (p := ⟨b, 1, none⟩) hB _
  have hcs : (∃ a n cap, v' = .slice a n cap) := by
    rcases hown'.2 with ⟨h0, _⟩ | ⟨g, cap, cur, fz, hv, _⟩
    · exact ⟨_, _, _, h0⟩
    · exact ⟨_, _, _, hv⟩
  have hkp2 := Lib.hid ((hkp1.out.trans (KeepB.grownF0 hown hgrow)).trans (KeepB.setCell b 1 w2 v'))
  clear hown hown' hgrow hb2 hbk hne c0 c1
  obtain ⟨va, vn, vc, rfl⟩ := hcs
  go_wp2
  go_ret2
  exact ⟨rfl, hfin.out, hBf, hkp2.out⟩
set_option maxHeartbeats 2000000 in
set_option maxRecDepth 100000 in
theorem bd_writeByteK {T : TypeId} (hT : BdT T) (B b : Nat) (l : List UInt8) (x : UInt8) (w : World) (h : Bd T B b l w) (hlen : l.length + 1 ≤ 140737488355328) (hBw : B ≤ w.heap.size) :
    Calls Try.prog 66 #[.pointer (some ⟨b, 0, none⟩), .int .u8 x.toNat] w fun e w' => e = .returned .nilIface ∧ Bd T B b (l ++ [x]) w' ∧ Below B w w' ∧ KeepB b w w' := by
  have hinfo : (Try.prog.info? 5).map (fun i => (i.zero, i.size, i.bytes)) = some (some (.int .u8 0), 1, 1) := by kernel_rfl
  obtain ⟨i0, hi, hz0, hz1, hz2⟩ := info_parts hinfo
  have hcc := fun w' h' => copyCheckK hT B b l w' h'
  go_enter Try.func66, Try.ntmps66
  go_wp2_with (go_at_call 136; refine (hcc _ h).mono ?_)
  rintro e w1 ⟨rfl, h1, hb1, hkp1⟩
  have hkp1 := Lib.hid hkp1
  obtain ⟨hB, v, hbk, hown, hne⟩ := h1
  rw [Lib.byteCells_length] at hown
  have Hown := Lib.hid hown
  have c0 : w1.cell? ⟨b, 0, none⟩ = some (.pointer (some ⟨b, 0, none⟩)) := by rw [Lib.cell_of_heap hbk]; rfl
  have c1 : w1.cell? ⟨b, 1, none⟩ = some v := by rw [Lib.cell_of_heap hbk]; rfl
  go_wp2_with (at_builtin; refine wpList_append_ownF _ rfl _ _ 41 rfl B 5 i0 (.int .u8 0) 1 1 Try.underlying41 hi hz0 hz1 hz2 rfl (by decide) _ _ _ rfl (hown.alloc _) ⟨w1.heap.size, 0, none⟩ 1 1 [.int .u8 x.toNat] rfl rfl ?c1 ?c2 ?c3 ?c4 ?c5 ?_)
  case c1 =>
    intro j u hj
    match j, hj with
    | 0, hj => simp at hj; subst hj; simp [Addr.add]
  case c2 => intro u hu; simp at hu; subst hu; rfl
  case c3 => unfold maxLen; omega
  case c4 => omega
  case c5 => have := hb1.size; simp; omega
  intro v' w2 hown' hgrow _
  have hlt : b < w1.heap.size := by
    rcases Nat.lt_or_ge b w1.heap.size with h' | h'
    · exact h'
    · simp [Array.getElem?_eq_none h'] at hbk
  have hb2 : w2.heap[b]? = some (.cells #[.pointer (some ⟨b, 0, none⟩), v] T (0, 0)) := by
    rw [hgrow.block b (by simp; omega) (fun e => hne e.symm), Lib.alloc_old w1 _ b hlt]
    exact hbk
  have d0 : w2.cell? ⟨b, 0, none⟩ = some (.pointer (some ⟨b, 0, none⟩)) := by rw [Lib.cell_of_heap hb2]; rfl
  have d1 : w2.cell? ⟨b, 1, none⟩ = some v := by rw [Lib.cell_of_heap hb2]; rfl
  have f1 : w2.frozen? ⟨b, 1, none⟩ = false := Lib.frozen_of_heap hb2 1
  obtain ⟨g, cap, rfl⟩ : ∃ g cap, v' = .slice (some ⟨g, 0, none⟩) (l.length + 1) cap := by
    rcases hown'.2 with ⟨_, h0⟩ | ⟨g, cap, cur, fz, hv, _⟩
    · omega
    · exact ⟨g, cap, hv⟩
  go_wp2
  go_ret
  refine ⟨rfl, .inr ?_, ?_, (hkp1.out.trans (KeepB.grownF Hown.out hgrow)).trans (KeepB.setCell _ _ _ _)⟩
  · have e : Lib.byteCells (l ++ [x]) = Lib.byteCells l ++ [.int .u8 x.toNat] := by simp [Lib.byteCells]
    rw [e]
    exact Lib.BuilderAtF.put (T := T) (e := 5) hB hb2 (bs' := Lib.byteCells l ++ [.int .u8 x.toNat]) (by simpa [Lib.byteCells_length] using hown') hT.2
  · exact ((hb1.alloc (by have := hb1.size; omega) _).grown hgrow (by have := hb1.size; simp; omega) (fun k hk => (hown.lt k hk).1)).setCell (p := ⟨b, 1, none⟩) hB _
set_option maxRecDepth 100000 in
set_option maxHeartbeats 4000000 in
theorem impl_numberK (b : Nat) (l : List UInt8) (lo : Nat) (n : Int) (w : World) (hbd : Bd 105 lo b l w) (hl : l.length ≤ 70368744177664) (hlo : lo ≤ w.heap.size) (hn : Fit n) :
    Calls Try.prog 67 #[.pointer (some ⟨b, 0, none⟩), .int .i64 n] w fun e w' => e = .returned (.tuple #[]) ∧ Bd 105 lo b (l ++ putB (sgn n)) w' ∧ Below lo w w' ∧ KeepB b w w' := by
  have hsl := sgn_lt hn
  have hpl := putB_sgn hn
  have hc := sgn_cases n
  generalize sgn n = x0 at *
  have Hbd := Lib.hid hbd
  clear hbd
  obtain ⟨hf1, hf2⟩ := hn
  have hE : n < 0 → wrap64 (wrap64 (-2 * n) - 1) = -2 * n - 1 := fun h => sgn_wrap h hf1
  have HE := Lib.hid hE
  clear hE
  rcases hc with ⟨hc, hx⟩ | ⟨hc, hx⟩
  all_goals
    have Hx := Lib.hid hx
    clear hx
    go_enter Try.func67, Try.ntmps67
    go_wp2
    go_loopw [4] (fun i wr => ∃ (x : Nat) (acc : List UInt8), i = .int .i64 x ∧ x < 9223372036854775808 ∧ Hid (Bd 105 lo b acc wr) ∧ Hid (acc ++ putB x = l ++ putB x0) ∧ Below lo w wr ∧ Hid (KeepB b w wr)) (fun i _ => (intOf i).toNat)
    case atStart => exact ⟨x0, l, by first | (rw [Hx.out]; done) | exact congrArg (Value.int .i64) ((HE.out hc).trans Hx.out.symm), hsl, Hbd, Lib.hid rfl, Below.refl _ _, Lib.hid (KeepB.refl _ _)⟩
    case round =>
      obtain ⟨x, acc, rfl, hx, hown, hacc, hB, hkeep⟩ := hrel
      have hBs := Nat.le_trans hlo hB.size
      obtain ⟨f1, f2, f3, f4, f5⟩ := put_facts x hx
      have hal : acc.length ≤ 70368744177684 := by
        have := congrArg List.length hacc.out
        rw [List.length_append, List.length_append] at this
        omega
      by_cases hlt : x < 128
      · have f6 := f5 hlt
        have hfin := hacc.out
        rw [putB_lt hlt] at hfin
        have Hfin := Lib.hid hfin
        clear hfin f5 f1 f2 f3 f4
        generalize UInt8.ofNat x = y at *
        go_wp2_with fail
        refine (bd_writeByteK bdT_packer lo b acc y _ hown.out (by omega) hBs).mono ?_
        rintro e w3 ⟨rfl, hbd3, hb3, hk3'⟩
        have hK3 := Lib.hid (hkeep.out.trans hk3')
        clear hk3'
        have Hbd3 := Lib.hid hbd3
        clear hbd3
        have hB3 := hB.trans hb3
        go_wp2
        go_end0
        exact ⟨rfl, by rw [← Hfin.out]; exact Hbd3.out, hB3, hK3.out⟩
      · have hnext := hacc.out
        rw [putB_ge hlt] at hnext
        have Hnext := Lib.hid hnext
        clear hnext f5
        generalize UInt8.ofNat (128 + x % 128) = y at *
        have hd : x / 128 < x := by omega
        generalize x / 128 = x' at *
        generalize x % 128 = r at *
        go_wp2_with fail
        refine (bd_writeByteK bdT_packer lo b acc y _ hown.out (by omega) hBs).mono ?_
        rintro e w3 ⟨rfl, hbd3, hb3, hk3'⟩
        have hK3 := Lib.hid (hkeep.out.trans hk3')
        clear hk3'
        have Hbd3 := Lib.hid hbd3
        clear hbd3
        have hB3 := hB.trans hb3
        go_wp2
        go_roundw
        case rel => exact ⟨x', acc ++ [y], rfl, by omega, Hbd3, Lib.hid (by rw [← Hnext.out]; simp), hB3, hK3⟩
        case measure => simp [intOf]; omega
set_option maxRecDepth 100000 in
set_option maxHeartbeats 4000000 in
theorem impl_text (b : Nat) (l : List UInt8) (lo : Nat) (s : ByteArray) (w : World) (hbd : Bd 105 lo b l w) (hl : l.length ≤ 1000000000) (hlo : lo ≤ w.heap.size) (hs : s.size ≤ 1000000000) :
    Calls Try.prog 68 #[.pointer (some ⟨b, 0, none⟩), .string s] w fun e w' => e = .returned (.tuple #[]) ∧ Bd 105 lo b (l ++ textB s) w' ∧ Below lo w w' ∧ KeepB b w w' := by
  have hfit : Fit (s.size : Int) := by unfold Fit; omega
  have hput := Lib.hid (impl_numberK b l lo (s.size : Int) w hbd (by omega) hlo hfit)
  have hpl := putB_sgn hfit
  unfold textB putN
  clear hbd hfit
  generalize putB (sgn (s.size : Int)) = p at *
  go_enter Try.func68, Try.ntmps68
  go_wp2_with fail
  refine hput.out.mono ?_
  rintro e w1 ⟨rfl, hbd1, hb1, hk1⟩
  have hk1 := Lib.hid hk1
  have Hbd1 := Lib.hid hbd1
  have hlo1 := Nat.le_trans hlo hb1.size
  have hl1 : (l ++ p).length + s.size ≤ 140737488355328 := by rw [List.length_append]; omega
  clear hbd1
  go_wp2_with fail
  refine (bd_writeString bdT_packer lo b (l ++ p) s w1 Hbd1.out hl1 hlo1).mono ?_
  rintro e w2 ⟨rfl, hbd2, hb2, hk2⟩
  have hk2 := Lib.hid hk2
  have Hbd2 := Lib.hid hbd2
  clear hbd2
  go_wp2
  go_end0
  exact ⟨rfl, by rw [← List.append_assoc]; exact Hbd2.out, hb1.trans hb2, hk1.out.trans hk2.out⟩
set_option maxRecDepth 100000 in
set_option maxHeartbeats 4000000 in
theorem impl_point (b : Nat) (l : List UInt8) (lo : Nat) (x y : Int) (w : World) (hbd : Bd 105 lo b l w) (hl : l.length ≤ 1000000000) (hlo : lo ≤ w.heap.size) (hx : Fit x) (hy : Fit y) :
    Calls Try.prog 69 #[.pointer (some ⟨b, 0, none⟩), .agg #[.int .i64 x, .int .i64 y]] w fun e w' => e = .returned (.tuple #[]) ∧ Bd 105 lo b (l ++ ptB x y) w' ∧ Below lo w w' ∧ KeepB b w w' := by
  have hba : Below w.heap.size w (w.alloc (.cells #[.int .i64 x, .int .i64 y] 46)) := (Below.refl _ _).alloc (Nat.le_refl _) _
  have hp1 := Lib.hid (impl_numberK b l lo x (w.alloc (.cells #[.int .i64 x, .int .i64 y] 46)) (hbd.alloc _) (by omega) (Nat.le_trans hlo hba.size) hx)
  have hp2 := Lib.hid (fun w' h1 h2 => impl_numberK b (l ++ putB (sgn x)) lo y w' h1 (by have := putB_sgn hx; rw [List.length_append]; omega) h2 hy)
  have hbx := Lib.hid (blkK_new w (.cells #[.int .i64 x, .int .i64 y] 46))
  have hne : w.heap.size ≠ b := by have := hbd.lt; omega
  clear hbd
  unfold ptB putN
  generalize putB (sgn x) = p at *
  generalize putB (sgn y) = q at *
  go_enter Try.func69, Try.ntmps69
  go_wp2_with fail
  refine hp1.out.mono ?_
  rintro e w2 ⟨rfl, hbd2, hb2, hk2⟩
  have Hbd2 := Lib.hid hbd2
  have hx2 := Lib.hid ((hk2 _ _ _ _ hbx.out (by decide) hne).trans hbx.out)
  have f1 : w2.cell? ⟨w.heap.size, 1, none⟩ = some (.int .i64 y) := (Lib.cell_of_heap hx2.out 1).trans rfl
  have hlo2 := Nat.le_trans (Nat.le_trans hlo hba.size) hb2.size
  have hk2 := Lib.hid hk2
  clear hbd2
  go_wp2_with fail
  refine (hp2.out _ Hbd2.out hlo2).mono ?_
  rintro e w3 ⟨rfl, hbd3, hb3, hk3⟩
  have Hbd3 := Lib.hid hbd3
  have hk3 := Lib.hid hk3
  clear hbd3
  go_wp2
  go_end0
  exact ⟨rfl, by rw [← List.append_assoc]; exact Hbd3.out, ((hba.mono hlo).trans hb2).trans hb3, ((KeepB.of_below hba).trans hk2.out).trans hk3.out⟩
end Go.Proofs.Ytgbohbjpdmgneaa
