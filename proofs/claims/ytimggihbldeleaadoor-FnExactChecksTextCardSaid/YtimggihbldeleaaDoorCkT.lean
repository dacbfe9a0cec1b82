/- The text of checks, in both packages. -/
import Derived.Test.YtimggihbldeleaaDoorChk
import Derived.Test.YtimggihbldeleaaDoorDecI
import Derived.Test.YtimggihbldeleaaDoorBldW
import Derived.Handy
namespace Go.Proofs.YtimggihbldeleaaDoor
open Go.RowKit
theorem strCells_byte (s : ByteArray) : Lib.strCells s = s.data.toList.flatMap byteC := by
  unfold Lib.strCells
  generalize s.data.toList = l
  induction l with
  | nil => rfl
  | cons x r ih => rw [List.map_cons, ih]; rfl
theorem size_list (s : ByteArray) : s.data.toList.length = s.size := Array.length_toList
/-- A string appended to bytes of the call's own, within a region that draws its order. -/
theorem step_appS {w : World} {ops : Array Oper} {K : Act → World → Prop} {Q : Exit → Act → World → Prop} {E : Prop} {o : Oper} {a : Act} (hgd : o.guard = none) (sl x : Operand) (t u : TypeId)
    (ho : o.op = .call { callee := .builtin .append, args := #[sl, x], argTypes := #[t, u] }) (ht : Tryd.prog.underlying t = some (.slice 5)) (hu : Tryd.prog.underlying u = some .string)
    (lo : Nat) (l : List UInt8) (v : Value) (hs : a.eval sl = v) (hown : Bytes lo w v l) (s : ByteArray) (hx : a.eval x = .string s) (hb : l.length + s.size ≤ 140737488355328) (hlo : lo ≤ w.heap.size)
    (h : ∀ v' w', Bytes lo w' v' (l ++ s.data.toList) → w.grownBy w' v.ownBlock → K (a.put o.dst v') w') :
    if Region.wanted o (yielded ops a.tmps) = true then o.wp Tryd.prog a w K Q else E := by
  have hinfo : (Tryd.prog.info? 5).map (fun i => (i.zero, i.size, i.bytes)) = some (some (.int .u8 0), 1, 1) := by kernel_rfl
  obtain ⟨i, hi, hz, hsize, hby⟩ := info_parts hinfo
  rw [if_pos (by simp [Region.wanted, hgd])]
  obtain ⟨v', w', hr, h2, h3, h4⟩ := Lib.run_append_own_string (P := Tryd.prog) w lo t u o.type 5 i ht hu hi hz hsize hby v l.length (l.flatMap byteC) hown s (by unfold maxLen; omega) hb hlo
  unfold Oper.wp execOp
  simp only [ho, resolve, invoke, builtin, Sem.run_bind, Sem.run_pure, Result.andThen_ok, List.map_toArray, List.map_cons, List.map_nil, hs, hx, hr]
  refine h _ _ ?_ h3
  show w'.ownsRow lo _ 1 v' (l ++ s.data.toList).length ((l ++ s.data.toList).flatMap byteC)
  rw [List.length_append, size_list, List.flatMap_append, ← strCells_byte]
  exact h2
theorem cat_ok {A B C D : Nat} (hA : A ≤ 20) (hB : B ≤ 12) (hC : C ≤ 20) (hD : D ≤ 20) : ¬ 9223372036854775807 < A + 1 ∧ ¬ 9223372036854775807 < A + 1 + B ∧ ¬ 9223372036854775807 < A + 1 + B + 7 ∧ ¬ 9223372036854775807 < A + 1 + B + 7 + C ∧ ¬ 9223372036854775807 < A + 1 + B + 7 + C + 6 ∧ ¬ 9223372036854775807 < A + 1 + B + 7 + C + 6 + D ∧ ¬ 9223372036854775807 < A + 1 + B + 7 + C + 6 + D + 1 := by
  omega
def everyB : ByteArray := ⟨#[32, 101, 118, 101, 114, 121, 32]⟩
def lastB : ByteArray := ⟨#[32, 108, 97, 115, 116, 32]⟩
/-- The line of a check. -/
def chkLine (x : Chk) : ByteArray := decStr x.crane ++ (⟨#[32]⟩ : ByteArray) ++ x.name ++ (⟨#[32, 101, 118, 101, 114, 121, 32]⟩ : ByteArray) ++ decStr x.every ++ (⟨#[32, 108, 97, 115, 116, 32]⟩ : ByteArray) ++ decStr x.last ++ (⟨#[10]⟩ : ByteArray)
def chkText (l : List Chk) : List UInt8 := l.flatMap fun x => (chkLine x).data.toList
theorem chkText_take {l : List Chk} {k : Nat} (h : k < l.length) : chkText (l.take (k + 1)) = chkText (l.take k) ++ (chkLine l[k]).data.toList := by
  unfold chkText
  rw [List.take_succ_eq_append_getElem h, List.flatMap_append]
  simp
theorem chk_i64 {x : Chk} (h : x.ok) : I64 x.crane ∧ I64 x.every ∧ I64 x.last ∧ x.name.size ≤ 12 := by
  obtain ⟨h1, h2, h3, h4⟩ := h
  exact ⟨⟨by omega, by omega⟩, ⟨by omega, by omega⟩, ⟨by omega, by omega⟩, h2.2.1⟩
theorem chkLine_size {x : Chk} (h : x.ok) : (chkLine x).size ≤ 100 := by
  obtain ⟨h1, h2, h3, h4⟩ := chk_i64 h
  have a1 := decStr_size h1
  have a2 := decStr_size h2
  have a3 := decStr_size h3
  unfold chkLine
  simp only [ByteArray.size_append]
  have e1 : (⟨#[32]⟩ : ByteArray).size = 1 := rfl
  have e2 : (⟨#[32, 101, 118, 101, 114, 121, 32]⟩ : ByteArray).size = 7 := rfl
  have e3 : (⟨#[32, 108, 97, 115, 116, 32]⟩ : ByteArray).size = 6 := rfl
  have e4 : (⟨#[10]⟩ : ByteArray).size = 1 := rfl
  omega
theorem chkText_size {l : List Chk} (h : chksOk l) : ∀ k, (chkText (l.take k)).length ≤ k * 100
  | 0 => by simp [chkText]
  | k + 1 => by
    have ih := chkText_size h k
    by_cases hk : k < l.length
    · rw [chkText_take hk, List.length_append]
      have := chkLine_size (h.1 k hk).1
      have e : (chkLine l[k]).data.toList.length = (chkLine l[k]).size := Array.length_toList
      omega
    · have e : l.take (k + 1) = l.take k := by rw [List.take_of_length_le (by omega), List.take_of_length_le (by omega)]
      rw [e]; omega
set_option maxRecDepth 100000 in
set_option maxHeartbeats 8000000 in
theorem spec_ChkText (v : Value) (l : List Chk) (lo hi : Nat) (w : World) (h : Chks lo hi w v l) (hok : chksOk l) :
    Calls Tryd.prog 31 #[v] w fun e w' => e = .returned (.string ⟨(chkText l).toArray⟩) ∧ Below w.heap.size w w' := by
  obtain ⟨i0, hi0, hzz⟩ := Option.map_eq_some_iff.1 info_uint8
  have hsl := h
  obtain ⟨a, cap, rfl, hlen, hh⟩ := h
  clear hh
  have Hok := Lib.hid hok
  have hl30 := hok.2
  clear hok
  go_enter Tryd.func31, Tryd.ntmps31
  go_wp2
  go_loopw [3, 4] (fun o i wr => ∃ (k : Nat) (ov : Value), o = ov ∧ k ≤ l.length ∧ i = .int .i64 k ∧ Below w.heap.size w wr ∧ Hid (Bytes w.heap.size wr ov (chkText (l.take k)))) (fun _ i _ => l.length - (intOf i).toNat)
  case atStart => exact ⟨0, _, rfl, Nat.zero_le _, rfl, (Below.refl _ _).alloc (Nat.le_refl _) _, Lib.hid (by simpa [chkText] using own_empty w _ _ (Nat.le_refl _))⟩
  case round =>
    obtain ⟨k, ov, hov, hk, rfl, hB, hown⟩ := hrel
    have hov := hov.symm
    subst hov
    have hBs := hB.size
    by_cases hlt : k < l.length
    · obtain ⟨b, off, rfl⟩ := hsl.addr (by omega)
      obtain ⟨c0, c1, c2, c3⟩ := Chks.at (hsl.ext hB).get hlt
      have hbw := World.block_lt_of_cell? w _ ((hsl.get k hlt) 0 _ rfl)
      obtain ⟨g1, g2, g3, g4⟩ := chk_i64 (Hok.out.1 k hlt).1
      have Hst := Lib.hid (chkText_take hlt)
      have hsz := chkLine_size (Hok.out.1 k hlt).1
      have htx := chkText_size Hok.out k
      clear hsl
      have hD1 := Lib.hid (fun w' => spec_Dec l[k].crane w' g1)
      have hD2 := Lib.hid (fun w' => spec_Dec l[k].every w' g2)
      have hD3 := Lib.hid (fun w' => spec_Dec l[k].last w' g3)
      obtain ⟨k1, k2, k3, k4, k5, k6, k7⟩ := cat_ok (decStr_size g1) g4 (decStr_size g2) (decStr_size g3)
      clear g1 g2 g3 g4
      unfold chkLine at Hst hsz
      generalize l[k] = x at *
      obtain ⟨x0, x1, x2, x3⟩ := x
      dsimp only at *
      generalize chkText (l.take k) = t at *
      obtain ⟨oa, ol, oc, rfl⟩ : ∃ a n c, ov = .slice a n c := by obtain ⟨a, c, h⟩ := (hown.out.slw byteC_len).1; exact ⟨_, _, _, h.1⟩
      go_wp2_with fail
      go_region_held3 (fun w' => (∀ b' o', b' < w.heap.size → w'.cell? ⟨b', o', none⟩ = wr.cell? ⟨b', o', none⟩) ∧ Below w.heap.size wr w') (first | exact heldB (Below.refl _ _).drew | exact heldB b4 | exact heldB (b3.mono hBs) | exact heldB (b2.mono hBs) | exact heldB (b1.mono hBs))
        (first
          | (go_at_call_of 62 (Value.int IntKind.i64 x0); refine (hD1.out _).mono ?_; rintro e a1 ⟨rfl, hb1'⟩; have b1 : Below wr.heap.size wr a1 := (Below.refl wr.heap.size wr).drew.trans hb1')
          | (go_at_call_of 62 (Value.int IntKind.i64 x2); refine (hD2.out _).mono ?_; rintro e a2 ⟨rfl, hb2'⟩; have b2 : Below wr.heap.size wr a2 := Below.trans b1 (hb2'.mono b1.size))
          | (go_at_call_of 62 (Value.int IntKind.i64 x3); refine (hD3.out _).mono ?_; rintro e a3 ⟨rfl, hb3'⟩; have b3 : Below wr.heap.size wr a3 := Below.trans b2 (hb3'.mono b2.size))
          | (refine step_appS rfl _ _ 58 9 rfl Tryd.underlying58 Tryd.underlying9 w.heap.size t _ rfl (hown.out.below b3) _ rfl (by omega) (Nat.le_trans hBs b3.size) ?_; intro v' w4 hrow4 hg4; have b4 : Below w.heap.size wr w4 := (hown.out.below b3).grows (b3.mono hBs) (Nat.le_refl _) (Nat.le_trans hBs b3.size) hg4))
      have Hrow := Lib.hid hrow4
      have HB4 := Lib.hid (hB.trans b4)
      clear hrow4 hg4 b1 b2 b3 b4 hb1' hb2' hb3' hown k1 k2 k3 k4 k5 k6 k7 hsz htx hD1 hD2 hD3
      go_wp2
      go_roundw
      case rel => exact ⟨k + 1, _, rfl, by omega, by go_num, HB4.out, Lib.hid (by rw [Hst.out]; exact Hrow.out)⟩
      case measure => simp [intOf]; omega
    · have : k = l.length := by omega
      subst this
      rw [List.take_length] at hown
      have hcv := bytes_str hown.out
      go_wp2
      go_ret
      exact ⟨rfl, hB⟩
def chkTextB (l : List Chk) : ByteArray := ⟨(chkText l).toArray⟩
noncomputable def chkTxt (l : List Chk) : ByteArray := if chksB l = true then chkTextB l else ⟨#[]⟩
set_option maxRecDepth 100000 in
set_option maxHeartbeats 4000000 in
theorem spec_ChecksText (v : Value) (l : List Chk) (lo hi : Nat) (w : World) (h : Chks lo hi w v l) (hwf : ∀ x ∈ l, x.wf) :
    Calls Tryd.prog 9 #[v] w fun e w' => e = .returned (.string (chkTxt l)) ∧ Below w.heap.size w w' := by
  unfold chkTxt
  have hV := spec_l26Ok v l lo hi w h hwf
  have hT := fun (hok : chksOk l) w' (hb : Below w.heap.size w w') => spec_ChkText v l lo hi w' (h.ext hb) hok
  obtain ⟨a, cap, rfl, hlen, hh⟩ := h
  clear hh hwf
  cases hq : chksB l
  · rw [hq] at hV
    have hV := Lib.hid hV
    clear hT hq
    go_enter Tryd.func9, Tryd.ntmps9
    go_wp2_with fail
    refine hV.out.mono ?_
    rintro e w1 ⟨rfl, hb1⟩
    go_wp2
    go_ret
    exact ⟨rfl, hb1⟩
  · have hT := Lib.hid (hT (chksB_iff.1 hq))
    rw [hq] at hV
    have hV := Lib.hid hV
    clear hq
    go_enter Tryd.func9, Tryd.ntmps9
    go_wp2_with fail
    refine hV.out.mono ?_
    rintro e w1 ⟨rfl, hb1⟩
    go_wp2_with (go_at_call 31; refine (hT.out _ hb1).mono ?_; rintro e w2 ⟨rfl, hb2⟩)
    go_ret
    exact ⟨rfl, hb1.trans (hb2.mono hb1.size)⟩
end Go.Proofs.YtimggihbldeleaaDoor
