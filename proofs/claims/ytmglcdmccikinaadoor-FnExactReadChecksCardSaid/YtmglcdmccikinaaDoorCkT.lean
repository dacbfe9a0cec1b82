/- The text of checks, in both packages. -/
import Derived.Test.YtmglcdmccikinaaDoorChk
import Derived.Test.YtmglcdmccikinaaDoorDecI
import Derived.Test.YtmglcdmccikinaaDoorBldW
import Derived.Handy
namespace Go.Proofs.YtmglcdmccikinaaDoor
open Go.RowKit
theorem strCells_byte (s : ByteArray) : Lib.strCells s = s.data.toList.flatMap byteC := by
  unfold Lib.strCells
  generalize s.data.toList = l
  induction l with
  | nil => rfl
  | cons x r ih => rw [List.map_cons, ih]; rfl
theorem size_list (s : ByteArray) : s.data.toList.length = s.size := Array.length_toList
/-- A string appended to bytes of the call's own, within a region that draws its order. -/
theorem step_appS {w : World} {ops : Array Oper} {K : Act → World → Prop} {Q : Exit → Act → World → Prop} {E : Prop} {o : Oper} {a : Act} (hgd : o.guard = none) (sl x : Operand) (t u : TypeId)
    (ho : o.op = .call { callee := .builtin .append, args := #[sl, x], argTypes := #[t, u] }) (ht : Tryd.prog.underlying t = some (.slice 5)) (hu : Tryd.prog.underlying u = some .string)
    (lo : Nat) (l : List UInt8) (v : Value) (hs : a.eval sl = v) (hown : Bytes lo w v l) (s : ByteArray) (hx : a.eval x = .string s) (hb : l.length + s.size ≤ 140737488355328) (hlo : lo ≤ w.heap.size)
    (h : ∀ v' w', Bytes lo w' v' (l ++ s.data.toList) → w.grownBy w' v.ownBlock → K (a.put o.dst v') w') :
    if Region.wanted o (yielded ops a.tmps) = true then o.wp Tryd.prog a w K Q else E := by
  have hinfo : (Tryd.prog.info? 5).map (fun i => (i.zero, i.size, i.bytes)) = some (some (.int .u8 0), 1, 1) := by kernel_rfl
  obtain ⟨i, hi, hz, hsize, hby⟩ := info_parts hinfo
  rw [if_pos (by simp [Region.wanted, hgd])]
  obtain ⟨v', w', hr, h2, h3, h4⟩ := Lib.run_append_own_string (P := Tryd.prog) w lo t u o.type 5 i ht hu hi hz hsize hby v l.length (l.flatMap byteC) hown s (by unfold maxLen; omega) hb hlo
  unfold Oper.wp execOp
  simp only [ho, resolve, invoke, builtin, Sem.run_bind, Sem.run_pure, Result.andThen_ok, List.map_toArray, List.map_cons, List.map_nil, hs, hx, hr]
  refine h _ _ ?_ h3
  show w'.ownsRow lo _ 1 v' (l ++ s.data.toList).length ((l ++ s.data.toList).flatMap byteC)
  rw [List.length_append, size_list, List.flatMap_append, ← strCells_byte]
  exact h2
theorem cat_ok {A B C D : Nat} (hA : A ≤ 20) (hB : B ≤ 12) (hC : C ≤ 20) (hD : D ≤ 20) : ¬ 9223372036854775807 < A + 1 ∧ ¬ 9223372036854775807 < A + 1 + B ∧ ¬ 9223372036854775807 < A + 1 + B + 7 ∧ ¬ 9223372036854775807 < A + 1 + B + 7 + C ∧ ¬ 9223372036854775807 < A + 1 + B + 7 + C + 6 ∧ ¬ 9223372036854775807 < A + 1 + B + 7 + C + 6 + D ∧ ¬ 9223372036854775807 < A + 1 + B + 7 + C + 6 + D + 1 := by
  omega
def everyB : ByteArray := ⟨#[32, 101, 118, 101, 114, 121, 32]⟩
def lastB : ByteArray := ⟨#[32, 108, 97, 115, 116, 32]⟩
/-- The line of a check. -/
def chkLine (x : Chk) : ByteArray := decStr x.crane ++ (⟨#[32]⟩ : ByteArray) ++ x.name ++ (⟨#[32, 101, 118, 101, 114, 121, 32]⟩ : ByteArray) ++ decStr x.every ++ (⟨#[32, 108, 97, 115, 116, 32]⟩ : ByteArray) ++ decStr x.last ++ (⟨#[10]⟩ : ByteArray)
def chkText (l : List Chk) : List UInt8 := l.flatMap fun x => (chkLine x).data.toList
theorem chkText_take {l : List Chk} {k : Nat} (h : k < l.length) : chkText (l.take (k + 1)) = chkText (l.take k) ++ (chkLine l[k]).data.toList := by
  unfold chkText
  rw [List.take_succ_eq_append_getElem h, List.flatMap_append]
  simp
theorem chk_i64 {x : Chk} (h : x.ok) : I64 x.crane ∧ I64 x.every ∧ I64 x.last ∧ x.name.size ≤ 12 := by
  obtain ⟨h1, h2, h3, h4⟩ := h
  exact ⟨⟨by omega, by omega⟩, ⟨by omega, by omega⟩, ⟨by omega, by omega⟩, h2.2.1⟩
theorem chkLine_size {x : Chk} (h : x.ok) : (chkLine x).size ≤ 100 := by
  obtain ⟨h1, h2, h3, h4⟩ := chk_i64 h
  have a1 := decStr_size h1
  have a2 := decStr_size h2
  have a3 := decStr_size h3
  unfold chkLine
  simp only [ByteArray.size_append]
  have e1 : (⟨#[32]⟩ : ByteArray).size = 1 := rfl
  have e2 : (⟨#[32, 101, 118, 101, 114, 121, 32]⟩ : ByteArray).size = 7 := rfl
  have e3 : (⟨#[32, 108, 97, 115, 116, 32]⟩ : ByteArray).size = 6 := rfl
  have e4 : (⟨#[10]⟩ : ByteArray).size = 1 := rfl
  omega
theorem chkText_size {l : List Chk} (h : chksOk l) : ∀ k, (chkText (l.take k)).length ≤ k * 100
  | 0 => by simp [chkText]
  | k + 1 => by
    have ih := chkText_size h k
    by_cases hk : k < l.length
    · rw [chkText_take hk, List.length_append]
      have := chkLine_size (h.1 k hk).1
      have e : (chkLine l[k]).data.toList.length = (chkLine l[k]).size := Array.length_toList
      omega
    · have e : l.take (k + 1) = l.take k := by rw [List.take_of_length_le (by omega), List.take_of_length_le (by omega)]
      rw [e]; omega
def chkTextB (l : List Chk) : ByteArray := ⟨(chkText l).toArray⟩
noncomputable def chkTxt (l : List Chk) : ByteArray := if chksB l = true then chkTextB l else ⟨#[]⟩
end Go.Proofs.YtmglcdmccikinaaDoor
