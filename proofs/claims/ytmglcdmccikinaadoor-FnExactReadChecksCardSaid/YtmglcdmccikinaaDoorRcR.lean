/- The text of checks read, the reference. -/
import Derived.Test.YtmglcdmccikinaaDoorRcS
namespace Go.Proofs.YtmglcdmccikinaaDoor
open Go.RowKit
theorem info_Chks : (Tryd.prog.info? 33).map (fun i => (i.zero.map (·.cells.size), i.size, i.bytes)) = some (some 4, 4, 40) := by kernel_rfl
theorem Chk.ones (x : Chk) : ∀ u ∈ x.cells, u.oneCell' = true := by intro u hu; simp [Chk.cells] at hu; rcases hu with rfl | rfl | rfl | rfl <;> rfl
def ListResB {α : Type} (c : α → List Value) (n : Nat) (w : World) (l : List α) (b : Bool) (e : Ending) (w' : World) : Prop :=
  ∃ v', e = .returned (.tuple #[v', .bool b]) ∧ Slw n c w.heap.size w'.heap.size w' v' l ∧ Below w.heap.size w w'
def RdRes (s : ByteArray) (w : World) (e : Ending) (w' : World) : Prop := ∃ l b, RcC s l b ∧ ListResB Chk.cells 4 w l b e w'
theorem rd_none {s : ByteArray} {w w' : World} (h : ∀ m, ¬ RcT s m) (hb : Below w.heap.size w w') : RdRes s w (.returned (.tuple #[.slice none 0 0, .bool false])) w' :=
  ⟨[], false, .inr ⟨rfl, rfl, h⟩, _, rfl, slw_nil, hb⟩
def everyW : ByteArray := ⟨#[101, 118, 101, 114, 121]⟩
def lastW : ByteArray := ⟨#[108, 97, 115, 116]⟩
/-- The words of a check's line, as the program sees them. -/
def wordsB (x : Chk) : List ByteArray := [decStr x.crane, x.name, (⟨#[101, 118, 101, 114, 121]⟩ : ByteArray), decStr x.every, (⟨#[108, 97, 115, 116]⟩ : ByteArray), decStr x.last]
theorem words_of {s : ByteArray} {x : Chk} (h : LineOf s.data.toList x) : splitF s 32 0 = wordsB x := by
  unfold splitF
  rw [List.drop_zero, h.1]
  rfl
theorem line_of {s a b d f : ByteArray} (h : splitF s 32 0 = [a, b, (⟨#[101, 118, 101, 114, 121]⟩ : ByteArray), d, (⟨#[108, 97, 115, 116]⟩ : ByteArray), f]) {n m k : Int} (ha : NumOf a n) (hd : NumOf d m) (hf : NumOf f k) : LineOf s.data.toList ⟨n, b, m, k⟩ := by
  have e : (splitF s 32 0).map (fun x => x.data.toList) = splitL 32 s.data.toList := by
    unfold splitF
    rw [List.map_map, List.drop_zero]
    have : ((fun x : ByteArray => x.data.toList) ∘ fun l : List UInt8 => (⟨l.toArray⟩ : ByteArray)) = id := rfl
    rw [this, List.map_id]
  refine ⟨?_, ?_, ?_, ?_⟩
  · rw [← e, h]
    rw [← ha.1, ← hd.1, ← hf.1]
    rfl
  · rw [ha.1]; exact ha
  · rw [hd.1]; exact hd
  · rw [hf.1]; exact hf
theorem six {α : Type} {l : List α} (h : l.length = 6) : ∃ a b c d e f, l = [a, b, c, d, e, f] := by
  match l, h with
  | [a, b, c, d, e, f], _ => exact ⟨a, b, c, d, e, f, rfl⟩
theorem numB_of {s : ByteArray} (h : numB s = true) : NumOf s (numV s) := by
  classical
  have he : ∃ n, NumOf s n := of_decide_eq_true h
  obtain ⟨n, hn⟩ := he
  rw [(num_t hn).2]
  exact hn
/-- Why a text that isn't read spells no checks. -/
theorem rct_line {s : ByteArray} {m : List Chk} (h : RcT s m) {k : Nat} (hk : k + 1 < (splitF s 10 0).length) : ∃ x, LineOf (splitF s 10 0)[k].data.toList x := by
  have e := rct_lines h
  have hl : (splitF s 10 0).length = m.length + 1 := by rw [e]; simp
  have hkm : k < m.length := by omega
  refine ⟨m[k], ?_⟩
  have e2 : (splitF s 10 0)[k] = (⟨(lineL m[k]).toArray⟩ : ByteArray) := by
    have e3 : (splitF s 10 0)[k]? = some (⟨(lineL m[k]).toArray⟩ : ByteArray) := by
      rw [e, List.getElem?_append_left (by simpa using hkm), List.getElem?_map, List.getElem?_eq_getElem hkm]
      rfl
    rw [List.getElem?_eq_getElem (by omega)] at e3
    exact Option.some.inj e3
  rw [e2]
  exact ok_line (chks_all h.1 _ (List.getElem_mem hkm))
theorem line_i64 {s : List UInt8} {x : Chk} (h : LineOf s x) : I64 x.crane ∧ I64 x.every ∧ I64 x.last := by
  obtain ⟨-, h1, h2, h3⟩ := h
  have := h1.bd
  have := h2.bd
  have := h3.bd
  exact ⟨⟨by omega, by omega⟩, ⟨by omega, by omega⟩, ⟨by omega, by omega⟩⟩
theorem piece_le {s : ByteArray} {c : UInt8} {f : Nat} {b : ByteArray} (h : b ∈ splitF s c f) : b.size ≤ s.size := by
  have key : ∀ (l : List UInt8), ∀ a ∈ splitL c l, a.length ≤ l.length := by
    intro l
    induction l with
    | nil => intro a ha; simp [splitL] at ha; subst ha; exact Nat.le_refl _
    | cons x r ih =>
      intro a ha
      unfold splitL at ha
      have hn := splitL_ne c r
      split at ha
      · rcases List.mem_cons.1 ha with rfl | ha
        · exact Nat.zero_le _
        · have := ih a ha; rw [List.length_cons]; omega
      · cases hs : splitL c r with
        | nil => exact absurd hs hn
        | cons y t =>
          rw [hs] at ha ih
          rcases List.mem_cons.1 ha with rfl | ha
          · have := ih y List.mem_cons_self
            simp; omega
          · have := ih a (List.mem_cons_of_mem _ ha); rw [List.length_cons]; omega
  unfold splitF at h
  obtain ⟨a, ha, rfl⟩ := List.mem_map.1 h
  have h1 := key _ a ha
  have h2 : s.data.toList.length = s.size := Array.length_toList
  rw [List.length_drop] at h1
  show a.toArray.size ≤ _
  rw [List.size_toArray]
  omega
theorem line_name {s : List UInt8} {x : Chk} (h : LineOf s x) : x.name.size ≤ s.length := by
  have e := h.line
  have h1 : x.name.data.toList.length = x.name.size := Array.length_toList
  rw [e]
  unfold lineL lineW
  simp only [joinL, List.length_append, List.length_cons]
  omega
theorem emp2_t {r : ByteArray} (h : r = ⟨#[]⟩) : r.toList.isEmpty = true := by rw [h]; simp
theorem emp2_f {r : ByteArray} (h : ¬ r = ⟨#[]⟩) : r.toList.isEmpty = false := by
  rw [← decide_eq_emptyBytes]
  apply decide_eq_false
  intro e
  exact h (e.trans rfl)
end Go.Proofs.YtmglcdmccikinaaDoor
