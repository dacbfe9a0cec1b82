/- The log: what its functions answer, in plain Lean. -/
import Derived.Test.YtjjibdjliejcfaaGreatDoorLgR
import Derived.Test.YtjjibdjliejcfaaGreatDoorLgV
namespace Go.Proofs.YtjjibdjliejcfaaGreatDoor
open Go.RowKit
/-- Signers and a text, and what has been read of it. -/
def OpenC (l : List Sgn) (s : ByteArray) (c : Int) (t : LgSt) : Prop := (¬ sgnsOk l ∧ c = 1) ∨ (sgnsOk l ∧ 4000 < s.size ∧ c = 5) ∨ (sgnsOk l ∧ s.size ≤ 4000 ∧ ReadsTo l s t ∧ c = 0)
def CodeC (l : List Sgn) (s : ByteArray) (c : Int) (t : LgSt) : Prop := (OpenC l s c t ∧ ¬ c = 0) ∨ (OpenC l s 0 t ∧ t.pos = s.size ∧ c = 0) ∨ (OpenC l s 0 t ∧ ¬ t.pos = s.size ∧ c = 8)
theorem OpenC.uniq {l : List Sgn} {s : ByteArray} {c c2 : Int} {t t2 : LgSt} (h : OpenC l s c t) (h2 : OpenC l s c2 t2) : c = c2 ∧ (c = 0 → t = t2) := by
  rcases h with ⟨a, rfl⟩ | ⟨a, b, rfl⟩ | ⟨a, b, d, rfl⟩ <;> rcases h2 with ⟨a', rfl⟩ | ⟨a', b', rfl⟩ | ⟨a', b', d', rfl⟩ <;> first | exact absurd a a' | exact absurd a' a | omega | exact ⟨rfl, fun h => absurd h (by decide)⟩ | exact ⟨rfl, fun _ => ReadsTo.uniq (by assumption) (by assumption)⟩
theorem CodeC.uniq {l : List Sgn} {s : ByteArray} {c c2 : Int} {t t2 : LgSt} (h : CodeC l s c t) (h2 : CodeC l s c2 t2) : c = c2 ∧ (c = 0 → t = t2) := by
  rcases h with ⟨a, b⟩ | ⟨a, b, rfl⟩ | ⟨a, b, rfl⟩ <;> rcases h2 with ⟨a', b'⟩ | ⟨a', b', rfl⟩ | ⟨a', b', rfl⟩
  · exact ⟨(a.uniq a').1, fun h => absurd h b⟩
  · exact absurd (a.uniq a').1 b
  · exact absurd (a.uniq a').1 b
  · exact absurd (a'.uniq a).1 b'
  · exact ⟨rfl, fun _ => (a.uniq a').2 rfl⟩
  · obtain rfl := (a.uniq a').2 rfl
    exact absurd b b'
  · exact absurd (a'.uniq a).1 b'
  · obtain rfl := (a.uniq a').2 rfl
    exact absurd b' b
  · exact ⟨rfl, fun h => absurd h (by decide)⟩
theorem sgnsOk_keys {l : List Sgn} (h : sgnsOk l) : ∀ y ∈ l, 1 ≤ y.key ∧ y.key ≤ 65520 := by
  intro y hy
  obtain ⟨i, hi, rfl⟩ := List.getElem_of_mem hy
  exact (h.1 i hi).1.2
/-- What checking answers. -/
def ChkC (l : List Sgn) (s : ByteArray) (a b : Int) : Prop := ∃ c t, OpenC l s c t ∧ ((¬ c = 0 ∧ a = 0 ∧ b = c) ∨ (c = 0 ∧ a = (t.pos : Int) ∧ t.pos ≤ s.size ∧ b = 0))
theorem ChkC.uniq {l : List Sgn} {s : ByteArray} {a b a2 b2 : Int} (h : ChkC l s a b) (h2 : ChkC l s a2 b2) : a = a2 ∧ b = b2 := by
  obtain ⟨c, t, h, hh⟩ := h
  obtain ⟨c2, t2, h2, hh2⟩ := h2
  obtain ⟨rfl, ht⟩ := h.uniq h2
  rcases hh with ⟨n, rfl, rfl⟩ | ⟨rfl, rfl, -, rfl⟩ <;> rcases hh2 with ⟨n', rfl, rfl⟩ | ⟨n', rfl, -, rfl⟩
  · exact ⟨rfl, rfl⟩
  · exact absurd n' n
  · exact absurd rfl n'
  · rw [ht rfl]; exact ⟨rfl, rfl⟩
/-- What recovering answers. -/
def RecC (l : List Sgn) (s r : ByteArray) (a b : Int) : Prop := ∃ c t, OpenC l s c t ∧ ((¬ c = 0 ∧ r = ⟨#[]⟩ ∧ a = 0 ∧ b = c) ∨ (c = 0 ∧ r = s.extract 0 t.pos ∧ a = (s.size : Int) - (t.pos : Int) ∧ b = 0))
theorem RecC.uniq {l : List Sgn} {s r r2 : ByteArray} {a b a2 b2 : Int} (h : RecC l s r a b) (h2 : RecC l s r2 a2 b2) : r = r2 ∧ a = a2 ∧ b = b2 := by
  obtain ⟨c, t, h, hh⟩ := h
  obtain ⟨c2, t2, h2, hh2⟩ := h2
  obtain ⟨rfl, ht⟩ := h.uniq h2
  rcases hh with ⟨n, rfl, rfl, rfl⟩ | ⟨rfl, rfl, rfl, rfl⟩ <;> rcases hh2 with ⟨n', rfl, rfl, rfl⟩ | ⟨n', rfl, rfl, rfl⟩
  · exact ⟨rfl, rfl, rfl⟩
  · exact absurd n' n
  · exact absurd rfl n'
  · rw [ht rfl]; exact ⟨rfl, rfl, rfl⟩
end Go.Proofs.YtjjibdjliejcfaaGreatDoor
