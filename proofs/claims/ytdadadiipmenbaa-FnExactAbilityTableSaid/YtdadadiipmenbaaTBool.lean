/- []bool and [][]bool: the laws' helpers. -/
import Derived.Test.YtdadadiipmenbaaChecked
import Derived.Test.YtdadadiipmenbaaSS
import Derived.Test.YtdadadiipmenbaaLawS
import Derived.Test.YtdadadiipmenbaaMark
namespace Go.Proofs.Ytdadadiipmenbaa
open Go.RowKit

def boolCells (x : Bool) : List Value := [.bool x]
theorem boolCells_len (x : Bool) : (boolCells x).length = 1 := rfl
theorem boolCells_one (x : Bool) : ∀ u ∈ boolCells x, u.oneCell' = true := by intro u hu; simp [boolCells] at hu; subst hu; rfl
abbrev Bools (lo hi : Nat) (w : World) (v : Value) (l : List Bool) : Prop := Sl 1 boolCells lo hi w v l
theorem Bools.at {w : World} {b off : Nat} {l : List Bool} (hc : ∀ i (h : i < l.length) j u, (boolCells l[i])[j]? = some u → w.cell? ⟨b, off + i * 1 + j, none⟩ = some u) {k : Nat} (hk : k < l.length) : w.cell? ⟨b, off + k, none⟩ = some (.bool l[k]) := by
  simpa using hc k hk 0 (.bool l[k]) rfl

set_option maxHeartbeats 1000000 in
theorem law_eqBoolS (v v2 : Value) (l : List Bool) (lo hi lo2 hi2 : Nat) (w : World) (h : Bools lo hi w v l) (h2 : Bools lo2 hi2 w v2 l) :
    Calls Try.prog 46 #[v, v2] w fun e w' => e = .returned (.bool true) ∧ Below w.heap.size w w' := by
  have hsl := h
  have hsl2 := h2
  obtain ⟨a, cap, rfl, hlen, hh⟩ := h
  obtain ⟨a2, cap2, rfl, _, hh2⟩ := h2
  clear hh hh2
  go_enter Try.func46, Try.ntmps46
  go_wp2
  go_loopw [5] (fun i wr => ∃ k : Nat, k ≤ l.length ∧ i = .int .i64 k ∧ Below w.heap.size w wr) (fun i _ => l.length - (intOf i).toNat)
  case atStart => exact ⟨0, Nat.zero_le _, rfl, Below.refl _ _⟩
  case round =>
    obtain ⟨k, hk, rfl, hB⟩ := hrel
    by_cases hlt : k < l.length
    · obtain ⟨b, off, rfl⟩ := hsl.addr (by omega)
      obtain ⟨b2, off2, rfl⟩ := hsl2.addr (by omega)
      have c0 := Bools.at (hsl.ext hB).get hlt
      have d0 := Bools.at (hsl2.ext hB).get hlt
      clear hsl hsl2
      generalize l[k] = x at *
      go_wp2_with (go_quiet (fail))
      go_roundw
      case rel => exact ⟨k + 1, by omega, by go_num, below_dN hB _⟩
      case measure => simp [intOf]; omega
    · go_wp2
      go_ret
      exact ⟨rfl, hB⟩
theorem SSr.at {α : Type} {n : Nat} {c : α → List Value} {lo hi b off len cap : Nat} {w : World} {rows : List SV} {L : List (List α)} (h : SSr n c lo hi w (.slice (some ⟨b, off, none⟩) len cap) rows L) {k : Nat} (hk : k < rows.length) : w.cell? ⟨b, off + k, none⟩ = some rows[k].v := by
  simpa using h.out.get k hk 0 rows[k].v rfl

set_option maxHeartbeats 2000000 in
theorem law_eqBoolSS (v v2 : Value) (rows rows2 : List SV) (L : List (List Bool)) (lo hi lo2 hi2 : Nat) (w : World) (h : SSr 1 boolCells lo hi w v rows L) (h2 : SSr 1 boolCells lo2 hi2 w v2 rows2 L) :
    Calls Try.prog 21 #[v, v2] w fun e w' => e = .returned (.bool true) ∧ Below w.heap.size w w' := by
  have hl1 := h.len
  have hl2 := h2.len
  have hcap : rows.length ≤ 9223372036854775807 := by obtain ⟨a, cap, _, hc, _⟩ := h.out; omega
  have hrow := Lib.hid (fun (k : Nat) (hk : k < L.length) (h1 : k < rows.length) (h2' : k < rows2.length) w' (hb : Below w.heap.size w w') => law_eqBoolS rows[k].v rows2[k].v L[k] lo hi lo2 hi2 w' ((h.ext hb).row k _ _ (List.getElem?_eq_getElem h1) (List.getElem?_eq_getElem hk)) ((h2.ext hb).row k _ _ (List.getElem?_eq_getElem h2') (List.getElem?_eq_getElem hk)))
  have hs := h
  have hs2 := h2
  obtain ⟨⟨a, cap, rfl, _⟩, _, _⟩ := h
  obtain ⟨⟨a2, cap2, rfl, _⟩, _, _⟩ := h2
  have Hs := Lib.hid hs
  have Hs2 := Lib.hid hs2
  clear hs hs2
  rw [hl2, hl1]
  rw [hl1] at hcap
  have Hl1 := Lib.hid hl1
  have Hl2 := Lib.hid hl2
  clear hl1 hl2
  go_enter Try.func21, Try.ntmps21
  go_wp2
  go_loopw [5] (fun i wr => ∃ k : Nat, k ≤ L.length ∧ i = .int .i64 k ∧ Below w.heap.size w wr) (fun i _ => L.length - (intOf i).toNat)
  case atStart => exact ⟨0, Nat.zero_le _, rfl, Below.refl _ _⟩
  case round =>
    obtain ⟨k, hk, rfl, hB⟩ := hrel
    by_cases hlt : k < L.length
    · have hk1 : k < rows.length := by rw [Hl1.out]; exact hlt
      have hk2 : k < rows2.length := by rw [Hl2.out]; exact hlt
      have hs := Hs.out
      have hs2 := Hs2.out
      have hcall := Lib.hid (hrow.out k hlt hk1 hk2)
      obtain ⟨b, off, rfl⟩ := hs.out.addr (by omega)
      obtain ⟨b2, off2, rfl⟩ := hs2.out.addr (by omega)
      have c0 := (hs.ext hB).at hk1
      have d0 := (hs2.ext hB).at hk2
      have hbw := World.block_lt_of_cell? wr _ c0
      have hbw2 := World.block_lt_of_cell? wr _ d0
      clear hs hs2
      generalize rows[k].v = r at *
      generalize rows2[k].v = r2 at *
      go_wp2_with fail
      go_region_held3 (fun w' => (∀ b' o', b' < wr.heap.size → w'.cell? ⟨b', o', none⟩ = wr.cell? ⟨b', o', none⟩) ∧ Below wr.heap.size wr w') (first | exact heldB (Below.refl _ _).drew | exact heldB hBc)
        (first | (go_at_call 46; refine (hcall.out _ hB.drew).mono ?_; rintro e w3 ⟨rfl, hB3⟩; have hBc : Below wr.heap.size wr w3 := (Below.refl _ wr).drew.trans hB3))
      go_wp2
      go_roundw
      case rel => exact ⟨k + 1, by omega, by go_num, hB.trans (hBc.mono hB.size)⟩
      case measure => simp [intOf]; omega
    · go_wp2
      go_ret
      exact ⟨rfl, hB⟩


end Go.Proofs.Ytdadadiipmenbaa
