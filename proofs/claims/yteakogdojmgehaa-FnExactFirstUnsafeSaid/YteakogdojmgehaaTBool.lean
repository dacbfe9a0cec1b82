/- []bool and [][]bool: the laws' helpers. -/
import Derived.Test.YteakogdojmgehaaChecked
import Derived.Test.YteakogdojmgehaaSS
import Derived.Test.YteakogdojmgehaaLawS
import Derived.Test.YteakogdojmgehaaMark
namespace Go.Proofs.Yteakogdojmgehaa
open Go.RowKit

def boolCells (x : Bool) : List Value := [.bool x]
theorem boolCells_len (x : Bool) : (boolCells x).length = 1 := rfl
theorem boolCells_one (x : Bool) : ∀ u ∈ boolCells x, u.oneCell' = true := by intro u hu; simp [boolCells] at hu; subst hu; rfl
abbrev Bools (lo hi : Nat) (w : World) (v : Value) (l : List Bool) : Prop := Sl 1 boolCells lo hi w v l
theorem Bools.at {w : World} {b off : Nat} {l : List Bool} (hc : ∀ i (h : i < l.length) j u, (boolCells l[i])[j]? = some u → w.cell? ⟨b, off + i * 1 + j, none⟩ = some u) {k : Nat} (hk : k < l.length) : w.cell? ⟨b, off + k, none⟩ = some (.bool l[k]) := by
  simpa using hc k hk 0 (.bool l[k]) rfl

set_option maxHeartbeats 1000000 in
theorem law_eqBoolS (v v2 : Value) (l : List Bool) (lo hi lo2 hi2 : Nat) (w : World) (h : Bools lo hi w v l) (h2 : Bools lo2 hi2 w v2 l) :
    Calls Try.prog 82 #[v, v2] w fun e w' => e = .returned (.bool true) ∧ Below w.heap.size w w' := by
  have hsl := h
  have hsl2 := h2
  obtain ⟨a, cap, rfl, hlen, hh⟩ := h
  obtain ⟨a2, cap2, rfl, _, hh2⟩ := h2
  clear hh hh2
  go_enter Try.func82, Try.ntmps82
  go_wp2
  go_loopw [5] (fun i wr => ∃ k : Nat, k ≤ l.length ∧ i = .int .i64 k ∧ Below w.heap.size w wr) (fun i _ => l.length - (intOf i).toNat)
  case atStart => exact ⟨0, Nat.zero_le _, rfl, Below.refl _ _⟩
  case round =>
    obtain ⟨k, hk, rfl, hB⟩ := hrel
    by_cases hlt : k < l.length
    · obtain ⟨b, off, rfl⟩ := hsl.addr (by omega)
      obtain ⟨b2, off2, rfl⟩ := hsl2.addr (by omega)
      have c0 := Bools.at (hsl.ext hB).get hlt
      have d0 := Bools.at (hsl2.ext hB).get hlt
      clear hsl hsl2
      generalize l[k] = x at *
      go_wp2_with (go_quiet (fail))
      go_roundw
      case rel => exact ⟨k + 1, by omega, by go_num, below_dN hB _⟩
      case measure => simp [intOf]; omega
    · go_wp2
      go_ret
      exact ⟨rfl, hB⟩
theorem SSr.at {α : Type} {n : Nat} {c : α → List Value} {lo hi b off len cap : Nat} {w : World} {rows : List SV} {L : List (List α)} (h : SSr n c lo hi w (.slice (some ⟨b, off, none⟩) len cap) rows L) {k : Nat} (hk : k < rows.length) : w.cell? ⟨b, off + k, none⟩ = some rows[k].v := by
  simpa using h.out.get k hk 0 rows[k].v rfl

set_option maxHeartbeats 2000000 in
theorem law_eqBoolSS (v v2 : Value) (rows rows2 : List SV) (L : List (List Bool)) (lo hi lo2 hi2 : Nat) (w : World) (h : SSr 1 boolCells lo hi w v rows L) (h2 : SSr 1 boolCells lo2 hi2 w v2 rows2 L) :
    Calls Try.prog 29 #[v, v2] w fun e w' => e = .returned (.bool true) ∧ Below w.heap.size w w' := by
  have hl1 := h.len
  have hl2 := h2.len
  have hcap : rows.length ≤ 9223372036854775807 := by obtain ⟨a, cap, _, hc, _⟩ := h.out; omega
  have hrow := Lib.hid (fun (k : Nat) (hk : k < L.length) (h1 : k < rows.length) (h2' : k < rows2.length) w' (hb : Below w.heap.size w w') => law_eqBoolS rows[k].v rows2[k].v L[k] lo hi lo2 hi2 w' ((h.ext hb).row k _ _ (List.getElem?_eq_getElem h1) (List.getElem?_eq_getElem hk)) ((h2.ext hb).row k _ _ (List.getElem?_eq_getElem h2') (List.getElem?_eq_getElem hk)))
  have hs := h
  have hs2 := h2
  obtain ⟨⟨a, cap, rfl, _⟩, _, _⟩ := h
  obtain ⟨⟨a2, cap2, rfl, _⟩, _, _⟩ := h2
  have Hs := Lib.hid hs
  have Hs2 := Lib.hid hs2
  clear hs hs2
  rw [hl2, hl1]
  rw [hl1] at hcap
  have Hl1 := Lib.hid hl1
  have Hl2 := Lib.hid hl2
  clear hl1 hl2
  go_enter Try.func29, Try.ntmps29
  go_wp2
  go_loopw [5] (fun i wr => ∃ k : Nat, k ≤ L.length ∧ i = .int .i64 k ∧ Below w.heap.size w wr) (fun i _ => L.length - (intOf i).toNat)
  case atStart => exact ⟨0, Nat.zero_le _, rfl, Below.refl _ _⟩
  case round =>
    obtain ⟨k, hk, rfl, hB⟩ := hrel
    by_cases hlt : k < L.length
    · have hk1 : k < rows.length := by rw [Hl1.out]; exact hlt
      have hk2 : k < rows2.length := by rw [Hl2.out]; exact hlt
      have hs := Hs.out
      have hs2 := Hs2.out
      have hcall := Lib.hid (hrow.out k hlt hk1 hk2)
      obtain ⟨b, off, rfl⟩ := hs.out.addr (by omega)
      obtain ⟨b2, off2, rfl⟩ := hs2.out.addr (by omega)
      have c0 := (hs.ext hB).at hk1
      have d0 := (hs2.ext hB).at hk2
      have hbw := World.block_lt_of_cell? wr _ c0
      have hbw2 := World.block_lt_of_cell? wr _ d0
      clear hs hs2
      generalize rows[k].v = r at *
      generalize rows2[k].v = r2 at *
      go_wp2_with fail
      go_region_held3 (fun w' => (∀ b' o', b' < wr.heap.size → w'.cell? ⟨b', o', none⟩ = wr.cell? ⟨b', o', none⟩) ∧ Below wr.heap.size wr w') (first | exact heldB (Below.refl _ _).drew | exact heldB hBc)
        (first | (go_at_call 82; refine (hcall.out _ hB.drew).mono ?_; rintro e w3 ⟨rfl, hB3⟩; have hBc : Below wr.heap.size wr w3 := (Below.refl _ wr).drew.trans hB3))
      go_wp2
      go_roundw
      case rel => exact ⟨k + 1, by omega, by go_num, hB.trans (hBc.mono hB.size)⟩
      case measure => simp [intOf]; omega
    · go_wp2
      go_ret
      exact ⟨rfl, hB⟩

theorem info_bool : (Try.prog.info? 4).map (fun i => (i.zero.isSome, i.size, i.bytes)) = some (true, 1, 1) := by kernel_rfl
set_option maxHeartbeats 1000000 in
theorem law_toBoolS (v : Value) (l : List Bool) (lo hi : Nat) (w : World) (h : Bools lo hi w v l) (hn : l.length ≤ 1048576) :
    Calls Try.prog 77 #[v] w fun e w' => ∃ v', e = .returned v' ∧ Slw 1 boolCells w.heap.size w'.heap.size w' v' l ∧ Below w.heap.size w w' := by
  obtain ⟨cs, hmk, hcs⟩ := make_rows (P := Try.prog) 78 4 1 1 (by simp) info_bool l.length (by omega) (by omega) w
  obtain ⟨f0, hf0⟩ := rowIs_made (w := w) (t := 4) hcs
  have Hf0 := Lib.hid hf0
  clear hf0 hcs
  have hsl := h
  obtain ⟨a, cap, rfl, hlen, hh⟩ := h
  clear hh
  go_enter Try.func77, Try.ntmps77
  go_wp2
  go_loopw [4] (fun i wr => ∃ k : Nat, k ≤ l.length ∧ i = .int .i64 k ∧ Below w.heap.size w wr ∧ ∃ f, Hid (wr.rowIs w.heap.size 4 (l.length * 1) f) ∧ Fill 1 boolCells l k f) (fun i _ => l.length - (intOf i).toNat)
  case atStart => exact ⟨0, Nat.zero_le _, rfl, (Below.refl _ _).alloc (Nat.le_refl _) _, f0, Hf0, Fill.zero⟩
  case round =>
    obtain ⟨k, hk, rfl, hB, f, hf, hfill⟩ := hrel
    by_cases hlt : k < l.length
    · have hlt2 := hf.out.lt
      obtain ⟨b, off, rfl⟩ := hsl.addr (by omega)
      have c0 := Bools.at (hsl.ext hB).get hlt
      clear hsl hmk
      have Hg := Lib.hid (fun g => hfill.step hlt boolCells_len (g := g))
      generalize l[k] = x at *
      have d0 := hf.out.cell (i := k) (by omega)
      have e0 := hf.out.frozen k
      go_wp2
      go_roundw
      case rel => exact ⟨k + 1, by omega, by go_num, hB.setCell (Nat.le_refl _) _, _, Lib.hid (hf.out.set _ _), Hg.out _ (fun j => by rw [Nat.mul_one]; exact upd1 _ _ _ j)⟩
      case measure => simp [intOf]; omega
    · have : k = l.length := by omega
      subst this
      go_wp2
      go_ret
      exact ⟨_, rfl, Slw.of_row hf.out hfill boolCells_len (by omega) (Nat.le_refl _) hf.out.lt, hB⟩

theorem law_szBoolS (v : Value) (l : List Bool) (lo hi : Nat) (n : Int) (w : World) (h : Bools lo hi w v l) (h0 : 0 ≤ n) (hn : n ≤ 1048576) :
    Calls Try.prog 73 #[v, .int .i64 n] w fun e w' => e = .returned (.int .i64 (szRes n l.length)) ∧ Below w.heap.size w w' := by
  obtain ⟨a, cap, rfl, hlen, hh⟩ := h
  clear hh
  by_cases hc : n < l.length
  · rw [szRes_lt hc]
    go_enter Try.func73, Try.ntmps73
    go_wp2
    go_ret
    exact ⟨rfl, Below.refl _ _⟩
  · rw [szRes_ge hc]
    go_enter Try.func73, Try.ntmps73
    go_wp2
    go_ret
    exact ⟨rfl, Below.refl _ _⟩
set_option maxHeartbeats 1000000 in
theorem law_szBoolSS (v : Value) (rows : List SV) (L : List (List Bool)) (lo hi : Nat) (n : Int) (w : World) (h : SSr 1 boolCells lo hi w v rows L) (h0 : 0 ≤ n) (hn : n ≤ 1048576) :
    Calls Try.prog 23 #[v, .int .i64 n] w fun e w' => e = .returned (.int .i64 (szRes n ((L.length + totSS L : Nat) : Int))) ∧ Below w.heap.size w w' := by
  have hl1 := h.len
  have hcap : rows.length ≤ 9223372036854775807 := by obtain ⟨a, cap, _, hc, _⟩ := h.out; omega
  have Hs := Lib.hid h
  obtain ⟨⟨a, cap, rfl, _⟩, _, _⟩ := h
  rw [hl1]
  rw [hl1] at hcap
  have Hl1 := Lib.hid hl1
  clear hl1
  by_cases hc : n < L.length
  · rw [szRes_lt (show n < ((L.length + totSS L : Nat) : Int) by omega)]
    go_enter Try.func23, Try.ntmps23
    go_wp2
    go_ret
    exact ⟨rfl, Below.refl _ _⟩
  · go_enter Try.func23, Try.ntmps23
    go_wp2
    go_loopw [1, 5] (fun r i wr => ∃ k : Nat, k ≤ L.length ∧ i = .int .i64 k ∧ ∃ m : Int, r = .int .i64 m ∧ 0 ≤ m ∧ m ≤ n ∧ Hid (m = n - L.length - (totSS (L.take k) : Nat)) ∧ Below w.heap.size w wr) (fun _ i _ => L.length - (intOf i).toNat)
    case atStart => exact ⟨0, Nat.zero_le _, rfl, _, rfl, by omega, by omega, Lib.hid (by simp [totSS]), Below.refl _ _⟩
    case round =>
      obtain ⟨k, hk, rfl, m, rfl, hm0, hmn, hm, hB⟩ := hrel
      by_cases hlt : k < L.length
      · have hk1 : k < rows.length := by rw [Hl1.out]; exact hlt
        have hs : SSr 1 boolCells lo hi wr (.slice a L.length cap) rows L := by rw [← Hl1.out]; exact Hs.out.ext hB
        have hrow := hs.row k rows[k] L[k] (List.getElem?_eq_getElem hk1) (List.getElem?_eq_getElem hlt)
        have hcall := Lib.hid (law_szBoolS rows[k].v L[k] lo hi m wr hrow hm0 (by omega))
        obtain ⟨b, off, rfl⟩ := hs.out.addr (by omega)
        have c0 := hs.at hk1
        have htt := Lib.hid (totSS_take hlt)
        have htl := Lib.hid (totSS_le L (k + 1))
        clear hs hrow
        generalize L[k].length = q at *
        generalize rows[k].v = r at *
        by_cases hx : m < q
        · rw [szRes_lt hx] at hcall
          have Hr : Hid (n < ((L.length + totSS L : Nat) : Int)) := Lib.hid (by have := hm.out; have := htt.out; have := htl.out; omega)
          clear hx
          go_wp2_with fail
          refine hcall.out.mono ?_
          rintro e w1 ⟨rfl, hb1⟩
          go_wp2
          go_ret
          rw [szRes_lt Hr.out]
          exact ⟨rfl, hB.trans (hb1.mono hB.size)⟩
        · rw [szRes_ge hx] at hcall
          have hx2 : decide (m - (q : Int) < 0) = false := decide_eq_false (by omega)
          go_wp2_with fail
          refine hcall.out.mono ?_
          rintro e w1 ⟨rfl, hb1⟩
          go_wp2
          go_roundw
          case rel => exact ⟨k + 1, by omega, by go_num, m - q, rfl, by omega, by omega, Lib.hid (by have := hm.out; have := htt.out; omega), hB.trans (hb1.mono hB.size)⟩
          case measure => simp [intOf]; omega
      · have : k = L.length := by omega
        subst this
        have Hr : Hid (szRes n ((L.length + totSS L : Nat) : Int) = m) := Lib.hid (by
          have := hm.out
          rw [List.take_length] at this
          rw [szRes_ge (by omega)]; omega)
        go_wp2
        go_ret
        rw [Hr.out]
        exact ⟨rfl, hB⟩
theorem info_SBool : (Try.prog.info? 78).map (fun i => (i.zero.isSome, i.size, i.bytes)) = some (true, 1, 24) := by kernel_rfl
def FillR (rows : List SV) (f : Nat → Value) : Prop := ∀ i (h : i < rows.length), f i = rows[i].v
/-- Rows that have been copied: behind block B, apart from each other. -/
structure Copied {α : Type} (n : Nat) (c : α → List Value) (B : Nat) (w : World) (rows : List SV) (L : List (List α)) : Prop where
  row : ∀ (i : Nat) (r : SV) (x : List α), rows[i]? = some r → L[i]? = some x → Slw n c (B + 1) w.heap.size w r.v x
  apart : ∀ (i j : Nat) (r s : SV) (x y : List α), rows[i]? = some r → rows[j]? = some s → L[i]? = some x → L[j]? = some y → i ≠ j → 0 < x.length → 0 < y.length → r.v.ownBlock ≠ s.v.ownBlock
theorem Copied.push {α : Type} {n : Nat} {c : α → List Value} {B : Nat} {w w1 w2 : World} {rows : List SV} {L : List (List α)} (h : Copied n c B w rows L) (hk : rows.length < L.length) (hB : B < w.heap.size) (hb : Below w.heap.size w w1) {r : SV} (hr : Slw n c w.heap.size w1.heap.size w1 r.v L[rows.length]) (hm : Mod B (B + 1) w1 w2) : Copied n c B w2 (rows ++ [r]) L := by
  have hsz := hb.size
  have hsz2 := hm.size
  have key : ∀ (i : Nat) (s : SV) (x : List α), (rows ++ [r])[i]? = some s → L[i]? = some x → (rows[i]? = some s ∧ Slw n c (B + 1) w.heap.size w s.v x) ∨ (i = rows.length ∧ Slw n c w.heap.size w1.heap.size w1 s.v x) := by
    intro i s x hs hx
    rw [List.getElem?_append] at hs
    by_cases hi : i < rows.length
    · rw [if_pos hi] at hs
      exact .inl ⟨hs, h.row i s x hs hx⟩
    · rw [if_neg hi] at hs
      by_cases h0 : i - rows.length = 0
      · have : i = rows.length := by omega
        subst this
        rw [h0] at hs; simp at hs; subst hs
        rw [List.getElem?_eq_getElem hk] at hx
        cases hx
        exact .inr ⟨rfl, hr⟩
      · rw [List.getElem?_eq_none (by simp; omega)] at hs; cases hs
  refine ⟨?_, ?_⟩
  · intro i s x hs hx
    rcases key i s x hs hx with ⟨_, h1⟩ | ⟨_, h1⟩
    · exact (((h1.keep (Same.of_below hb (Nat.le_refl _))).keep (hm.same (by omega) (.inr (Nat.le_refl _))))).widen (Nat.le_refl _) (by omega)
    · exact (h1.keep (hm.same (Nat.le_refl _) (.inr (by omega)))).widen (by omega) hsz2
  · intro i j s t x y hs ht hx hy hij hx0 hy0 he
    rcases key i s x hs hx with ⟨h1, h2⟩ | ⟨h1, h2⟩
    · rcases key j t y ht hy with ⟨h3, h4⟩ | ⟨h3, h4⟩
      · exact h.apart i j s t x y h1 h3 hx hy hij hx0 hy0 he
      · obtain ⟨g, hg, _, hg2, _⟩ := h2.narrow hx0
        obtain ⟨g', hg', hg3, _, _⟩ := h4.narrow hy0
        rw [hg, hg'] at he; cases he; omega
    · rcases key j t y ht hy with ⟨h3, h4⟩ | ⟨h3, h4⟩
      · obtain ⟨g, hg, hg2, _, _⟩ := h2.narrow hx0
        obtain ⟨g', hg', _, hg3, _⟩ := h4.narrow hy0
        rw [hg, hg'] at he; cases he; omega
      · omega
set_option maxHeartbeats 2000000 in
theorem law_toBoolSS (v : Value) (rows0 : List SV) (L : List (List Bool)) (lo hi : Nat) (w : World) (h : SSr 1 boolCells lo hi w v rows0 L) (hn : L.length + totSS L ≤ 1048576) :
    Calls Try.prog 25 #[v] w fun e w' => ∃ v' rows, e = .returned v' ∧ SSw 1 boolCells w.heap.size w'.heap.size w' v' rows L ∧ Below w.heap.size w w' := by
  obtain ⟨cs, hmk, hcs⟩ := make_rows (P := Try.prog) 44 78 1 24 (by simp) info_SBool L.length (by omega) (by omega) w
  obtain ⟨f0, hf0⟩ := rowIs_made (w := w) (t := 78) hcs
  have Hf0 := Lib.hid hf0
  clear hf0 hcs
  have hl1 := h.len
  have Hs := Lib.hid h
  obtain ⟨⟨a, cap, rfl, _⟩, _, _⟩ := h
  rw [hl1]
  have Hl1 := Lib.hid hl1
  clear hl1
  have hLb : L.length ≤ 1048576 := by omega
  have Hn := Lib.hid hn
  clear hn
  go_enter Try.func25, Try.ntmps25
  go_wp2
  go_loopw [4] (fun i wr => ∃ k : Nat, k ≤ L.length ∧ i = .int .i64 k ∧ Below w.heap.size w wr ∧ ∃ f rows, Hid (wr.rowIs w.heap.size 78 (L.length * 1) f) ∧ Hid (rows.length = k) ∧ Hid (FillR rows f) ∧ Hid (Copied 1 boolCells w.heap.size wr rows L)) (fun i _ => L.length - (intOf i).toNat)
  case atStart => exact ⟨0, Nat.zero_le _, rfl, (Below.refl _ _).alloc (Nat.le_refl _) _, f0, [], Hf0, Lib.hid rfl, Lib.hid (fun i h => absurd h (by simp)), Lib.hid ⟨fun _ _ _ h => by simp at h, fun _ _ _ _ _ _ h => by simp at h⟩⟩
  case round =>
    obtain ⟨k, hk, rfl, hB, f, rows, hf, hrl, hfill, hcop⟩ := hrel
    by_cases hlt : k < L.length
    · have hlt2 := hf.out.lt
      have hk1 : k < rows0.length := by rw [Hl1.out]; exact hlt
      have hs : SSr 1 boolCells lo hi wr (.slice a L.length cap) rows0 L := by rw [← Hl1.out]; exact Hs.out.ext hB
      have hrow := hs.row k rows0[k] L[k] (List.getElem?_eq_getElem hk1) (List.getElem?_eq_getElem hlt)
      have hrlen : L[k].length ≤ 1048576 := by have h1 := totSS_take hlt; have h2 := totSS_le L (k + 1); have := Hn.out; omega
      have hcall := Lib.hid (law_toBoolS rows0[k].v L[k] lo hi wr hrow hrlen)
      obtain ⟨b, off, rfl⟩ := hs.out.addr (by omega)
      have c0 := hs.at hk1
      clear hs hrow hmk
      generalize rows0[k].v = r at *
      go_wp2_with fail
      refine hcall.out.mono ?_
      rintro e w1 ⟨v', rfl, hs1, hb1⟩
      obtain ⟨va, vc, rfl⟩ : ∃ va vc, v' = .slice va L[k].length vc := by obtain ⟨⟨a, cap, h, _⟩, _⟩ := hs1; exact ⟨a, cap, h⟩
      have hr1 := hf.out.of_block (hb1.block _ hlt2)
      have d0 := hr1.cell (i := k) (by omega)
      have e0 := hr1.frozen k
      have Hr1 := Lib.hid hr1
      have Hs1 := Lib.hid hs1
      clear hr1 hs1
      go_wp2
      go_roundw
      case rel =>
        have hkk := hrl.out
        subst hkk
        have hm : Mod w.heap.size (w.heap.size + 1) w1 (w1.setCell ⟨w.heap.size, rows.length, none⟩ (.slice va L[rows.length].length vc)) := (Mod.refl _ _ _).setCell (p := ⟨w.heap.size, rows.length, none⟩) (Nat.le_refl _) (Nat.lt_succ_self _) _
        refine ⟨rows.length + 1, by omega, by go_num, (hB.trans (hb1.mono hB.size)).setCell (Nat.le_refl _) _, _, rows ++ [⟨va, L[rows.length].length, vc⟩], Lib.hid (Hr1.out.set _ _), Lib.hid (by simp), Lib.hid ?_, Lib.hid (hcop.out.push (r := ⟨va, L[rows.length].length, vc⟩) hlt hlt2 hb1 Hs1.out hm)⟩
        intro i hi
        rw [List.getElem_append]
        by_cases hi2 : i < rows.length
        · rw [dif_pos hi2, ← hfill.out i hi2]
          exact if_neg (by omega)
        · have : i = rows.length := by simp at hi; omega
          subst this
          rw [dif_neg hi2]
          simp [SV.v]
      case measure => simp [intOf]; omega
    · have : k = L.length := by omega
      subst this
      have Hfin : Hid (SSw 1 boolCells w.heap.size wr.heap.size wr (.slice (some ⟨w.heap.size, 0, none⟩) L.length L.length) rows L) := Lib.hid (by
        have hkk := hrl.out
        refine ⟨?_, hkk, fun i r x hr hx => (hcop.out.row i r x hr hx).widen (by omega) (Nat.le_refl _), hcop.out.apart, ?_⟩
        · have := Slw.of_row (l := rows) (n := 1) (c := one) (lo := w.heap.size) (hi := wr.heap.size) (by rw [hkk]; exact hf.out) (fun i hi _ j u hu => by
            have hj : j = 0 := by have := (List.getElem?_eq_some_iff.1 hu).1; rw [one_len] at this; omega
            subst hj
            have : rows[i].v = u := by simpa [one] using hu
            rw [← this, ← hfill.out i hi]; simp) one_len (by omega) (Nat.le_refl _) hf.out.lt
          rw [hkk] at this
          exact this
        · intro i r x hr hx hx0 he
          obtain ⟨g, hg, hg2, _, _⟩ := (hcop.out.row i r x hr hx).narrow hx0
          rw [hg] at he
          simp [Value.ownBlock] at he
          omega)
      go_wp2
      go_ret
      exact ⟨_, _, rfl, Hfin.out, hB⟩
end Go.Proofs.Yteakogdojmgehaa
