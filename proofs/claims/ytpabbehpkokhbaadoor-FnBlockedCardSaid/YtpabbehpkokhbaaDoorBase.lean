/- Plain lemmas on lists, numbers, values and readings of slices, shared by all texts of this seat. No program in sight. -/
import Derived.WalkKit
import Derived.LoopTactic
import Derived.Below
import Derived.Outline
import Derived.Lib.Hide
import Derived.Deep.QuietTactic
import Derived.BigQuiet
import Derived.WalkLawsBesides
import Derived.WalkSpells
import Derived.Deep.LoopGhost
import Derived.RegionTactic
import Derived.Deep.RegionWith
import Derived.StillTailTactics
import Derived.Deep.OwnRows
import Derived.Deep.RegionHeld3
namespace Go.Proofs.YtpabbehpkokhbaaDoor
open Go.RowKit

theorem ret_int {k : IntKind} {a b : Int} (h : a = b) : Ending.returned (.int k a) = .returned (.int k b) := by rw [h]
theorem ret_bool {a b : Bool} (h : a = b) : Ending.returned (.bool a) = .returned (.bool b) := by rw [h]
theorem ret_string {a b : ByteArray} (h : a = b) : Ending.returned (.string a) = .returned (.string b) := by rw [h]

/-- The bounds of an int64. -/
def I64 (n : Int) : Prop := -9223372036854775808 ≤ n ∧ n ≤ 9223372036854775807

theorem bcell {B : Nat} {W w1 : World} (hb : Below B W w1) : (∀ b o, b < B → w1.cell? ⟨b, o, none⟩ = W.cell? ⟨b, o, none⟩) ∧ (∀ b o, b < B → w1.frozen? ⟨b, o, none⟩ = W.frozen? ⟨b, o, none⟩) :=
  ⟨fun b o h => hb.cell (p := ⟨b, o, none⟩) h, fun b o h => hb.frozen (p := ⟨b, o, none⟩) h⟩

/-- A slice value that reads as the list 'l': element i lies in 'n' cells, which are 'c l[i]'. Its cells lie in the blocks lo .. hi-1. -/
def Sl {α : Type} (n : Nat) (c : α → List Value) (lo hi : Nat) (w : World) (v : Value) (l : List α) : Prop :=
  ∃ a cap, v = .slice a l.length cap ∧ (l.length ≤ cap ∧ cap ≤ 9223372036854775807) ∧
    (0 < l.length → ∃ b off, a = some ⟨b, off, none⟩ ∧ lo ≤ b ∧ b < hi ∧ ∀ i (h : i < l.length) j u, (c l[i])[j]? = some u → w.cell? ⟨b, off + i * n + j, none⟩ = some u)

theorem Sl.mono {α : Type} {n : Nat} {c : α → List Value} {lo hi lo' hi' : Nat} {w : World} {v : Value} {l : List α} (h : Sl n c lo hi w v l) (h1 : lo' ≤ lo) (h2 : hi ≤ hi') : Sl n c lo' hi' w v l := by
  obtain ⟨a, cap, hv, hl, hh⟩ := h
  refine ⟨a, cap, hv, hl, fun h0 => ?_⟩
  obtain ⟨b, off, ha, hb1, hb2, hc⟩ := hh h0
  exact ⟨b, off, ha, by omega, by omega, hc⟩

/-- Blocks lo .. hi-1 are as they were. -/
def Same (lo hi : Nat) (w w' : World) : Prop := ∀ k, lo ≤ k → k < hi → w'.heap[k]? = w.heap[k]?

theorem Same.of_below {B : Nat} {w w' : World} (h : Below B w w') {lo hi : Nat} (hhi : hi ≤ B) : Same lo hi w w' := fun k _ hk => h.block k (by omega)

theorem Sl.keep {α : Type} {n : Nat} {c : α → List Value} {lo hi : Nat} {w w' : World} {v : Value} {l : List α} (h : Sl n c lo hi w v l) (hs : Same lo hi w w') : Sl n c lo hi w' v l := by
  obtain ⟨a, cap, hv, hl, hh⟩ := h
  refine ⟨a, cap, hv, hl, fun h0 => ?_⟩
  obtain ⟨b, off, ha, hb1, hb2, hc⟩ := hh h0
  refine ⟨b, off, ha, hb1, hb2, fun i hi j u hu => ?_⟩
  rw [World.cell?_of_block (w := w) (hs b hb1 hb2)]
  exact hc i hi j u hu

theorem Sl.below {α : Type} {n : Nat} {c : α → List Value} {lo hi : Nat} {w w' : World} {v : Value} {l : List α} (h : Sl n c lo hi w v l) {B : Nat} (hb : Below B w w') (hhi : hi ≤ B) : Sl n c lo hi w' v l :=
  h.keep (Same.of_below hb hhi)

/-- What reads, reads on where nothing that was there has turned. -/
theorem Sl.ext {α : Type} {n : Nat} {c : α → List Value} {lo hi : Nat} {w w' : World} {v : Value} {l : List α} (h : Sl n c lo hi w v l) (hb : Below w.heap.size w w') : Sl n c lo hi w' v l := by
  obtain ⟨a, cap, hv, hl, hh⟩ := h
  refine ⟨a, cap, hv, hl, fun h0 => ?_⟩
  obtain ⟨b, off, ha, hb1, hb2, hc⟩ := hh h0
  refine ⟨b, off, ha, hb1, hb2, fun i hi j u hu => ?_⟩
  have h1 := hc i hi j u hu
  rw [hb.cell (World.block_lt_of_cell? w _ h1)]
  exact h1

theorem Sl.get {α : Type} {n : Nat} {c : α → List Value} {lo hi : Nat} {w : World} {b off len cap : Nat} {l : List α} (h : Sl n c lo hi w (.slice (some ⟨b, off, none⟩) len cap) l) :
    ∀ i (h : i < l.length) j u, (c l[i])[j]? = some u → w.cell? ⟨b, off + i * n + j, none⟩ = some u := by
  obtain ⟨a, cap', hv, _, hh⟩ := h
  cases hv
  intro i hi j u hu
  obtain ⟨b', off', ha, _, _, hc⟩ := hh (by omega)
  cases ha
  exact hc i hi j u hu
theorem Sl.take {α : Type} {n : Nat} {c : α → List Value} {lo hi : Nat} {w : World} {a : Option Addr} {len cap k : Nat} {l : List α} (h : Sl n c lo hi w (.slice a len cap) l) (hk : k ≤ l.length) : Sl n c lo hi w (.slice a k cap) (l.take k) := by
  obtain ⟨a, cap', hv, hl, hh⟩ := h
  cases hv
  have hlen : (l.take k).length = k := by rw [List.length_take]; omega
  refine ⟨a, _, by rw [hlen], by omega, fun h0 => ?_⟩
  rw [hlen] at h0
  obtain ⟨b', off', ha, h1, h2, hc⟩ := hh (by omega)
  refine ⟨b', off', ha, h1, h2, fun i hi j u hu => hc i (by omega) j u ?_⟩
  rw [List.getElem_take] at hu
  exact hu
theorem Sl.addr {α : Type} {n : Nat} {c : α → List Value} {lo hi : Nat} {w : World} {a : Option Addr} {len cap : Nat} {l : List α} (h : Sl n c lo hi w (.slice a len cap) l) (h0 : 0 < l.length) : ∃ b off, a = some ⟨b, off, none⟩ := by
  obtain ⟨a, cap', hv, _, hh⟩ := h
  cases hv
  obtain ⟨b', off', ha, _⟩ := hh h0
  exact ⟨b', off', ha⟩

theorem Calls.turn {P : Program} {f : FuncId} {args : Array Value} {w : World} {E : Ending → Prop} (h : Calls P f args w fun e w' => E e ∧ w = w') : Calls P f args w fun e w' => E e ∧ w' = w :=
  h.mono fun _ _ h => ⟨h.1, h.2.symm⟩

theorem all_take_succ {α : Type} {p : α → Bool} {l : List α} {k : Nat} (hk : k < l.length) (h : (l.take k).all p = true) (h2 : p l[k] = true) : (l.take (k + 1)).all p = true := by
  rw [List.take_succ_eq_append_getElem hk, List.all_append, h]; simp [h2]
theorem all_false {α : Type} {p : α → Bool} {l : List α} {k : Nat} (hk : k < l.length) (h2 : p l[k] = false) : l.all p = false := by
  rw [Bool.eq_false_iff]; intro h; rw [List.all_eq_true] at h; simp [h _ (List.getElem_mem hk)] at h2
theorem all_take_end {α : Type} {p : α → Bool} {l : List α} {k : Nat} (hk : ¬ k < l.length) (h : (l.take k).all p = true) : l.all p = true := by
  rwa [List.take_of_length_le (by omega)] at h

theorem below_dN {B : Nat} {a w : World} (h : Below B a w) (n : Nat) : Below B a (w.drewN n) := ⟨h.os, h.tape, h.output, h.size, h.block⟩

/-- The first k elements of l stand in the row f. -/
def Fill {α : Type} (n : Nat) (c : α → List Value) (l : List α) (k : Nat) (f : Nat → Value) : Prop :=
  ∀ i (h : i < l.length), i < k → ∀ j u, (c l[i])[j]? = some u → f (i * n + j) = u

theorem Fill.zero {α : Type} {n : Nat} {c : α → List Value} {l : List α} {f : Nat → Value} : Fill n c l 0 f := fun _ _ h => absurd h (by omega)

theorem Fill.step {α : Type} {n : Nat} {c : α → List Value} {l : List α} {k : Nat} {f g : Nat → Value} (h : Fill n c l k f) (hk : k < l.length) (hn : ∀ x, (c x).length = n)
    (hg : ∀ j, (j < k * n → g j = f j) ∧ (k * n ≤ j → j < k * n + n → some (g j) = (c l[k])[j - k * n]?)) : Fill n c l (k + 1) g := by
  intro i hi hik j u hu
  have hj : j < n := by rw [← hn l[i]]; exact (List.getElem?_eq_some_iff.1 hu).1
  by_cases h1 : i < k
  · have h2 : i * n + n ≤ k * n := by rw [← Nat.succ_mul]; exact Nat.mul_le_mul_right _ (by omega)
    rw [(hg (i * n + j)).1 (by omega)]
    exact h i hi h1 j u hu
  · have : i = k := by omega
    subst this
    have h3 := (hg (i * n + j)).2 (by omega) (by omega)
    rw [Nat.add_sub_cancel_left, hu] at h3
    exact Option.some.inj h3

/-- A slice of memory of the call's own: readable, and none of its cells frozen. -/
def Slw {α : Type} (n : Nat) (c : α → List Value) (lo hi : Nat) (w : World) (v : Value) (l : List α) : Prop :=
  Sl n c lo hi w v l ∧ (0 < l.length → ∀ b off len cap, v = .slice (some ⟨b, off, none⟩) len cap → ∀ j, w.frozen? ⟨b, j, none⟩ = false)

theorem Slw.of_row {α : Type} {n : Nat} {c : α → List Value} {l : List α} {w : World} {b : Nat} {t : TypeId} {f : Nat → Value} {lo hi : Nat} (h : w.rowIs b t (l.length * n) f) (hf : Fill n c l l.length f) (hn : ∀ x, (c x).length = n)
    (hl : l.length ≤ 9223372036854775807) (hlo : lo ≤ b) (hhi : b < hi) : Slw n c lo hi w (.slice (some ⟨b, 0, none⟩) l.length l.length) l := by
  refine ⟨⟨_, _, rfl, ⟨Nat.le_refl _, hl⟩, fun _ => ⟨b, 0, rfl, hlo, hhi, fun i hi j u hu => ?_⟩⟩, ?_⟩
  · have hj : j < n := by rw [← hn l[i]]; exact (List.getElem?_eq_some_iff.1 hu).1
    have h2 : i * n + n ≤ l.length * n := by rw [← Nat.succ_mul]; exact Nat.mul_le_mul_right _ (by omega)
    rw [Nat.zero_add, h.cell (by omega), hf i hi hi j u hu]
  · intro _ b' off len cap hv j
    cases hv
    exact h.frozen j

theorem Slw.ext {α : Type} {n : Nat} {c : α → List Value} {lo hi : Nat} {w w' : World} {v : Value} {l : List α} (h : Slw n c lo hi w v l) (hhi : hi ≤ w.heap.size) (hb : Below w.heap.size w w') : Slw n c lo hi w' v l := by
  refine ⟨h.1.ext hb, fun h0 b off len cap hv j => ?_⟩
  obtain ⟨a, cap', hv', _, hh⟩ := h.1
  obtain ⟨b', off', ha, _, hb2, _⟩ := hh h0
  have : b = b' := by rw [hv'] at hv; cases hv; cases ha; rfl
  subst this
  rw [hb.frozen (p := ⟨b, j, none⟩) (show b < _ by omega)]
  exact h.2 h0 b off len cap hv j

theorem rowIs_made {w : World} {cs : Array Value} {t : TypeId} {m : Nat} (h : cs.size = m) : ∃ f, (w.alloc (.cells cs t)).rowIs w.heap.size t m f := by
  subst h
  exact ⟨fun i => cs.getD i undef, World.rowIs_alloc w cs t _ (fun i hi => by simp [hi])⟩

theorem make_rows {P : Program} (t e : TypeId) (n bytes : Nat) (ht : P.underlying t = some (.slice e)) (hinfo : (P.info? e).map (fun i => (i.zero.isSome, i.size, i.bytes)) = some (true, n, bytes))
    (len : Nat) (hb : bytes * len ≤ 281474976710656) (h63 : len ≤ 9223372036854775807) (w : World) :
    ∃ cs : Array Value, (Instr.makeSlice t (.int .i64 (len : Int)) (.int .i64 (len : Int))).run P w = .ok (.slice (some ⟨w.heap.size, 0, none⟩) len len) (w.alloc (.cells cs e)) ∧ cs.size = len * n := by
  obtain ⟨i, hi, hzz⟩ := Option.map_eq_some_iff.1 hinfo
  simp only [Prod.mk.injEq] at hzz
  obtain ⟨hz, hs, hb2⟩ := hzz
  obtain ⟨z, hz⟩ := Option.isSome_iff_exists.1 hz
  have hb' : (i.bytes : Int) * (len : Int) ≤ 281474976710656 := by
    have h : ((i.bytes * len : Nat) : Int) ≤ 281474976710656 := by rw [hb2]; omega
    rwa [Int.natCast_mul] at h
  have hr := run_make (P := P) w t e i z ht hi hz .i64 .i64 len len (by omega) (Int.le_refl _) hb' (by omega)
  simp only [Int.toNat_natCast, hs] at hr
  exact ⟨_, hr, size_madeCells _ _⟩

/-- Nothing that was there has turned but for the blocks lo .. hi-1. -/
structure Mod (lo hi : Nat) (w w' : World) : Prop where
  os : w'.os = w.os
  tape : w'.tape = w.tape
  output : w'.output = w.output
  size : w.heap.size ≤ w'.heap.size
  block : ∀ k, k < w.heap.size → (k < lo ∨ hi ≤ k) → w'.heap[k]? = w.heap[k]?

theorem Mod.refl (lo hi : Nat) (w : World) : Mod lo hi w w := ⟨rfl, rfl, rfl, Nat.le_refl _, fun _ _ _ => rfl⟩
theorem Mod.trans {lo hi : Nat} {a b c : World} (h : Mod lo hi a b) (k : Mod lo hi b c) : Mod lo hi a c :=
  ⟨k.os.trans h.os, k.tape.trans h.tape, k.output.trans h.output, Nat.le_trans h.size k.size, fun i hi ho => (k.block i (Nat.lt_of_lt_of_le hi h.size) ho).trans (h.block i hi ho)⟩
theorem Mod.of_below {lo hi : Nat} {w w' : World} (h : Below w.heap.size w w') : Mod lo hi w w' := ⟨h.os, h.tape, h.output, h.size, fun k hk _ => h.block k hk⟩
theorem Mod.setCell {lo hi : Nat} {a w : World} (h : Mod lo hi a w) {p : Addr} (h1 : lo ≤ p.block) (h2 : p.block < hi) (u : Value) : Mod lo hi a (w.setCell p u) :=
  h.trans ⟨rfl, rfl, rfl, by simp [World.setCell], fun k _ ho => Below.heap_setCell _ _ _ _ (by omega)⟩
theorem Mod.then {lo hi : Nat} {a w w' : World} (h : Mod lo hi a w) (hb : Below w.heap.size w w') : Mod lo hi a w' := h.trans (Mod.of_below hb)
theorem Mod.drewN {lo hi : Nat} {a w : World} (h : Mod lo hi a w) (n : Nat) : Mod lo hi a (w.drewN n) := ⟨h.os, h.tape, h.output, h.size, h.block⟩
theorem Mod.below {lo hi B : Nat} {w w' : World} (h : Mod lo hi w w') (h1 : B ≤ lo) (h2 : B ≤ w.heap.size) : Below B w w' :=
  ⟨h.os, h.tape, h.output, h.size, fun k hk => h.block k (by omega) (by omega)⟩
theorem Mod.same {lo hi lo' hi' : Nat} {w w' : World} (h : Mod lo hi w w') (h1 : hi' ≤ w.heap.size) (h2 : hi' ≤ lo ∨ hi ≤ lo') : Same lo' hi' w w' :=
  fun k hk hk' => h.block k (by omega) (by omega)
theorem Mod.mono {lo hi lo' hi' : Nat} {w w' : World} (h : Mod lo hi w w') (h1 : lo' ≤ lo) (h2 : hi ≤ hi') : Mod lo' hi' w w' :=
  ⟨h.os, h.tape, h.output, h.size, fun k hk ho => h.block k hk (by omega)⟩

theorem Slw.store {α : Type} {n : Nat} {c : α → List Value} {lo hi : Nat} {w : World} {b off cap : Nat} {l : List α} (h : Slw n c lo hi w (.slice (some ⟨b, off, none⟩) l.length cap) l) (hn : ∀ x, (c x).length = n)
    {k : Nat} (hk : k < l.length) {j : Nat} (hj : j < n) {u : Value} {x : α} (hx : c x = (c l[k]).set j u) {o : Nat} (ho : o = off + k * n + j) :
    Slw n c lo hi (w.setCell ⟨b, o, none⟩ u) (.slice (some ⟨b, off, none⟩) l.length cap) (l.set k x) := by
  subst ho
  obtain ⟨⟨a, cap', hv, hl, hh⟩, hz⟩ := h
  cases hv
  obtain ⟨b', off', ha, h1, h2, hc⟩ := hh (by omega)
  cases ha
  refine ⟨⟨_, _, by rw [List.length_set], by rw [List.length_set]; exact hl, fun _ => ⟨b, off, rfl, h1, h2, ?_⟩⟩, ?_⟩
  · intro i hi j' u' hu'
    rw [List.length_set] at hi
    rw [List.getElem_set] at hu'
    by_cases hik : k = i
    · subst hik
      rw [if_pos rfl, hx, List.getElem?_set] at hu'
      by_cases hjj : j = j'
      · subst hjj
        rw [if_pos rfl, if_pos (by rw [hn]; exact hj)] at hu'
        cases hu'
        have := hc k hk j _ (List.getElem?_eq_getElem (by rw [hn]; exact hj))
        exact World.cell?_setCell_same _ _ _ this
      · rw [if_neg hjj] at hu'
        rw [World.cell?_setCell_other _ _ _ _ (by intro e; injection e with _ e2; omega)]
        exact hc k hk j' u' hu'
    · rw [if_neg hik] at hu'
      have hj' : j' < n := by rw [← hn l[i]]; exact (List.getElem?_eq_some_iff.1 hu').1
      rw [World.cell?_setCell_other _ _ _ _ (by
        intro e; injection e with _ e2
        rcases Nat.lt_or_gt_of_ne hik with h | h
        · have : k * n + n ≤ i * n := by rw [← Nat.succ_mul]; exact Nat.mul_le_mul_right _ h
          omega
        · have : i * n + n ≤ k * n := by rw [← Nat.succ_mul]; exact Nat.mul_le_mul_right _ h
          omega)]
      exact hc i hi j' u' hu'
  · intro _ b'' off'' len'' cap'' hv j''
    cases hv
    rw [World.frozen?_setCell]
    exact hz (by omega) b off _ cap rfl j''

theorem Slw.keep {α : Type} {n : Nat} {c : α → List Value} {lo hi : Nat} {w w' : World} {v : Value} {l : List α} (h : Slw n c lo hi w v l) (hs : Same lo hi w w') : Slw n c lo hi w' v l := by
  refine ⟨h.1.keep hs, fun h0 b off len cap hv j => ?_⟩
  obtain ⟨a, cap', hv', _, hh⟩ := h.1
  obtain ⟨b', off', ha, hb1, hb2, _⟩ := hh h0
  have : b = b' := by rw [hv'] at hv; cases hv; cases ha; rfl
  subst this
  rw [World.frozen?_of_block (w := w) (hs b hb1 hb2)]
  exact h.2 h0 b off len cap hv j

/-- A row of memory of the call's own, cell by cell: row i stands in the n cells from off + i * n on. -/
structure Raw (n lo hi : Nat) (w : World) (b off : Nat) (rows : List (List Value)) : Prop where
  lo : lo ≤ b
  hi : b < hi
  cell : ∀ i (h : i < rows.length) j u, rows[i][j]? = some u → w.cell? ⟨b, off + i * n + j, none⟩ = some u
  free : ∀ j, w.frozen? ⟨b, j, none⟩ = false
  len : ∀ i (h : i < rows.length), rows[i].length = n

theorem Raw.store {n lo hi : Nat} {w : World} {b off : Nat} {rows : List (List Value)} {k j o : Nat} {r : List Value} {u : Value} (h : Raw n lo hi w b off (rows.set k r)) (hk : k < rows.length) (hj : j < n) (ho : o = off + k * n + j) :
    Raw n lo hi (w.setCell ⟨b, o, none⟩ u) b off (rows.set k (r.set j u)) := by
  subst ho
  have hkl : k < (rows.set k r).length := by rw [List.length_set]; exact hk
  have hrl : r.length = n := by have := h.len k hkl; rwa [List.getElem_set, if_pos rfl] at this
  refine ⟨h.lo, h.hi, ?_, fun j => by rw [World.frozen?_setCell]; exact h.free j, ?_⟩
  · intro i hi j' u' hu'
    have hi' : i < rows.length := by rw [List.length_set] at hi; exact hi
    rw [List.getElem_set] at hu'
    by_cases hik : k = i
    · subst hik
      rw [if_pos rfl, List.getElem?_set] at hu'
      by_cases hjj : j = j'
      · subst hjj
        rw [if_pos rfl, if_pos (by omega)] at hu'
        cases hu'
        have := h.cell k hkl j _ (by rw [List.getElem_set, if_pos rfl]; exact List.getElem?_eq_getElem (by omega))
        exact World.cell?_setCell_same _ _ _ this
      · rw [if_neg hjj] at hu'
        rw [World.cell?_setCell_other _ _ _ _ (by intro e; injection e with _ e2; omega)]
        exact h.cell k hkl j' u' (by rw [List.getElem_set, if_pos rfl]; exact hu')
    · rw [if_neg hik] at hu'
      have hi2 : i < (rows.set k r).length := by rw [List.length_set]; exact hi'
      have hget : (rows.set k r)[i] = rows[i] := by rw [List.getElem_set, if_neg hik]
      have hj' : j' < n := by
        have h1 := (List.getElem?_eq_some_iff.1 hu').1
        have h2 := h.len i hi2
        rw [hget] at h2
        omega
      rw [World.cell?_setCell_other _ _ _ _ (by
        intro e; injection e with _ e2
        rcases Nat.lt_or_gt_of_ne hik with h | h
        · have : k * n + n ≤ i * n := by rw [← Nat.succ_mul]; exact Nat.mul_le_mul_right _ h
          omega
        · have : i * n + n ≤ k * n := by rw [← Nat.succ_mul]; exact Nat.mul_le_mul_right _ h
          omega)]
      exact h.cell i hi2 j' u' (by rw [hget]; exact hu')
  · intro i hi
    have hi' : i < rows.length := by rw [List.length_set] at hi; exact hi
    rw [List.getElem_set]
    by_cases hik : k = i
    · rw [if_pos hik, List.length_set, hrl]
    · rw [if_neg hik]
      have := h.len i (by rw [List.length_set]; exact hi')
      rwa [List.getElem_set, if_neg hik] at this

theorem Raw.self {n lo hi : Nat} {w : World} {b off : Nat} {rows : List (List Value)} (h : Raw n lo hi w b off rows) {k : Nat} (hk : k < rows.length) : Raw n lo hi w b off (rows.set k rows[k]) := by
  rw [List.set_getElem_self]; exact h

theorem Raw.ext {n lo hi : Nat} {w w' : World} {b off : Nat} {rows : List (List Value)} (h : Raw n lo hi w b off rows) (hhi : hi ≤ w.heap.size) (hb : Below w.heap.size w w') : Raw n lo hi w' b off rows := by
  have h1 := h.hi
  exact ⟨h.lo, h.hi, fun i hi j u hu => by rw [hb.cell (p := ⟨b, off + i * n + j, none⟩) (show b < _ by omega)]; exact h.cell i hi j u hu,
    fun j => by rw [hb.frozen (p := ⟨b, j, none⟩) (show b < _ by omega)]; exact h.free j, h.len⟩

theorem Raw.of {α : Type} {n : Nat} {c : α → List Value} {lo hi : Nat} {w : World} {v : Value} {l : List α} (h : Slw n c lo hi w v l) (hn : ∀ x, (c x).length = n) (h0 : 0 < l.length) :
    ∃ b off cap, v = .slice (some ⟨b, off, none⟩) l.length cap ∧ (l.length ≤ cap ∧ cap ≤ 9223372036854775807) ∧ Raw n lo hi w b off (l.map c) := by
  obtain ⟨⟨a, cap, hv, hl, hh⟩, hz⟩ := h
  obtain ⟨b, off, ha, h1, h2, hc⟩ := hh h0
  subst ha
  exact ⟨b, off, cap, hv, hl, h1, h2, fun i hi j u hu => hc i (by simpa using hi) j u (by simpa using hu), hz h0 b off _ cap hv, fun i hi => by simp [hn]⟩

theorem Raw.back {α : Type} {n : Nat} {c : α → List Value} {lo hi : Nat} {w : World} {b off cap m : Nat} {rows : List (List Value)} (h : Raw n lo hi w b off rows) (l : List α) (hr : ∀ i (h : i < l.length), rows[i]? = some (c l[i])) (hm : m = l.length) (hl : l.length ≤ cap ∧ cap ≤ 9223372036854775807) :
    Slw n c lo hi w (.slice (some ⟨b, off, none⟩) m cap) l := by
  subst hm
  refine ⟨⟨_, _, rfl, hl, fun _ => ⟨b, off, rfl, h.lo, h.hi, fun i hi j u hu => ?_⟩⟩, ?_⟩
  · have h1 := hr i hi
    obtain ⟨h2, h3⟩ := List.getElem?_eq_some_iff.1 h1
    exact h.cell i h2 j u (by rw [h3]; exact hu)
  · intro _ b' off' len' cap' hv j
    cases hv
    exact h.free j

/-- For regions that draw their order: what stood at W stands on. -/
theorem held0 (W : World) : (∀ b o, b < W.heap.size → W.drew.cell? ⟨b, o, none⟩ = W.cell? ⟨b, o, none⟩) ∧ Below W.heap.size W W.drew := ⟨fun _ _ _ => rfl, (Below.refl _ _).drew⟩
theorem heldS {W w1 w2 : World} (h : Below W.heap.size W w1) (hb : Below w1.heap.size w1 w2) : (∀ b o, b < W.heap.size → w2.cell? ⟨b, o, none⟩ = W.cell? ⟨b, o, none⟩) ∧ Below W.heap.size W w2 :=
  ⟨fun b o hb2 => (h.trans (hb.mono h.size)).cell (p := ⟨b, o, none⟩) hb2, h.trans (hb.mono h.size)⟩

theorem upd1 (m : Nat) (f : Nat → Value) (a0 : Value) (j : Nat) :
    (j < m → (if j = m then a0 else f j) = f j) ∧ (m ≤ j → j < m + 1 → some (if j = m then a0 else f j) = [a0][j - m]?) := by
  refine ⟨fun h => by repeat rw [if_neg (by omega)], fun h1 h2 => ?_⟩
  obtain ⟨r, rfl⟩ : ∃ r, j = m + r := ⟨j - m, by omega⟩
  have hr : r < 1 := by omega
  rw [Nat.add_sub_cancel_left]
  clear h1 h2
  match r, hr with
  | 0, _ => simp

theorem upd2 (m : Nat) (f : Nat → Value) (a0 a1 : Value) (j : Nat) :
    (j < m → (if j = m + 1 then a1 else if j = m then a0 else f j) = f j) ∧ (m ≤ j → j < m + 2 → some (if j = m + 1 then a1 else if j = m then a0 else f j) = [a0, a1][j - m]?) := by
  refine ⟨fun h => by repeat rw [if_neg (by omega)], fun h1 h2 => ?_⟩
  obtain ⟨r, rfl⟩ : ∃ r, j = m + r := ⟨j - m, by omega⟩
  have hr : r < 2 := by omega
  rw [Nat.add_sub_cancel_left]
  clear h1 h2
  match r, hr with
  | 0, _ => simp
  | 1, _ => simp

theorem upd3 (m : Nat) (f : Nat → Value) (a0 a1 a2 : Value) (j : Nat) :
    (j < m → (if j = m + 2 then a2 else if j = m + 1 then a1 else if j = m then a0 else f j) = f j) ∧ (m ≤ j → j < m + 3 → some (if j = m + 2 then a2 else if j = m + 1 then a1 else if j = m then a0 else f j) = [a0, a1, a2][j - m]?) := by
  refine ⟨fun h => by repeat rw [if_neg (by omega)], fun h1 h2 => ?_⟩
  obtain ⟨r, rfl⟩ : ∃ r, j = m + r := ⟨j - m, by omega⟩
  have hr : r < 3 := by omega
  rw [Nat.add_sub_cancel_left]
  clear h1 h2
  match r, hr with
  | 0, _ => simp
  | 1, _ => simp
  | 2, _ => simp

theorem upd4 (m : Nat) (f : Nat → Value) (a0 a1 a2 a3 : Value) (j : Nat) :
    (j < m → (if j = m + 3 then a3 else if j = m + 2 then a2 else if j = m + 1 then a1 else if j = m then a0 else f j) = f j) ∧ (m ≤ j → j < m + 4 → some (if j = m + 3 then a3 else if j = m + 2 then a2 else if j = m + 1 then a1 else if j = m then a0 else f j) = [a0, a1, a2, a3][j - m]?) := by
  refine ⟨fun h => by repeat rw [if_neg (by omega)], fun h1 h2 => ?_⟩
  obtain ⟨r, rfl⟩ : ∃ r, j = m + r := ⟨j - m, by omega⟩
  have hr : r < 4 := by omega
  rw [Nat.add_sub_cancel_left]
  clear h1 h2
  match r, hr with
  | 0, _ => simp
  | 1, _ => simp
  | 2, _ => simp
  | 3, _ => simp

theorem upd5 (m : Nat) (f : Nat → Value) (a0 a1 a2 a3 a4 : Value) (j : Nat) :
    (j < m → (if j = m + 4 then a4 else if j = m + 3 then a3 else if j = m + 2 then a2 else if j = m + 1 then a1 else if j = m then a0 else f j) = f j) ∧ (m ≤ j → j < m + 5 → some (if j = m + 4 then a4 else if j = m + 3 then a3 else if j = m + 2 then a2 else if j = m + 1 then a1 else if j = m then a0 else f j) = [a0, a1, a2, a3, a4][j - m]?) := by
  refine ⟨fun h => by repeat rw [if_neg (by omega)], fun h1 h2 => ?_⟩
  obtain ⟨r, rfl⟩ : ∃ r, j = m + r := ⟨j - m, by omega⟩
  have hr : r < 5 := by omega
  rw [Nat.add_sub_cancel_left]
  clear h1 h2
  match r, hr with
  | 0, _ => simp
  | 1, _ => simp
  | 2, _ => simp
  | 3, _ => simp
  | 4, _ => simp

theorem upd6 (m : Nat) (f : Nat → Value) (a0 a1 a2 a3 a4 a5 : Value) (j : Nat) :
    (j < m → (if j = m + 5 then a5 else if j = m + 4 then a4 else if j = m + 3 then a3 else if j = m + 2 then a2 else if j = m + 1 then a1 else if j = m then a0 else f j) = f j) ∧ (m ≤ j → j < m + 6 → some (if j = m + 5 then a5 else if j = m + 4 then a4 else if j = m + 3 then a3 else if j = m + 2 then a2 else if j = m + 1 then a1 else if j = m then a0 else f j) = [a0, a1, a2, a3, a4, a5][j - m]?) := by
  refine ⟨fun h => by repeat rw [if_neg (by omega)], fun h1 h2 => ?_⟩
  obtain ⟨r, rfl⟩ : ∃ r, j = m + r := ⟨j - m, by omega⟩
  have hr : r < 6 := by omega
  rw [Nat.add_sub_cancel_left]
  clear h1 h2
  match r, hr with
  | 0, _ => simp
  | 1, _ => simp
  | 2, _ => simp
  | 3, _ => simp
  | 4, _ => simp
  | 5, _ => simp

theorem upd7 (m : Nat) (f : Nat → Value) (a0 a1 a2 a3 a4 a5 a6 : Value) (j : Nat) :
    (j < m → (if j = m + 6 then a6 else if j = m + 5 then a5 else if j = m + 4 then a4 else if j = m + 3 then a3 else if j = m + 2 then a2 else if j = m + 1 then a1 else if j = m then a0 else f j) = f j) ∧ (m ≤ j → j < m + 7 → some (if j = m + 6 then a6 else if j = m + 5 then a5 else if j = m + 4 then a4 else if j = m + 3 then a3 else if j = m + 2 then a2 else if j = m + 1 then a1 else if j = m then a0 else f j) = [a0, a1, a2, a3, a4, a5, a6][j - m]?) := by
  refine ⟨fun h => by repeat rw [if_neg (by omega)], fun h1 h2 => ?_⟩
  obtain ⟨r, rfl⟩ : ∃ r, j = m + r := ⟨j - m, by omega⟩
  have hr : r < 7 := by omega
  rw [Nat.add_sub_cancel_left]
  clear h1 h2
  match r, hr with
  | 0, _ => simp
  | 1, _ => simp
  | 2, _ => simp
  | 3, _ => simp
  | 4, _ => simp
  | 5, _ => simp
  | 6, _ => simp

theorem upd8 (m : Nat) (f : Nat → Value) (a0 a1 a2 a3 a4 a5 a6 a7 : Value) (j : Nat) :
    (j < m → (if j = m + 7 then a7 else if j = m + 6 then a6 else if j = m + 5 then a5 else if j = m + 4 then a4 else if j = m + 3 then a3 else if j = m + 2 then a2 else if j = m + 1 then a1 else if j = m then a0 else f j) = f j) ∧ (m ≤ j → j < m + 8 → some (if j = m + 7 then a7 else if j = m + 6 then a6 else if j = m + 5 then a5 else if j = m + 4 then a4 else if j = m + 3 then a3 else if j = m + 2 then a2 else if j = m + 1 then a1 else if j = m then a0 else f j) = [a0, a1, a2, a3, a4, a5, a6, a7][j - m]?) := by
  refine ⟨fun h => by repeat rw [if_neg (by omega)], fun h1 h2 => ?_⟩
  obtain ⟨r, rfl⟩ : ∃ r, j = m + r := ⟨j - m, by omega⟩
  have hr : r < 8 := by omega
  rw [Nat.add_sub_cancel_left]
  clear h1 h2
  match r, hr with
  | 0, _ => simp
  | 1, _ => simp
  | 2, _ => simp
  | 3, _ => simp
  | 4, _ => simp
  | 5, _ => simp
  | 6, _ => simp
  | 7, _ => simp

theorem upd9 (m : Nat) (f : Nat → Value) (a0 a1 a2 a3 a4 a5 a6 a7 a8 : Value) (j : Nat) :
    (j < m → (if j = m + 8 then a8 else if j = m + 7 then a7 else if j = m + 6 then a6 else if j = m + 5 then a5 else if j = m + 4 then a4 else if j = m + 3 then a3 else if j = m + 2 then a2 else if j = m + 1 then a1 else if j = m then a0 else f j) = f j) ∧ (m ≤ j → j < m + 9 → some (if j = m + 8 then a8 else if j = m + 7 then a7 else if j = m + 6 then a6 else if j = m + 5 then a5 else if j = m + 4 then a4 else if j = m + 3 then a3 else if j = m + 2 then a2 else if j = m + 1 then a1 else if j = m then a0 else f j) = [a0, a1, a2, a3, a4, a5, a6, a7, a8][j - m]?) := by
  refine ⟨fun h => by repeat rw [if_neg (by omega)], fun h1 h2 => ?_⟩
  obtain ⟨r, rfl⟩ : ∃ r, j = m + r := ⟨j - m, by omega⟩
  have hr : r < 9 := by omega
  rw [Nat.add_sub_cancel_left]
  clear h1 h2
  match r, hr with
  | 0, _ => simp
  | 1, _ => simp
  | 2, _ => simp
  | 3, _ => simp
  | 4, _ => simp
  | 5, _ => simp
  | 6, _ => simp
  | 7, _ => simp
  | 8, _ => simp

end Go.Proofs.YtpabbehpkokhbaaDoor
