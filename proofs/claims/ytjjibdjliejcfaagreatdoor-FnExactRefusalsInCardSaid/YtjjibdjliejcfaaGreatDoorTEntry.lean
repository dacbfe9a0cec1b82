/- Entry: its reading, and the laws' helpers. -/
import Derived.Test.YtjjibdjliejcfaaGreatDoorChecked
import Derived.Test.YtjjibdjliejcfaaGreatDoorOpen
import Derived.Test.YtjjibdjliejcfaaGreatDoorMarkT
namespace Go.Proofs.YtjjibdjliejcfaaGreatDoor
open Go.RowKit Go.WideShapes Go.ChangeShapes
structure Ent where
  second : Int
  who : ByteArray
  what : ByteArray
deriving DecidableEq

def Ent.cells (x : Ent) : List Value := [.int .i64 x.second, .string x.who, .string x.what]
abbrev Ents := Sl 3 Ent.cells
theorem Ent.len (x : Ent) : x.cells.length = 3 := rfl
theorem Ents.at {w : World} {b off : Nat} {l : List Ent} (hc : ∀ i (h : i < l.length) j u, (Ent.cells l[i])[j]? = some u → w.cell? ⟨b, off + i * 3 + j, none⟩ = some u) {k : Nat} (hk : k < l.length) :
    w.cell? ⟨b, off + k * 3, none⟩ = some (.int .i64 l[k].second) ∧ w.cell? ⟨b, off + k * 3 + 1, none⟩ = some (.string l[k].who) ∧ w.cell? ⟨b, off + k * 3 + 2, none⟩ = some (.string l[k].what) :=
  ⟨hc k hk 0 _ rfl, hc k hk 1 _ rfl, hc k hk 2 _ rfl⟩
def Ent.wf (x : Ent) : Prop := I64 x.second ∧ x.who.size ≤ maxLen ∧ x.what.size ≤ maxLen
instance : Inhabited Ent := ⟨⟨0, ByteArray.empty, ByteArray.empty⟩⟩
theorem cellsOf_Entry : Tryz.prog.cellsOf 44 = 3 := by kernel_rfl
theorem cellsOf_Entry_int : Tryz.prog.cellsOf 2 = 1 := by kernel_rfl
theorem cellsOf_Entry_str : Tryz.prog.cellsOf 9 = 1 := by kernel_rfl
theorem open_Entry {H : Type} {enc : TypeId × Value → H} {W : World} {base : Nat} {spare : Nat → Bool} {held : Bool} (fuel : Nat) (cs : List Value) (y : DataW H × List MemPlace) (hy : DataW.trod enc Tryz.prog W base spare held fuel 44 cs = some y) :
    ∃ x : Ent, cs = x.cells ∧ x.wf := by
  obtain ⟨xs, n, rfl, rfl, hl, hxs, hf⟩ := DataW.trod_struct Tryz.underlying44 hy
  rw [cellsOf_Entry] at hl
  have hxs' : xs.length = 3 := hxs
  obtain ⟨x0, e0, w0⟩ := field_int (m := 0) (i := 0) (by omega) Tryz.underlying2 cellsOf_Entry_int (hf 0 _ rfl) rfl
  obtain ⟨x1, e1, w1⟩ := field_string (m := 1) (i := 1) (by omega) Tryz.underlying9 cellsOf_Entry_str (hf 1 _ rfl) rfl
  obtain ⟨x2, e2, w2⟩ := field_string (m := 2) (i := 2) (by omega) Tryz.underlying9 cellsOf_Entry_str (hf 2 _ rfl) rfl
  refine ⟨⟨x0, x1, x2⟩, ?_, i64_of_wf w0, w1, w2⟩
  refine List.ext_getElem? fun i => ?_
  match i with
  | 0 => exact e0
  | 1 => exact e1
  | 2 => exact e2
  | i + 3 => rw [List.getElem?_eq_none (by omega), List.getElem?_eq_none (by simp [Ent.cells])]
set_option maxRecDepth 100000 in
theorem open_AEntry {H : Type} {enc : TypeId × Value → H} {W : World} {base : Nat} {v : Value} {d : DataW H} {p : List MemPlace} (hv : Value.okWide Tryz.prog W .any base 44 v)
    (h : DataW.Trod enc Tryz.prog W 0 (fun _ => true) true 44 v d p) (_hlt : ∀ x ∈ p, x.block < W.heap.size) : ∃ x : Ent, v = .agg x.cells.toArray ∧ x.wf := by
  obtain ⟨cs, rfl, _⟩ := okWide_struct Tryz.underlying44 hv
  obtain ⟨fuel, hf⟩ := h
  obtain ⟨x, hx, hw⟩ := open_Entry fuel _ _ hf
  exact ⟨x, by rw [← hx]; simp [Value.cells], hw⟩
set_option maxHeartbeats 1000000 in
theorem law_toEntry (x : Ent) (w : World) :
    Calls Tryz.prog 28 #[.agg x.cells.toArray] w fun e w' => e = .returned (.agg x.cells.toArray) ∧ Below w.heap.size w w' := by
  obtain ⟨x0, x1, x2⟩ := x
  simp only [Ent.cells]
  go_enter Tryz.func28, Tryz.ntmps28
  go_wp2
  exact bodyPost_ret (v := .agg #[.int .i64 x0, .string x1, .string x2]) (by simp [results, Tryz.results28, go_sem]) rfl ⟨rfl, by
    refine (((Below.refl _ _).alloc (Nat.le_refl _) _).alloc (by simp) _).alloc (by simp; omega) _⟩
set_option maxHeartbeats 1000000 in
theorem law_eqEntry (x : Ent) (w : World) :
    Calls Tryz.prog 34 #[.agg x.cells.toArray, .agg x.cells.toArray] w fun e w' => e = .returned (.bool true) ∧ Below w.heap.size w w' := by
  obtain ⟨x0, x1, x2⟩ := x
  simp only [Ent.cells]
  go_enter Tryz.func34, Tryz.ntmps34
  go_wp2
  go_ret
  exact ⟨rfl, ((Below.refl _ _).alloc (Nat.le_refl _) _).alloc (by simp) _⟩
set_option maxHeartbeats 1000000 in
theorem law_eqEntryS (v v2 : Value) (l : List Ent) (lo hi lo2 hi2 : Nat) (w : World) (h : Ents lo hi w v l) (h2 : Ents lo2 hi2 w v2 l) :
    Calls Tryz.prog 12 #[v, v2] w fun e w' => e = .returned (.bool true) ∧ Below w.heap.size w w' := by
  have hsl := h
  have hsl2 := h2
  obtain ⟨a, cap, rfl, hlen, hh⟩ := h
  obtain ⟨a2, cap2, rfl, _, hh2⟩ := h2
  clear hh hh2
  go_enter Tryz.func12, Tryz.ntmps12
  go_wp2
  go_loopw [5] (fun i wr => ∃ k : Nat, k ≤ l.length ∧ i = .int .i64 k ∧ Below w.heap.size w wr) (fun i _ => l.length - (intOf i).toNat)
  case atStart => exact ⟨0, Nat.zero_le _, rfl, Below.refl _ _⟩
  case round =>
    obtain ⟨k, hk, rfl, hB⟩ := hrel
    by_cases hlt : k < l.length
    · skip
      obtain ⟨a', cap', hv, _, hh⟩ := hsl.ext hB
      cases hv
      obtain ⟨b, off, rfl, _, _, hc⟩ := hh (by omega)
      obtain ⟨c0, c1, c2⟩ := Ents.at hc hlt
      obtain ⟨a', cap', hv, _, hh2⟩ := hsl2.ext hB
      cases hv
      obtain ⟨b2, off2, rfl, _, _, hc2⟩ := hh2 (by omega)
      obtain ⟨d0, d1, d2⟩ := Ents.at hc2 hlt
      clear hc hh hsl hc2 hh2 hsl2
      generalize l[k] = x at *
      go_wp2_with fail
      have hb0 := World.block_lt_of_cell? wr _ c0
      have hb2 := World.block_lt_of_cell? wr _ d0
      go_region_held3 (fun w' => (∀ b o, b < wr.heap.size → w'.cell? ⟨b, o, none⟩ = wr.cell? ⟨b, o, none⟩) ∧ Below wr.heap.size wr w') (first | exact held0 _ | exact heldS (w1 := wr.drew) (Below.refl _ _).drew (by assumption)) (first | (go_at_call 34; refine (law_eqEntry x _).mono ?_; rintro e w1 ⟨rfl, hb1⟩))
      go_wp2
      go_roundw
      case rel => exact ⟨k + 1, by omega, by go_num, hB.drew.trans (hb1.mono hB.size)⟩
      case measure => simp [intOf]; omega
    · go_wp2
      go_ret
      exact ⟨rfl, hB⟩
def Ent.cost (x : Ent) : Int := (x.who.size : Int) + (x.what.size : Int)
set_option maxHeartbeats 1000000 in
theorem law_szEntry (x : Ent) (n : Int) (w : World) (hwf : x.wf) (h0 : 0 ≤ n) (hn : n ≤ 1048576) :
    Calls Tryz.prog 26 #[.agg x.cells.toArray, .int .i64 n] w fun e w' => e = .returned (.int .i64 (szRes n x.cost)) ∧ Below w.heap.size w w' := by
  by_cases hc : n < x.cost
  · rw [szRes_lt hc]
    have Hc := Lib.hid hc
    obtain ⟨x0, x1, x2⟩ := x
    simp only [Ent.wf, maxLen] at hwf
    simp only [Ent.cost] at hc
    simp only [Ent.cells]
    clear Hc
    by_cases hc1 : n < (x1.size : Int)
    · go_enter Tryz.func26, Tryz.ntmps26
      go_wp2
      go_ret
      exact ⟨rfl, (Below.refl _ _).alloc (Nat.le_refl _) _⟩
    · go_enter Tryz.func26, Tryz.ntmps26
      go_wp2
      go_ret
      exact ⟨rfl, (Below.refl _ _).alloc (Nat.le_refl _) _⟩
  · rw [szRes_ge hc]
    have Hc : Hid (x.cost = x.cost) := Lib.hid rfl
    generalize hr : n - x.cost = r
    obtain ⟨x0, x1, x2⟩ := x
    simp only [Ent.wf, maxLen] at hwf
    simp only [Ent.cost] at hc
    simp only [Ent.cells]
    clear Hc
    simp only [Ent.cost] at hr
    have Hr := Lib.hid hr
    clear hr
    go_enter Tryz.func26, Tryz.ntmps26
    go_wp2
    go_ret
    exact ⟨ret_int (by have := Hr.out; omega), (Below.refl _ _).alloc (Nat.le_refl _) _⟩
def markEnt (k : Nat) : Ent := ⟨((k : Nat) : Int), markB (k + 1), markB (k + 2)⟩
def marksEnt (n k : Nat) : List Ent := (List.range n).map fun i => markEnt (k + i * 3)
theorem marksEnt_len (n k : Nat) : (marksEnt n k).length = n := by simp [marksEnt]
theorem marksEnt_get {n k i : Nat} (h : i < (marksEnt n k).length) : (marksEnt n k)[i] = markEnt (k + i * 3) := by simp [marksEnt]
theorem marksEnt_row {n k i : Nat} (h : i < n) : (marksEnt n k)[i]? = some (markEnt (k + i * 3)) := by simp [marksEnt, h]
set_option maxRecDepth 100000 in
set_option maxHeartbeats 2000000 in
theorem law_markEntryS (v : Value) (l : List Ent) (lo hi k : Nat) (w : World) (h : Slw 3 Ent.cells lo hi w v l) (hhi : hi ≤ w.heap.size) (hk : 1 ≤ k) (hkb : k + l.length * 3 ≤ 1099511627776) :
    Calls Tryz.prog 15 #[v, .int .i64 k] w fun e w' => e = .returned (.int .i64 ((k + l.length * 3 : Nat) : Int)) ∧ Slw 3 Ent.cells lo hi w' v (marksEnt l.length k) ∧ Mod lo hi w w' := by
  by_cases h0 : 0 < l.length
  · obtain ⟨b, off, cap, rfl, hcap, hraw⟩ := Raw.of h Ent.len h0
    have hlen : l.length ≤ 1099511627776 := by omega
    have Hr0 := Lib.hid hraw
    have hlo := hraw.lo
    have hhb := hraw.hi
    clear hraw h
    go_enter Tryz.func15, Tryz.ntmps15
    go_wp2
    go_loopw [1, 5] (fun s i wr => ∃ j : Nat, j ≤ l.length ∧ i = .int .i64 j ∧ s = .int .i64 ((k : Int) + j * 3) ∧ Mod lo hi w wr ∧ ∃ rows, Hid (rows.length = l.length) ∧ Hid (Raw 3 lo hi wr b off rows) ∧ Hid (∀ i, i < j → rows[i]? = some (Ent.cells (markEnt (k + i * 3))))) (fun _ i _ => l.length - (intOf i).toNat)
    case atStart => exact ⟨0, Nat.zero_le _, rfl, by go_num, Mod.refl _ _ _, _, Lib.hid (by simp), Hr0, Lib.hid (fun i hi => absurd hi (by omega))⟩
    case round =>
      obtain ⟨j, hj, rfl, rfl, hM, rows, hrl, hrw, hdone⟩ := hrel
      by_cases hlt : j < l.length
      · have hjr : j < rows.length := by rw [hrl.out]; exact hlt
        have hRaw := hrw.out.self hjr
        obtain ⟨r0, r1, r2, hrow⟩ : ∃ r0 r1 r2, rows[j] = [r0, r1, r2] := by
          have h4 := hrw.out.len j hjr
          match rows[j], h4 with
          | [r0, r1, r2], _ => exact ⟨_, _, _, rfl⟩
        rw [hrow] at hRaw
        have hMs := hM.size
        clear hrow Hr0
        have c0 := hRaw.cell j (by simpa using hjr) 0 (r0) (by simp)
        have c1 := hRaw.cell j (by simpa using hjr) 1 (r1) (by simp)
        have c2 := hRaw.cell j (by simpa using hjr) 2 (r2) (by simp)
        simp only [Nat.add_zero] at c0
        have cz := hRaw.free
        have HR := Lib.hid hRaw
        clear hRaw
        go_wp2_with fail
        have hMid := trivial
        rw [show ((k : Int) + (j : Int) * 3 + 1) = ((k + j * 3 + 1 : Nat) : Int) from by omega]
        refine (law_markText (k + j * 3 + 1) _ (by omega) (by omega)).mono ?_
        rintro e w1 ⟨rfl, hb1⟩
        have hRaw := ((HR.out.store (j := 0) hjr (by omega) (by omega))).ext (by first | omega | (simp; omega)) hb1
        have hM := ((hM.setCell hlo hhb _)).then hb1
        clear HR cz c0 c1 c2
        try simp only [List.set_cons_zero] at hRaw
        have c0 := hRaw.cell j (by simpa using hjr) 0 _ (by simp; rfl)
        have c1 := hRaw.cell j (by simpa using hjr) 1 (r1) (by simp)
        have c2 := hRaw.cell j (by simpa using hjr) 2 (r2) (by simp)
        simp only [Nat.add_zero] at c0
        have cz := hRaw.free
        have HR := Lib.hid hRaw
        clear hRaw
        have hMs := hM.size
        go_wp2_with fail
        have hMid := trivial
        rw [show ((k : Int) + (j : Int) * 3 + 1 + 1) = ((k + j * 3 + 2 : Nat) : Int) from by omega]
        refine (law_markText (k + j * 3 + 2) _ (by omega) (by omega)).mono ?_
        rintro e w2 ⟨rfl, hb2⟩
        have hRaw := ((HR.out.store (j := 1) hjr (by omega) (by omega))).ext (by first | omega | (simp; omega)) hb2
        have hM := ((hM.setCell hlo hhb _)).then hb2
        clear HR cz c0 c1 c2
        try simp only [List.set_cons_zero, List.set_cons_succ] at hRaw
        have c0 := hRaw.cell j (by simpa using hjr) 0 _ (by simp; rfl)
        have c1 := hRaw.cell j (by simpa using hjr) 1 _ (by simp; rfl)
        have c2 := hRaw.cell j (by simpa using hjr) 2 (r2) (by simp)
        simp only [Nat.add_zero] at c0
        have cz := hRaw.free
        have HR := Lib.hid hRaw
        clear hRaw
        have hMs := hM.size
        go_wp2
        go_roundw
        case rel =>
          refine ⟨j + 1, by omega, by go_num, by go_num, (hM.setCell hlo hhb _), _, Lib.hid (by rw [List.length_set]; exact hrl.out), Lib.hid (HR.out.store (j := 2) hjr (by omega) (by omega)), Lib.hid ?_⟩
          intro i hi
          rw [List.getElem?_set]
          by_cases hij : j = i
          · subst hij
            rw [if_pos rfl, if_pos hjr]
            simp only [List.set_cons_zero, List.set_cons_succ, Ent.cells, markEnt]
            congr
            all_goals first | rfl | omega | (rw [Bool.eq_iff_iff]; simp; omega) | skip
          · rw [if_neg hij]
            exact hdone.out i (by omega)
        case measure => simp [intOf]; omega
      · have : j = l.length := by omega
        subst this
        have Hfin : Hid (Slw 3 Ent.cells lo hi wr (.slice (some ⟨b, off, none⟩) l.length cap) (marksEnt l.length k)) := Lib.hid (hrw.out.back _ (fun i hi => by
          rw [marksEnt_get hi]; exact hdone.out i (by rw [marksEnt_len] at hi; exact hi)) (by rw [marksEnt_len]) (by rw [marksEnt_len]; exact hcap))
        go_wp2
        go_ret
        exact ⟨ret_int (by omega), Hfin.out, hM⟩
  · have he : l = [] := by cases l with | nil => rfl | cons x r => simp at h0
    subst he
    have hS := Lib.hid h
    obtain ⟨⟨a, cap, rfl, hlen, hh⟩, hz⟩ := h
    clear hh hz
    go_enter Tryz.func15, Tryz.ntmps15
    go_wp2
    go_loopw [1, 5] (fun s i wr => i = .int .i64 0 ∧ s = .int .i64 k ∧ wr = w) (fun _ i _ => 0)
    case atStart => exact ⟨rfl, rfl, rfl⟩
    case round =>
      obtain ⟨rfl, rfl, rfl⟩ := hrel
      go_wp2
      go_ret
      exact ⟨ret_int (by simp), hS.out, Mod.refl _ _ _⟩
set_option maxRecDepth 100000 in
set_option maxHeartbeats 2000000 in
theorem law_heldEntryS (v : Value) (lo hi m k : Nat) (w : World) (h : Ents lo hi w v (marksEnt m k)) (hk : 1 ≤ k) (hkb : k + m * 3 ≤ 1099511627776) :
    Calls Tryz.prog 16 #[v, .int .i64 k] w fun e w' => e = .returned (.int .i64 ((k + m * 3 : Nat) : Int)) ∧ Below w.heap.size w w' := by
  have hsl := h
  obtain ⟨a, cap, rfl, hlen, hh⟩ := h
  clear hh
  have hml := marksEnt_len m k
  rw [hml]
  have Hml := Lib.hid hml
  clear hml hlen
  have hmb : m ≤ 1099511627776 := by omega
  go_enter Tryz.func16, Tryz.ntmps16
  go_wp2
  go_loopw [1, 5] (fun s i wr => ∃ j : Nat, j ≤ m ∧ i = .int .i64 j ∧ s = .int .i64 ((k : Int) + j * 3) ∧ Below w.heap.size w wr) (fun _ i _ => m - (intOf i).toNat)
  case atStart => exact ⟨0, Nat.zero_le _, rfl, by go_num, Below.refl _ _⟩
  case round =>
    obtain ⟨j, hj, rfl, rfl, hB⟩ := hrel
    by_cases hlt : j < m
    · have hlt2 : j < (marksEnt m k).length := by rw [Hml.out]; exact hlt
      obtain ⟨a', cap', hv, _, hh⟩ := hsl.ext hB
      cases hv
      obtain ⟨b, off, rfl, _, _, hc⟩ := hh (by omega)
      obtain ⟨c0, c1, c2⟩ := Ents.at hc hlt2
      clear hc hh hsl
      simp only [marksEnt_get, markEnt] at c0 c1 c2
      have hb0 := World.block_lt_of_cell? wr _ c0
      have hBs := hB.size
      have q0 : (((k + j * 3 : Nat) : Int)) = (k : Int) + (j : Int) * 3 := by omega
      rw [q0] at c0
      clear q0
      have z1 : ((k : Int) + (j : Int) * 3 + 1).toNat = k + j * 3 + 1 := by omega
      go_wp2_with fail
      go_region_held3 (fun w' => (∀ b o, b < wr.heap.size → w'.cell? ⟨b, o, none⟩ = wr.cell? ⟨b, o, none⟩) ∧ Below wr.heap.size wr w') (first | exact held0 _ | exact heldS (w1 := wr.drew) (Below.refl _ _).drew (by assumption))
        (first | (go_at_call 36; refine (law_markTextI _ _ (by omega) (by omega)).mono ?_; rintro e w1 ⟨rfl, hb1⟩))
      have hB1 := (Below.refl wr.heap.size wr).drew.trans hb1
      clear hb1
      have d0 := (hB1.cell (p := ⟨b, off + j * 3, none⟩) hb0).trans c0
      clear c0
      have c0 := d0
      clear d0
      have d1 := (hB1.cell (p := ⟨b, off + j * 3 + 1, none⟩) hb0).trans c1
      clear c1
      have c1 := d1
      clear d1
      have d2 := (hB1.cell (p := ⟨b, off + j * 3 + 2, none⟩) hb0).trans c2
      clear c2
      have c2 := d2
      clear d2
      have hb0' := Nat.lt_of_lt_of_le hb0 hB1.size
      clear hb0
      have hb0 := hb0'
      clear hb0'
      have hBn := hB.trans (hB1.mono hBs)
      clear hB hBs
      have hB := hBn
      have hBs := hB.size
      clear hBn
      have z2 : ((k : Int) + (j : Int) * 3 + 2).toNat = k + j * 3 + 2 := by omega
      have zz2 : ((k : Int) + (j : Int) * 3 + 1 + 1).toNat = k + j * 3 + 2 := by omega
      go_wp2_with fail
      go_region_held3 (fun w' => (∀ b o, b < w1.heap.size → w'.cell? ⟨b, o, none⟩ = w1.cell? ⟨b, o, none⟩) ∧ Below w1.heap.size w1 w') (first | exact held0 _ | exact heldS (w1 := w1.drew) (Below.refl _ _).drew (by assumption))
        (first | (go_at_call 36; refine (law_markTextI _ _ (by omega) (by omega)).mono ?_; rintro e w2 ⟨rfl, hb2⟩))
      have hB2 := (Below.refl w1.heap.size w1).drew.trans hb2
      clear hb2
      have d0 := (hB2.cell (p := ⟨b, off + j * 3, none⟩) hb0).trans c0
      clear c0
      have c0 := d0
      clear d0
      have d1 := (hB2.cell (p := ⟨b, off + j * 3 + 1, none⟩) hb0).trans c1
      clear c1
      have c1 := d1
      clear d1
      have d2 := (hB2.cell (p := ⟨b, off + j * 3 + 2, none⟩) hb0).trans c2
      clear c2
      have c2 := d2
      clear d2
      have hb0' := Nat.lt_of_lt_of_le hb0 hB2.size
      clear hb0
      have hb0 := hb0'
      clear hb0'
      have hBn := hB.trans (hB2.mono hBs)
      clear hB hBs
      have hB := hBn
      have hBs := hB.size
      clear hBn
      go_wp2
      go_roundw
      case rel => exact ⟨j + 1, by omega, by go_num, by go_num, hB⟩
      case measure => simp [intOf]; omega
    · have : j = m := by omega
      subst this
      go_wp2
      go_ret
      exact ⟨ret_int (by omega), hB⟩
end Go.Proofs.YtjjibdjliejcfaaGreatDoor
