/- Check: its reading, and the laws' helpers. -/
import Derived.Test.YtimggihbldeleaaDoorChecked
import Derived.Test.YtimggihbldeleaaDoorOpen
import Derived.Test.YtimggihbldeleaaDoorMarkT
namespace Go.Proofs.YtimggihbldeleaaDoor
open Go.RowKit Go.WideShapes Go.ChangeShapes
structure Chk where
  crane : Int
  name : ByteArray
  every : Int
  last : Int
deriving DecidableEq

def Chk.cells (x : Chk) : List Value := [.int .i64 x.crane, .string x.name, .int .i64 x.every, .int .i64 x.last]
abbrev Chks := Sl 4 Chk.cells
theorem Chk.len (x : Chk) : x.cells.length = 4 := rfl
theorem Chks.at {w : World} {b off : Nat} {l : List Chk} (hc : ∀ i (h : i < l.length) j u, (Chk.cells l[i])[j]? = some u → w.cell? ⟨b, off + i * 4 + j, none⟩ = some u) {k : Nat} (hk : k < l.length) :
    w.cell? ⟨b, off + k * 4, none⟩ = some (.int .i64 l[k].crane) ∧ w.cell? ⟨b, off + k * 4 + 1, none⟩ = some (.string l[k].name) ∧ w.cell? ⟨b, off + k * 4 + 2, none⟩ = some (.int .i64 l[k].every) ∧ w.cell? ⟨b, off + k * 4 + 3, none⟩ = some (.int .i64 l[k].last) :=
  ⟨hc k hk 0 _ rfl, hc k hk 1 _ rfl, hc k hk 2 _ rfl, hc k hk 3 _ rfl⟩
def Chk.wf (x : Chk) : Prop := I64 x.crane ∧ x.name.size ≤ maxLen ∧ I64 x.every ∧ I64 x.last
instance : Inhabited Chk := ⟨⟨0, ByteArray.empty, 0, 0⟩⟩
theorem cellsOf_Check : Tryd.prog.cellsOf 53 = 4 := by kernel_rfl
theorem cellsOf_Check_int : Tryd.prog.cellsOf 2 = 1 := by kernel_rfl
theorem cellsOf_Check_str : Tryd.prog.cellsOf 9 = 1 := by kernel_rfl
theorem open_Check {H : Type} {enc : TypeId × Value → H} {W : World} {base : Nat} {spare : Nat → Bool} {held : Bool} (fuel : Nat) (cs : List Value) (y : DataW H × List MemPlace) (hy : DataW.trod enc Tryd.prog W base spare held fuel 53 cs = some y) :
    ∃ x : Chk, cs = x.cells ∧ x.wf := by
  obtain ⟨xs, n, rfl, rfl, hl, hxs, hf⟩ := DataW.trod_struct Tryd.underlying53 hy
  rw [cellsOf_Check] at hl
  have hxs' : xs.length = 4 := hxs
  obtain ⟨x0, e0, w0⟩ := field_int (m := 0) (i := 0) (by omega) Tryd.underlying2 cellsOf_Check_int (hf 0 _ rfl) rfl
  obtain ⟨x1, e1, w1⟩ := field_string (m := 1) (i := 1) (by omega) Tryd.underlying9 cellsOf_Check_str (hf 1 _ rfl) rfl
  obtain ⟨x2, e2, w2⟩ := field_int (m := 2) (i := 2) (by omega) Tryd.underlying2 cellsOf_Check_int (hf 2 _ rfl) rfl
  obtain ⟨x3, e3, w3⟩ := field_int (m := 3) (i := 3) (by omega) Tryd.underlying2 cellsOf_Check_int (hf 3 _ rfl) rfl
  refine ⟨⟨x0, x1, x2, x3⟩, ?_, i64_of_wf w0, w1, i64_of_wf w2, i64_of_wf w3⟩
  refine List.ext_getElem? fun i => ?_
  match i with
  | 0 => exact e0
  | 1 => exact e1
  | 2 => exact e2
  | 3 => exact e3
  | i + 4 => rw [List.getElem?_eq_none (by omega), List.getElem?_eq_none (by simp [Chk.cells])]
set_option maxRecDepth 100000 in
theorem open_SCheck {H : Type} {enc : TypeId × Value → H} {W : World} {base : Nat} {v : Value} {d : DataW H} {p : List MemPlace} (hv : Value.okWide Tryd.prog W .any base 22 v)
    (h : DataW.Trod enc Tryd.prog W 0 (fun _ => true) true 22 v d p) (_hlt : ∀ x ∈ p, x.block < W.heap.size) : ∃ l : List Chk, Chks 0 W.heap.size W v l ∧ ∀ x ∈ l, x.wf :=
  open_list Tryd.underlying22 cellsOf_Check (by omega) open_Check h (okWide_slice Tryd.underlying22 hv)
set_option maxHeartbeats 1000000 in
theorem law_toCheck (x : Chk) (w : World) :
    Calls Tryd.prog 32 #[.agg x.cells.toArray] w fun e w' => e = .returned (.agg x.cells.toArray) ∧ Below w.heap.size w w' := by
  obtain ⟨x0, x1, x2, x3⟩ := x
  simp only [Chk.cells]
  go_enter Tryd.func32, Tryd.ntmps32
  go_wp2
  exact bodyPost_ret (v := .agg #[.int .i64 x0, .string x1, .int .i64 x2, .int .i64 x3]) (by simp [results, Tryd.results32, go_sem]) rfl ⟨rfl, by
    refine (((Below.refl _ _).alloc (Nat.le_refl _) _).alloc (by simp) _).alloc (by simp; omega) _⟩
set_option maxHeartbeats 1000000 in
theorem law_eqCheck (x : Chk) (w : World) :
    Calls Tryd.prog 37 #[.agg x.cells.toArray, .agg x.cells.toArray] w fun e w' => e = .returned (.bool true) ∧ Below w.heap.size w w' := by
  obtain ⟨x0, x1, x2, x3⟩ := x
  simp only [Chk.cells]
  go_enter Tryd.func37, Tryd.ntmps37
  go_wp2
  go_ret
  exact ⟨rfl, ((Below.refl _ _).alloc (Nat.le_refl _) _).alloc (by simp) _⟩
theorem info_Check : (Tryd.prog.info? 55).map (fun i => (i.zero.isSome, i.size, i.bytes)) = some (true, 4, 40) := by kernel_rfl
set_option maxHeartbeats 1000000 in
theorem law_toCheckS (v : Value) (l : List Chk) (lo hi : Nat) (w : World) (h : Chks lo hi w v l) (hn : l.length ≤ 1048576) :
    Calls Tryd.prog 10 #[v] w fun e w' => ∃ v', e = .returned v' ∧ Slw 4 Chk.cells w.heap.size w'.heap.size w' v' l ∧ Below w.heap.size w w' := by
  obtain ⟨cs, hmk, hcs⟩ := make_rows (P := Tryd.prog) 25 55 4 40 (by simp) info_Check l.length (by omega) (by omega) w
  obtain ⟨f0, hf0⟩ := rowIs_made (w := w) (t := 55) hcs
  have Hf0 := Lib.hid hf0
  clear hf0 hcs
  have hsl := h
  obtain ⟨a, cap, rfl, hlen, hh⟩ := h
  clear hh
  go_enter Tryd.func10, Tryd.ntmps10
  go_wp2
  go_loopw [4] (fun i wr => ∃ k : Nat, k ≤ l.length ∧ i = .int .i64 k ∧ Below w.heap.size w wr ∧ ∃ f, Hid (wr.rowIs w.heap.size 55 (l.length * 4) f) ∧ Fill 4 Chk.cells l k f) (fun i _ => l.length - (intOf i).toNat)
  case atStart => exact ⟨0, Nat.zero_le _, rfl, (Below.refl _ _).alloc (Nat.le_refl _) _, f0, Hf0, Fill.zero⟩
  case round =>
    obtain ⟨k, hk, rfl, hB, f, hf, hfill⟩ := hrel
    by_cases hlt : k < l.length
    · have hlt2 := hf.out.lt
      obtain ⟨a', cap', hv, _, hh⟩ := hsl.ext hB
      cases hv
      obtain ⟨b, off, rfl, _, _, hc⟩ := hh (by omega)
      obtain ⟨c0, c1, c2, c3⟩ := Chks.at hc hlt
      clear hc hh hsl hmk
      have Hg := Lib.hid (fun g => hfill.step hlt Chk.len (g := g))
      generalize l[k] = x at *
      go_wp2_with fail
      refine (law_toCheck x _).mono ?_
      rintro e w1 ⟨rfl, hb1⟩
      simp only [Chk.cells]
      have hr1 := hf.out.of_block (hb1.block _ hlt2)
      have d0 := hr1.cell (i := k * 4) (by omega)
      have d1 := hr1.cell (i := k * 4 + 1) (by omega)
      have d2 := hr1.cell (i := k * 4 + 2) (by omega)
      have d3 := hr1.cell (i := k * 4 + 3) (by omega)
      have e0 := hr1.frozen (k * 4)
      have e1 := hr1.frozen (k * 4 + 1)
      have e2 := hr1.frozen (k * 4 + 2)
      have e3 := hr1.frozen (k * 4 + 3)
      have Hr1 := Lib.hid hr1
      clear hr1
      go_wp2
      go_roundw
      case rel =>
        exact ⟨k + 1, by omega, by go_num, ((((hB.trans (hb1.mono (by omega))).setCell (Nat.le_refl _) _).setCell (Nat.le_refl _) _).setCell (Nat.le_refl _) _).setCell (Nat.le_refl _) _,
          _, Lib.hid (((((Hr1.out).set _ _).set _ _).set _ _).set _ _), Hg.out _ (upd4 _ _ _ _ _ _)⟩
      case measure => simp [intOf]; omega
    · have : k = l.length := by omega
      subst this
      go_wp2
      go_ret
      exact ⟨_, rfl, Slw.of_row hf.out hfill Chk.len (Nat.le_trans hlen.1 hlen.2) (Nat.le_refl _) hf.out.lt, hB⟩
set_option maxHeartbeats 1000000 in
theorem law_eqCheckS (v v2 : Value) (l : List Chk) (lo hi lo2 hi2 : Nat) (w : World) (h : Chks lo hi w v l) (h2 : Chks lo2 hi2 w v2 l) :
    Calls Tryd.prog 12 #[v, v2] w fun e w' => e = .returned (.bool true) ∧ Below w.heap.size w w' := by
  have hsl := h
  have hsl2 := h2
  obtain ⟨a, cap, rfl, hlen, hh⟩ := h
  obtain ⟨a2, cap2, rfl, _, hh2⟩ := h2
  clear hh hh2
  go_enter Tryd.func12, Tryd.ntmps12
  go_wp2
  go_loopw [5] (fun i wr => ∃ k : Nat, k ≤ l.length ∧ i = .int .i64 k ∧ Below w.heap.size w wr) (fun i _ => l.length - (intOf i).toNat)
  case atStart => exact ⟨0, Nat.zero_le _, rfl, Below.refl _ _⟩
  case round =>
    obtain ⟨k, hk, rfl, hB⟩ := hrel
    by_cases hlt : k < l.length
    · skip
      obtain ⟨a', cap', hv, _, hh⟩ := hsl.ext hB
      cases hv
      obtain ⟨b, off, rfl, _, _, hc⟩ := hh (by omega)
      obtain ⟨c0, c1, c2, c3⟩ := Chks.at hc hlt
      obtain ⟨a', cap', hv, _, hh2⟩ := hsl2.ext hB
      cases hv
      obtain ⟨b2, off2, rfl, _, _, hc2⟩ := hh2 (by omega)
      obtain ⟨d0, d1, d2, d3⟩ := Chks.at hc2 hlt
      clear hc hh hsl hc2 hh2 hsl2
      generalize l[k] = x at *
      go_wp2_with fail
      have hb0 := World.block_lt_of_cell? wr _ c0
      have hb2 := World.block_lt_of_cell? wr _ d0
      go_region_held3 (fun w' => (∀ b o, b < wr.heap.size → w'.cell? ⟨b, o, none⟩ = wr.cell? ⟨b, o, none⟩) ∧ Below wr.heap.size wr w') (first | exact held0 _ | exact heldS (w1 := wr.drew) (Below.refl _ _).drew (by assumption)) (first | (go_at_call 37; refine (law_eqCheck x _).mono ?_; rintro e w1 ⟨rfl, hb1⟩))
      go_wp2
      go_roundw
      case rel => exact ⟨k + 1, by omega, by go_num, hB.drew.trans (hb1.mono hB.size)⟩
      case measure => simp [intOf]; omega
    · go_wp2
      go_ret
      exact ⟨rfl, hB⟩
def Chk.cost (x : Chk) : Int := (x.name.size : Int)
def szChk (l : List Chk) : Int := l.length + sumOn Chk.cost l
theorem Chk.cost_nonneg (x : Chk) : 0 ≤ x.cost := by unfold Chk.cost; omega
theorem szChk_len (l : List Chk) : (l.length : Int) ≤ szChk l := by have := sumOn_nonneg Chk.cost_nonneg l; unfold szChk; omega
set_option maxHeartbeats 1000000 in
theorem law_szCheck (x : Chk) (n : Int) (w : World) (hwf : x.wf) (h0 : 0 ≤ n) (hn : n ≤ 1048576) :
    Calls Tryd.prog 29 #[.agg x.cells.toArray, .int .i64 n] w fun e w' => e = .returned (.int .i64 (szRes n x.cost)) ∧ Below w.heap.size w w' := by
  by_cases hc : n < x.cost
  · rw [szRes_lt hc]
    have Hc := Lib.hid hc
    obtain ⟨x0, x1, x2, x3⟩ := x
    simp only [Chk.wf, maxLen] at hwf
    simp only [Chk.cost] at hc
    simp only [Chk.cells]
    clear Hc
    go_enter Tryd.func29, Tryd.ntmps29
    go_wp2
    go_ret
    exact ⟨rfl, (Below.refl _ _).alloc (Nat.le_refl _) _⟩
  · rw [szRes_ge hc]
    have Hc : Hid (x.cost = x.cost) := Lib.hid rfl
    generalize hr : n - x.cost = r
    obtain ⟨x0, x1, x2, x3⟩ := x
    simp only [Chk.wf, maxLen] at hwf
    simp only [Chk.cost] at hc
    simp only [Chk.cells]
    clear Hc
    simp only [Chk.cost] at hr
    have Hr := Lib.hid hr
    clear hr
    go_enter Tryd.func29, Tryd.ntmps29
    go_wp2
    go_ret
    exact ⟨ret_int (by have := Hr.out; omega), (Below.refl _ _).alloc (Nat.le_refl _) _⟩
set_option maxHeartbeats 1000000 in
theorem law_szCheckS (v : Value) (l : List Chk) (lo hi : Nat) (n : Int) (w : World) (h : Chks lo hi w v l) (hwf : ∀ x ∈ l, x.wf) (h0 : 0 ≤ n) (hn : n ≤ 1048576) :
    Calls Tryd.prog 8 #[v, .int .i64 n] w fun e w' => e = .returned (.int .i64 (szRes n (szChk l))) ∧ Below w.heap.size w w' := by
  have hsl := h
  obtain ⟨a, cap, rfl, hlen, hh⟩ := h
  clear hh
  have Hwf := Lib.hid hwf
  clear hwf
  have hs0 := sumOn_nonneg Chk.cost_nonneg l
  by_cases hc : n < l.length
  · rw [szRes_lt (show n < szChk l by unfold szChk; omega)]
    go_enter Tryd.func8, Tryd.ntmps8
    go_wp2
    go_ret
    exact ⟨rfl, Below.refl _ _⟩
  · go_enter Tryd.func8, Tryd.ntmps8
    go_wp2
    go_loopw [1, 5] (fun r i wr => ∃ k : Nat, k ≤ l.length ∧ i = .int .i64 k ∧ ∃ m : Int, r = .int .i64 m ∧ 0 ≤ m ∧ m ≤ n ∧ Hid (m = n - l.length - sumOn Chk.cost (l.take k)) ∧ Below w.heap.size w wr) (fun _ i _ => l.length - (intOf i).toNat)
    case atStart => exact ⟨0, Nat.zero_le _, rfl, _, rfl, by omega, by omega, Lib.hid (by simp [sumOn]), Below.refl _ _⟩
    case round =>
      obtain ⟨k, hk, rfl, m, rfl, hm0, hmn, hm, hB⟩ := hrel
      by_cases hlt : k < l.length
      · skip
        obtain ⟨a', cap', hv, _, hh⟩ := hsl.ext hB
        cases hv
        obtain ⟨b, off, rfl, _, _, hc'⟩ := hh (by omega)
        obtain ⟨c0, c1, c2, c3⟩ := Chks.at hc' hlt
        clear hc' hh hsl
        have hst := sumOn_take_succ Chk.cost hlt
        have hle := sumOn_take_le Chk.cost_nonneg l (k + 1)
        have hxw := Hwf.out _ (List.getElem_mem hlt)
        have Hst := Lib.hid hst
        have Hle := Lib.hid hle
        clear hst hle
        generalize l[k] = x at *
        have hxc := Chk.cost_nonneg x
        have Hxw := Lib.hid hxw
        clear hxw
        have hw := fun w => law_szCheck x m w Hxw.out hm0 (by omega)
        simp only [Chk.cells] at hw
        by_cases hx : m < x.cost
        · simp only [szRes_lt hx] at hw
          have Hw := Lib.hid hw
          have Hr : Hid (n < szChk l) := Lib.hid (by unfold szChk; have := hm.out; have := Hst.out; have := Hle.out; omega)
          clear hw
          go_wp2_with (go_at_call 29; refine (Hw.out _).mono ?_; rintro e w1 ⟨rfl, hb1⟩)
          go_ret
          exact ⟨ret_int (szRes_lt Hr.out).symm, hB.trans (hb1.mono hB.size)⟩
        · simp only [szRes_ge hx] at hw
          have Hw := Lib.hid hw
          have hnx : 0 ≤ m - x.cost := by omega
          clear hw hx
          go_wp2_with (go_at_call 29; refine (Hw.out _).mono ?_; rintro e w1 ⟨rfl, hb1⟩)
          go_roundw
          case rel => exact ⟨k + 1, by omega, by go_num, _, rfl, by omega, by omega, Lib.hid (by have := hm.out; have := Hst.out; omega), hB.trans (hb1.mono hB.size)⟩
          case measure => simp [intOf]; omega
      · have : k = l.length := by omega
        subst this
        have hm' := hm.out
        rw [List.take_length] at hm'
        have Hm := Lib.hid hm'
        clear hm'
        go_wp2
        go_ret
        have := Hm.out
        exact ⟨ret_int (by rw [szRes_ge (show ¬ n < szChk l by unfold szChk; omega)]; unfold szChk; omega), hB⟩
def markChk (k : Nat) : Chk := ⟨((k : Nat) : Int), markB (k + 1), ((k + 2 : Nat) : Int), ((k + 3 : Nat) : Int)⟩
def marksChk (n k : Nat) : List Chk := (List.range n).map fun i => markChk (k + i * 4)
theorem marksChk_len (n k : Nat) : (marksChk n k).length = n := by simp [marksChk]
theorem marksChk_get {n k i : Nat} (h : i < (marksChk n k).length) : (marksChk n k)[i] = markChk (k + i * 4) := by simp [marksChk]
theorem marksChk_row {n k i : Nat} (h : i < n) : (marksChk n k)[i]? = some (markChk (k + i * 4)) := by simp [marksChk, h]
set_option maxRecDepth 100000 in
set_option maxHeartbeats 2000000 in
theorem law_markCheckS (v : Value) (l : List Chk) (lo hi k : Nat) (w : World) (h : Slw 4 Chk.cells lo hi w v l) (hhi : hi ≤ w.heap.size) (hk : 1 ≤ k) (hkb : k + l.length * 4 ≤ 1099511627776) :
    Calls Tryd.prog 23 #[v, .int .i64 k] w fun e w' => e = .returned (.int .i64 ((k + l.length * 4 : Nat) : Int)) ∧ Slw 4 Chk.cells lo hi w' v (marksChk l.length k) ∧ Mod lo hi w w' := by
  by_cases h0 : 0 < l.length
  · obtain ⟨b, off, cap, rfl, hcap, hraw⟩ := Raw.of h Chk.len h0
    have hlen : l.length ≤ 1099511627776 := by omega
    have Hr0 := Lib.hid hraw
    have hlo := hraw.lo
    have hhb := hraw.hi
    clear hraw h
    go_enter Tryd.func23, Tryd.ntmps23
    go_wp2
    go_loopw [1, 5] (fun s i wr => ∃ j : Nat, j ≤ l.length ∧ i = .int .i64 j ∧ s = .int .i64 ((k : Int) + j * 4) ∧ Mod lo hi w wr ∧ ∃ rows, Hid (rows.length = l.length) ∧ Hid (Raw 4 lo hi wr b off rows) ∧ Hid (∀ i, i < j → rows[i]? = some (Chk.cells (markChk (k + i * 4))))) (fun _ i _ => l.length - (intOf i).toNat)
    case atStart => exact ⟨0, Nat.zero_le _, rfl, by go_num, Mod.refl _ _ _, _, Lib.hid (by simp), Hr0, Lib.hid (fun i hi => absurd hi (by omega))⟩
    case round =>
      obtain ⟨j, hj, rfl, rfl, hM, rows, hrl, hrw, hdone⟩ := hrel
      by_cases hlt : j < l.length
      · have hjr : j < rows.length := by rw [hrl.out]; exact hlt
        have hRaw := hrw.out.self hjr
        obtain ⟨r0, r1, r2, r3, hrow⟩ : ∃ r0 r1 r2 r3, rows[j] = [r0, r1, r2, r3] := by
          have h4 := hrw.out.len j hjr
          match rows[j], h4 with
          | [r0, r1, r2, r3], _ => exact ⟨_, _, _, _, rfl⟩
        rw [hrow] at hRaw
        have hMs := hM.size
        clear hrow Hr0
        have c0 := hRaw.cell j (by simpa using hjr) 0 (r0) (by simp)
        have c1 := hRaw.cell j (by simpa using hjr) 1 (r1) (by simp)
        have c2 := hRaw.cell j (by simpa using hjr) 2 (r2) (by simp)
        have c3 := hRaw.cell j (by simpa using hjr) 3 (r3) (by simp)
        simp only [Nat.add_zero] at c0
        have cz := hRaw.free
        have HR := Lib.hid hRaw
        clear hRaw
        go_wp2_with fail
        have hMid := trivial
        rw [show ((k : Int) + (j : Int) * 4 + 1) = ((k + j * 4 + 1 : Nat) : Int) from by omega]
        refine (law_markText (k + j * 4 + 1) _ (by omega) (by omega)).mono ?_
        rintro e w1 ⟨rfl, hb1⟩
        have hRaw := ((HR.out.store (j := 0) hjr (by omega) (by omega))).ext (by simp; omega) hb1
        have hM := ((hM.setCell hlo hhb _)).then hb1
        clear HR cz c0 c1 c2 c3
        simp only [List.set_cons_zero] at hRaw
        have c0 := hRaw.cell j (by simpa using hjr) 0 _ (by simp; rfl)
        have c1 := hRaw.cell j (by simpa using hjr) 1 (r1) (by simp)
        have c2 := hRaw.cell j (by simpa using hjr) 2 (r2) (by simp)
        have c3 := hRaw.cell j (by simpa using hjr) 3 (r3) (by simp)
        simp only [Nat.add_zero] at c0
        have cz := hRaw.free
        have HR := Lib.hid hRaw
        clear hRaw
        have hMs := hM.size
        go_wp2
        go_roundw
        case rel =>
          refine ⟨j + 1, by omega, by go_num, by go_num, (((hM.setCell hlo hhb _).setCell hlo hhb _).setCell hlo hhb _), _, Lib.hid (by rw [List.length_set]; exact hrl.out), Lib.hid (((HR.out.store (j := 1) hjr (by omega) (by omega)).store (j := 2) hjr (by omega) (by omega)).store (j := 3) hjr (by omega) (by omega)), Lib.hid ?_⟩
          intro i hi
          rw [List.getElem?_set]
          by_cases hij : j = i
          · subst hij
            rw [if_pos rfl, if_pos hjr]
            simp only [List.set_cons_zero, List.set_cons_succ, Chk.cells, markChk]
            congr
            all_goals first | rfl | omega | skip
          · rw [if_neg hij]
            exact hdone.out i (by omega)
        case measure => simp [intOf]; omega
      · have : j = l.length := by omega
        subst this
        have Hfin : Hid (Slw 4 Chk.cells lo hi wr (.slice (some ⟨b, off, none⟩) l.length cap) (marksChk l.length k)) := Lib.hid (hrw.out.back _ (fun i hi => by
          rw [marksChk_get hi]; exact hdone.out i (by rw [marksChk_len] at hi; exact hi)) (by rw [marksChk_len]) (by rw [marksChk_len]; exact hcap))
        go_wp2
        go_ret
        exact ⟨ret_int (by omega), Hfin.out, hM⟩
  · have he : l = [] := by cases l with | nil => rfl | cons x r => simp at h0
    subst he
    have hS := Lib.hid h
    obtain ⟨⟨a, cap, rfl, hlen, hh⟩, hz⟩ := h
    clear hh hz
    go_enter Tryd.func23, Tryd.ntmps23
    go_wp2
    go_loopw [1, 5] (fun s i wr => i = .int .i64 0 ∧ s = .int .i64 k ∧ wr = w) (fun _ i _ => 0)
    case atStart => exact ⟨rfl, rfl, rfl⟩
    case round =>
      obtain ⟨rfl, rfl, rfl⟩ := hrel
      go_wp2
      go_ret
      exact ⟨ret_int (by simp), hS.out, Mod.refl _ _ _⟩
set_option maxRecDepth 100000 in
set_option maxHeartbeats 2000000 in
theorem law_heldCheckS (v : Value) (lo hi m k : Nat) (w : World) (h : Chks lo hi w v (marksChk m k)) (hk : 1 ≤ k) (hkb : k + m * 4 ≤ 1099511627776) :
    Calls Tryd.prog 24 #[v, .int .i64 k] w fun e w' => e = .returned (.int .i64 ((k + m * 4 : Nat) : Int)) ∧ Below w.heap.size w w' := by
  have hsl := h
  obtain ⟨a, cap, rfl, hlen, hh⟩ := h
  clear hh
  have hml := marksChk_len m k
  rw [hml]
  have Hml := Lib.hid hml
  clear hml hlen
  have hmb : m ≤ 1099511627776 := by omega
  go_enter Tryd.func24, Tryd.ntmps24
  go_wp2
  go_loopw [1, 5] (fun s i wr => ∃ j : Nat, j ≤ m ∧ i = .int .i64 j ∧ s = .int .i64 ((k : Int) + j * 4) ∧ Below w.heap.size w wr) (fun _ i _ => m - (intOf i).toNat)
  case atStart => exact ⟨0, Nat.zero_le _, rfl, by go_num, Below.refl _ _⟩
  case round =>
    obtain ⟨j, hj, rfl, rfl, hB⟩ := hrel
    by_cases hlt : j < m
    · have hlt2 : j < (marksChk m k).length := by rw [Hml.out]; exact hlt
      obtain ⟨a', cap', hv, _, hh⟩ := hsl.ext hB
      cases hv
      obtain ⟨b, off, rfl, _, _, hc⟩ := hh (by omega)
      obtain ⟨c0, c1, c2, c3⟩ := Chks.at hc hlt2
      clear hc hh hsl
      simp only [marksChk_get, markChk] at c0 c1 c2 c3
      have hb0 := World.block_lt_of_cell? wr _ c0
      have hBs := hB.size
      have q0 : (((k + j * 4 : Nat) : Int)) = (k : Int) + (j : Int) * 4 := by omega
      rw [q0] at c0
      clear q0
      have q2 : (((k + j * 4 + 2 : Nat) : Int)) = (k : Int) + (j : Int) * 4 + 2 := by omega
      rw [q2] at c2
      clear q2
      have q3 : (((k + j * 4 + 3 : Nat) : Int)) = (k : Int) + (j : Int) * 4 + 3 := by omega
      rw [q3] at c3
      clear q3
      have z1 : ((k : Int) + (j : Int) * 4 + 1).toNat = k + j * 4 + 1 := by omega
      go_wp2_with fail
      go_region_held3 (fun w' => (∀ b o, b < wr.heap.size → w'.cell? ⟨b, o, none⟩ = wr.cell? ⟨b, o, none⟩) ∧ Below wr.heap.size wr w') (first | exact held0 _ | exact heldS (w1 := wr.drew) (Below.refl _ _).drew (by assumption))
        (first | (go_at_call 55; refine (law_markTextI _ _ (by omega) (by omega)).mono ?_; rintro e w1 ⟨rfl, hb1⟩))
      have hB1 := (Below.refl wr.heap.size wr).drew.trans hb1
      clear hb1
      have d0 := (hB1.cell (p := ⟨b, off + j * 4, none⟩) hb0).trans c0
      clear c0
      have c0 := d0
      clear d0
      have d1 := (hB1.cell (p := ⟨b, off + j * 4 + 1, none⟩) hb0).trans c1
      clear c1
      have c1 := d1
      clear d1
      have d2 := (hB1.cell (p := ⟨b, off + j * 4 + 2, none⟩) hb0).trans c2
      clear c2
      have c2 := d2
      clear d2
      have d3 := (hB1.cell (p := ⟨b, off + j * 4 + 3, none⟩) hb0).trans c3
      clear c3
      have c3 := d3
      clear d3
      have hb0' := Nat.lt_of_lt_of_le hb0 hB1.size
      clear hb0
      have hb0 := hb0'
      clear hb0'
      have hBn := hB.trans (hB1.mono hBs)
      clear hB hBs
      have hB := hBn
      have hBs := hB.size
      clear hBn
      go_wp2
      go_roundw
      case rel => exact ⟨j + 1, by omega, by go_num, by go_num, hB⟩
      case measure => simp [intOf]; omega
    · have : j = m := by omega
      subst this
      go_wp2
      go_ret
      exact ⟨ret_int (by omega), hB⟩
end Go.Proofs.YtimggihbldeleaaDoor
