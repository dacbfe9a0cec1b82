/- Entry: its reading, and the laws' helpers. -/
import Derived.Test.YtjjibdjliejcfaaDoorChecked
import Derived.Test.YtjjibdjliejcfaaDoorOpen
import Derived.Test.YtjjibdjliejcfaaDoorMarkT
namespace Go.Proofs.YtjjibdjliejcfaaDoor
open Go.RowKit Go.WideShapes Go.ChangeShapes
structure Ent where
  second : Int
  who : ByteArray
  what : ByteArray
deriving DecidableEq

def Ent.cells (x : Ent) : List Value := [.int .i64 x.second, .string x.who, .string x.what]
abbrev Ents := Sl 3 Ent.cells
theorem Ent.len (x : Ent) : x.cells.length = 3 := rfl
theorem Ents.at {w : World} {b off : Nat} {l : List Ent} (hc : ∀ i (h : i < l.length) j u, (Ent.cells l[i])[j]? = some u → w.cell? ⟨b, off + i * 3 + j, none⟩ = some u) {k : Nat} (hk : k < l.length) :
    w.cell? ⟨b, off + k * 3, none⟩ = some (.int .i64 l[k].second) ∧ w.cell? ⟨b, off + k * 3 + 1, none⟩ = some (.string l[k].who) ∧ w.cell? ⟨b, off + k * 3 + 2, none⟩ = some (.string l[k].what) :=
  ⟨hc k hk 0 _ rfl, hc k hk 1 _ rfl, hc k hk 2 _ rfl⟩
def Ent.wf (x : Ent) : Prop := I64 x.second ∧ x.who.size ≤ maxLen ∧ x.what.size ≤ maxLen
instance : Inhabited Ent := ⟨⟨0, ByteArray.empty, ByteArray.empty⟩⟩
theorem cellsOf_Entry : Tryd.prog.cellsOf 69 = 3 := by kernel_rfl
theorem cellsOf_Entry_int : Tryd.prog.cellsOf 2 = 1 := by kernel_rfl
theorem cellsOf_Entry_str : Tryd.prog.cellsOf 9 = 1 := by kernel_rfl
theorem open_Entry {H : Type} {enc : TypeId × Value → H} {W : World} {base : Nat} {spare : Nat → Bool} {held : Bool} (fuel : Nat) (cs : List Value) (y : DataW H × List MemPlace) (hy : DataW.trod enc Tryd.prog W base spare held fuel 69 cs = some y) :
    ∃ x : Ent, cs = x.cells ∧ x.wf := by
  obtain ⟨xs, n, rfl, rfl, hl, hxs, hf⟩ := DataW.trod_struct Tryd.underlying69 hy
  rw [cellsOf_Entry] at hl
  have hxs' : xs.length = 3 := hxs
  obtain ⟨x0, e0, w0⟩ := field_int (m := 0) (i := 0) (by omega) Tryd.underlying2 cellsOf_Entry_int (hf 0 _ rfl) rfl
  obtain ⟨x1, e1, w1⟩ := field_string (m := 1) (i := 1) (by omega) Tryd.underlying9 cellsOf_Entry_str (hf 1 _ rfl) rfl
  obtain ⟨x2, e2, w2⟩ := field_string (m := 2) (i := 2) (by omega) Tryd.underlying9 cellsOf_Entry_str (hf 2 _ rfl) rfl
  refine ⟨⟨x0, x1, x2⟩, ?_, i64_of_wf w0, w1, w2⟩
  refine List.ext_getElem? fun i => ?_
  match i with
  | 0 => exact e0
  | 1 => exact e1
  | 2 => exact e2
  | i + 3 => rw [List.getElem?_eq_none (by omega), List.getElem?_eq_none (by simp [Ent.cells])]
set_option maxRecDepth 100000 in
theorem open_AEntry {H : Type} {enc : TypeId × Value → H} {W : World} {base : Nat} {v : Value} {d : DataW H} {p : List MemPlace} (hv : Value.okWide Tryd.prog W .any base 69 v)
    (h : DataW.Trod enc Tryd.prog W 0 (fun _ => true) true 69 v d p) (_hlt : ∀ x ∈ p, x.block < W.heap.size) : ∃ x : Ent, v = .agg x.cells.toArray ∧ x.wf := by
  obtain ⟨cs, rfl, _⟩ := okWide_struct Tryd.underlying69 hv
  obtain ⟨fuel, hf⟩ := h
  obtain ⟨x, hx, hw⟩ := open_Entry fuel _ _ hf
  exact ⟨x, by rw [← hx]; simp [Value.cells], hw⟩
set_option maxRecDepth 100000 in
theorem open_SEntry {H : Type} {enc : TypeId × Value → H} {W : World} {base : Nat} {v : Value} {d : DataW H} {p : List MemPlace} (hv : Value.okWide Tryd.prog W .any base 29 v)
    (h : DataW.Trod enc Tryd.prog W 0 (fun _ => true) true 29 v d p) (_hlt : ∀ x ∈ p, x.block < W.heap.size) : ∃ l : List Ent, Ents 0 W.heap.size W v l ∧ ∀ x ∈ l, x.wf :=
  open_list Tryd.underlying29 cellsOf_Entry (by omega) open_Entry h (okWide_slice Tryd.underlying29 hv)
set_option maxHeartbeats 1000000 in
theorem law_toEntry (x : Ent) (w : World) :
    Calls Tryd.prog 40 #[.agg x.cells.toArray] w fun e w' => e = .returned (.agg x.cells.toArray) ∧ Below w.heap.size w w' := by
  obtain ⟨x0, x1, x2⟩ := x
  simp only [Ent.cells]
  go_enter Tryd.func40, Tryd.ntmps40
  go_wp2
  exact bodyPost_ret (v := .agg #[.int .i64 x0, .string x1, .string x2]) (by simp [results, Tryd.results40, go_sem]) rfl ⟨rfl, by
    refine (((Below.refl _ _).alloc (Nat.le_refl _) _).alloc (by simp) _).alloc (by simp; omega) _⟩
set_option maxHeartbeats 1000000 in
theorem law_eqEntry (x : Ent) (w : World) :
    Calls Tryd.prog 47 #[.agg x.cells.toArray, .agg x.cells.toArray] w fun e w' => e = .returned (.bool true) ∧ Below w.heap.size w w' := by
  obtain ⟨x0, x1, x2⟩ := x
  simp only [Ent.cells]
  go_enter Tryd.func47, Tryd.ntmps47
  go_wp2
  go_ret
  exact ⟨rfl, ((Below.refl _ _).alloc (Nat.le_refl _) _).alloc (by simp) _⟩
theorem info_Entry : (Tryd.prog.info? 73).map (fun i => (i.zero.isSome, i.size, i.bytes)) = some (true, 3, 40) := by kernel_rfl
set_option maxHeartbeats 1000000 in
theorem law_toEntryS (v : Value) (l : List Ent) (lo hi : Nat) (w : World) (h : Ents lo hi w v l) (hn : l.length ≤ 1048576) :
    Calls Tryd.prog 16 #[v] w fun e w' => ∃ v', e = .returned v' ∧ Slw 3 Ent.cells w.heap.size w'.heap.size w' v' l ∧ Below w.heap.size w w' := by
  obtain ⟨cs, hmk, hcs⟩ := make_rows (P := Tryd.prog) 36 73 3 40 (by simp) info_Entry l.length (by omega) (by omega) w
  obtain ⟨f0, hf0⟩ := rowIs_made (w := w) (t := 73) hcs
  have Hf0 := Lib.hid hf0
  clear hf0 hcs
  have hsl := h
  obtain ⟨a, cap, rfl, hlen, hh⟩ := h
  clear hh
  go_enter Tryd.func16, Tryd.ntmps16
  go_wp2
  go_loopw [4] (fun i wr => ∃ k : Nat, k ≤ l.length ∧ i = .int .i64 k ∧ Below w.heap.size w wr ∧ ∃ f, Hid (wr.rowIs w.heap.size 73 (l.length * 3) f) ∧ Fill 3 Ent.cells l k f) (fun i _ => l.length - (intOf i).toNat)
  case atStart => exact ⟨0, Nat.zero_le _, rfl, (Below.refl _ _).alloc (Nat.le_refl _) _, f0, Hf0, Fill.zero⟩
  case round =>
    obtain ⟨k, hk, rfl, hB, f, hf, hfill⟩ := hrel
    by_cases hlt : k < l.length
    · have hlt2 := hf.out.lt
      obtain ⟨a', cap', hv, _, hh⟩ := hsl.ext hB
      cases hv
      obtain ⟨b, off, rfl, _, _, hc⟩ := hh (by omega)
      obtain ⟨c0, c1, c2⟩ := Ents.at hc hlt
      clear hc hh hsl hmk
      have Hg := Lib.hid (fun g => hfill.step hlt Ent.len (g := g))
      generalize l[k] = x at *
      go_wp2_with fail
      refine (law_toEntry x _).mono ?_
      rintro e w1 ⟨rfl, hb1⟩
      simp only [Ent.cells]
      have hr1 := hf.out.of_block (hb1.block _ hlt2)
      have d0 := hr1.cell (i := k * 3) (by omega)
      have d1 := hr1.cell (i := k * 3 + 1) (by omega)
      have d2 := hr1.cell (i := k * 3 + 2) (by omega)
      have e0 := hr1.frozen (k * 3)
      have e1 := hr1.frozen (k * 3 + 1)
      have e2 := hr1.frozen (k * 3 + 2)
      have Hr1 := Lib.hid hr1
      clear hr1
      go_wp2
      go_roundw
      case rel =>
        exact ⟨k + 1, by omega, by go_num, (((hB.trans (hb1.mono (by omega))).setCell (Nat.le_refl _) _).setCell (Nat.le_refl _) _).setCell (Nat.le_refl _) _,
          _, Lib.hid ((((Hr1.out).set _ _).set _ _).set _ _), Hg.out _ (upd3 _ _ _ _ _)⟩
      case measure => simp [intOf]; omega
    · have : k = l.length := by omega
      subst this
      go_wp2
      go_ret
      exact ⟨_, rfl, Slw.of_row hf.out hfill Ent.len (Nat.le_trans hlen.1 hlen.2) (Nat.le_refl _) hf.out.lt, hB⟩
set_option maxHeartbeats 1000000 in
theorem law_eqEntryS (v v2 : Value) (l : List Ent) (lo hi lo2 hi2 : Nat) (w : World) (h : Ents lo hi w v l) (h2 : Ents lo2 hi2 w v2 l) :
    Calls Tryd.prog 19 #[v, v2] w fun e w' => e = .returned (.bool true) ∧ Below w.heap.size w w' := by
  have hsl := h
  have hsl2 := h2
  obtain ⟨a, cap, rfl, hlen, hh⟩ := h
  obtain ⟨a2, cap2, rfl, _, hh2⟩ := h2
  clear hh hh2
  go_enter Tryd.func19, Tryd.ntmps19
  go_wp2
  go_loopw [5] (fun i wr => ∃ k : Nat, k ≤ l.length ∧ i = .int .i64 k ∧ Below w.heap.size w wr) (fun i _ => l.length - (intOf i).toNat)
  case atStart => exact ⟨0, Nat.zero_le _, rfl, Below.refl _ _⟩
  case round =>
    obtain ⟨k, hk, rfl, hB⟩ := hrel
    by_cases hlt : k < l.length
    · skip
      obtain ⟨a', cap', hv, _, hh⟩ := hsl.ext hB
      cases hv
      obtain ⟨b, off, rfl, _, _, hc⟩ := hh (by omega)
      obtain ⟨c0, c1, c2⟩ := Ents.at hc hlt
      obtain ⟨a', cap', hv, _, hh2⟩ := hsl2.ext hB
      cases hv
      obtain ⟨b2, off2, rfl, _, _, hc2⟩ := hh2 (by omega)
      obtain ⟨d0, d1, d2⟩ := Ents.at hc2 hlt
      clear hc hh hsl hc2 hh2 hsl2
      generalize l[k] = x at *
      go_wp2_with fail
      have hb0 := World.block_lt_of_cell? wr _ c0
      have hb2 := World.block_lt_of_cell? wr _ d0
      go_region_held3 (fun w' => (∀ b o, b < wr.heap.size → w'.cell? ⟨b, o, none⟩ = wr.cell? ⟨b, o, none⟩) ∧ Below wr.heap.size wr w') (first | exact held0 _ | exact heldS (w1 := wr.drew) (Below.refl _ _).drew (by assumption)) (first | (go_at_call 47; refine (law_eqEntry x _).mono ?_; rintro e w1 ⟨rfl, hb1⟩))
      go_wp2
      go_roundw
      case rel => exact ⟨k + 1, by omega, by go_num, hB.drew.trans (hb1.mono hB.size)⟩
      case measure => simp [intOf]; omega
    · go_wp2
      go_ret
      exact ⟨rfl, hB⟩
def Ent.cost (x : Ent) : Int := (x.who.size : Int) + (x.what.size : Int)
def szEnt (l : List Ent) : Int := l.length + sumOn Ent.cost l
theorem Ent.cost_nonneg (x : Ent) : 0 ≤ x.cost := by unfold Ent.cost; omega
theorem szEnt_len (l : List Ent) : (l.length : Int) ≤ szEnt l := by have := sumOn_nonneg Ent.cost_nonneg l; unfold szEnt; omega
set_option maxHeartbeats 1000000 in
theorem law_szEntry (x : Ent) (n : Int) (w : World) (hwf : x.wf) (h0 : 0 ≤ n) (hn : n ≤ 1048576) :
    Calls Tryd.prog 36 #[.agg x.cells.toArray, .int .i64 n] w fun e w' => e = .returned (.int .i64 (szRes n x.cost)) ∧ Below w.heap.size w w' := by
  by_cases hc : n < x.cost
  · rw [szRes_lt hc]
    have Hc := Lib.hid hc
    obtain ⟨x0, x1, x2⟩ := x
    simp only [Ent.wf, maxLen] at hwf
    simp only [Ent.cost] at hc
    simp only [Ent.cells]
    clear Hc
    by_cases hc1 : n < (x1.size : Int)
    · go_enter Tryd.func36, Tryd.ntmps36
      go_wp2
      go_ret
      exact ⟨rfl, (Below.refl _ _).alloc (Nat.le_refl _) _⟩
    · go_enter Tryd.func36, Tryd.ntmps36
      go_wp2
      go_ret
      exact ⟨rfl, (Below.refl _ _).alloc (Nat.le_refl _) _⟩
  · rw [szRes_ge hc]
    have Hc : Hid (x.cost = x.cost) := Lib.hid rfl
    generalize hr : n - x.cost = r
    obtain ⟨x0, x1, x2⟩ := x
    simp only [Ent.wf, maxLen] at hwf
    simp only [Ent.cost] at hc
    simp only [Ent.cells]
    clear Hc
    simp only [Ent.cost] at hr
    have Hr := Lib.hid hr
    clear hr
    go_enter Tryd.func36, Tryd.ntmps36
    go_wp2
    go_ret
    exact ⟨ret_int (by have := Hr.out; omega), (Below.refl _ _).alloc (Nat.le_refl _) _⟩
set_option maxHeartbeats 1000000 in
theorem law_szEntryS (v : Value) (l : List Ent) (lo hi : Nat) (n : Int) (w : World) (h : Ents lo hi w v l) (hwf : ∀ x ∈ l, x.wf) (h0 : 0 ≤ n) (hn : n ≤ 1048576) :
    Calls Tryd.prog 13 #[v, .int .i64 n] w fun e w' => e = .returned (.int .i64 (szRes n (szEnt l))) ∧ Below w.heap.size w w' := by
  have hsl := h
  obtain ⟨a, cap, rfl, hlen, hh⟩ := h
  clear hh
  have Hwf := Lib.hid hwf
  clear hwf
  have hs0 := sumOn_nonneg Ent.cost_nonneg l
  by_cases hc : n < l.length
  · rw [szRes_lt (show n < szEnt l by unfold szEnt; omega)]
    go_enter Tryd.func13, Tryd.ntmps13
    go_wp2
    go_ret
    exact ⟨rfl, Below.refl _ _⟩
  · go_enter Tryd.func13, Tryd.ntmps13
    go_wp2
    go_loopw [1, 5] (fun r i wr => ∃ k : Nat, k ≤ l.length ∧ i = .int .i64 k ∧ ∃ m : Int, r = .int .i64 m ∧ 0 ≤ m ∧ m ≤ n ∧ Hid (m = n - l.length - sumOn Ent.cost (l.take k)) ∧ Below w.heap.size w wr) (fun _ i _ => l.length - (intOf i).toNat)
    case atStart => exact ⟨0, Nat.zero_le _, rfl, _, rfl, by omega, by omega, Lib.hid (by simp [sumOn]), Below.refl _ _⟩
    case round =>
      obtain ⟨k, hk, rfl, m, rfl, hm0, hmn, hm, hB⟩ := hrel
      by_cases hlt : k < l.length
      · skip
        obtain ⟨a', cap', hv, _, hh⟩ := hsl.ext hB
        cases hv
        obtain ⟨b, off, rfl, _, _, hc'⟩ := hh (by omega)
        obtain ⟨c0, c1, c2⟩ := Ents.at hc' hlt
        clear hc' hh hsl
        have hst := sumOn_take_succ Ent.cost hlt
        have hle := sumOn_take_le Ent.cost_nonneg l (k + 1)
        have hxw := Hwf.out _ (List.getElem_mem hlt)
        have Hst := Lib.hid hst
        have Hle := Lib.hid hle
        clear hst hle
        generalize l[k] = x at *
        have hxc := Ent.cost_nonneg x
        have Hxw := Lib.hid hxw
        clear hxw
        have hw := fun w => law_szEntry x m w Hxw.out hm0 (by omega)
        simp only [Ent.cells] at hw
        by_cases hx : m < x.cost
        · simp only [szRes_lt hx] at hw
          have Hw := Lib.hid hw
          have Hr : Hid (n < szEnt l) := Lib.hid (by unfold szEnt; have := hm.out; have := Hst.out; have := Hle.out; omega)
          clear hw
          go_wp2_with (go_at_call 36; refine (Hw.out _).mono ?_; rintro e w1 ⟨rfl, hb1⟩)
          go_ret
          exact ⟨ret_int (szRes_lt Hr.out).symm, hB.trans (hb1.mono hB.size)⟩
        · simp only [szRes_ge hx] at hw
          have Hw := Lib.hid hw
          have hnx : 0 ≤ m - x.cost := by omega
          clear hw hx
          go_wp2_with (go_at_call 36; refine (Hw.out _).mono ?_; rintro e w1 ⟨rfl, hb1⟩)
          go_roundw
          case rel => exact ⟨k + 1, by omega, by go_num, _, rfl, by omega, by omega, Lib.hid (by have := hm.out; have := Hst.out; omega), hB.trans (hb1.mono hB.size)⟩
          case measure => simp [intOf]; omega
      · have : k = l.length := by omega
        subst this
        have hm' := hm.out
        rw [List.take_length] at hm'
        have Hm := Lib.hid hm'
        clear hm'
        go_wp2
        go_ret
        have := Hm.out
        exact ⟨ret_int (by rw [szRes_ge (show ¬ n < szEnt l by unfold szEnt; omega)]; unfold szEnt; omega), hB⟩
end Go.Proofs.YtjjibdjliejcfaaDoor
