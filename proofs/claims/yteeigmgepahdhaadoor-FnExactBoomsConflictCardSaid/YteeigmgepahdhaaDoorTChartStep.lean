/- ChartStep: its reading, and the laws' helpers. -/
import Derived.Test.YteeigmgepahdhaaDoorChecked
import Derived.Test.YteeigmgepahdhaaDoorOpen
import Derived.Test.YteeigmgepahdhaaDoorMark
namespace Go.Proofs.YteeigmgepahdhaaDoor
open Go.RowKit Go.WideShapes Go.ChangeShapes
structure Chs where
  radius : Int
  load : Int
deriving DecidableEq

def Chs.cells (x : Chs) : List Value := [.int .i64 x.radius, .int .i64 x.load]
abbrev Chss := Sl 2 Chs.cells
theorem Chs.len (x : Chs) : x.cells.length = 2 := rfl
theorem Chss.at {w : World} {b off : Nat} {l : List Chs} (hc : ∀ i (h : i < l.length) j u, (Chs.cells l[i])[j]? = some u → w.cell? ⟨b, off + i * 2 + j, none⟩ = some u) {k : Nat} (hk : k < l.length) :
    w.cell? ⟨b, off + k * 2, none⟩ = some (.int .i64 l[k].radius) ∧ w.cell? ⟨b, off + k * 2 + 1, none⟩ = some (.int .i64 l[k].load) :=
  ⟨hc k hk 0 _ rfl, hc k hk 1 _ rfl⟩
def Chs.wf (x : Chs) : Prop := I64 x.radius ∧ I64 x.load
instance : Inhabited Chs := ⟨⟨0, 0⟩⟩
theorem cellsOf_ChartStep : Tryd.prog.cellsOf 114 = 2 := by kernel_rfl
theorem cellsOf_ChartStep_int : Tryd.prog.cellsOf 2 = 1 := by kernel_rfl
theorem open_ChartStep {H : Type} {enc : TypeId × Value → H} {W : World} {base : Nat} {spare : Nat → Bool} {held : Bool} (fuel : Nat) (cs : List Value) (y : DataW H × List MemPlace) (hy : DataW.trod enc Tryd.prog W base spare held fuel 114 cs = some y) :
    ∃ x : Chs, cs = x.cells ∧ x.wf := by
  obtain ⟨xs, n, rfl, rfl, hl, hxs, hf⟩ := DataW.trod_struct Tryd.underlying114 hy
  rw [cellsOf_ChartStep] at hl
  have hxs' : xs.length = 2 := hxs
  obtain ⟨x0, e0, w0⟩ := field_int (m := 0) (i := 0) (by omega) Tryd.underlying2 cellsOf_ChartStep_int (hf 0 _ rfl) rfl
  obtain ⟨x1, e1, w1⟩ := field_int (m := 1) (i := 1) (by omega) Tryd.underlying2 cellsOf_ChartStep_int (hf 1 _ rfl) rfl
  refine ⟨⟨x0, x1⟩, ?_, i64_of_wf w0, i64_of_wf w1⟩
  refine List.ext_getElem? fun i => ?_
  match i with
  | 0 => exact e0
  | 1 => exact e1
  | i + 2 => rw [List.getElem?_eq_none (by omega), List.getElem?_eq_none (by simp [Chs.cells])]
set_option maxRecDepth 100000 in
theorem open_AChartStep {H : Type} {enc : TypeId × Value → H} {W : World} {base : Nat} {v : Value} {d : DataW H} {p : List MemPlace} (hv : Value.okWide Tryd.prog W .any base 114 v)
    (h : DataW.Trod enc Tryd.prog W 0 (fun _ => true) true 114 v d p) (_hlt : ∀ x ∈ p, x.block < W.heap.size) : ∃ x : Chs, v = .agg x.cells.toArray ∧ x.wf := by
  obtain ⟨cs, rfl, _⟩ := okWide_struct Tryd.underlying114 hv
  obtain ⟨fuel, hf⟩ := h
  obtain ⟨x, hx, hw⟩ := open_ChartStep fuel _ _ hf
  exact ⟨x, by rw [← hx]; simp [Value.cells], hw⟩
set_option maxRecDepth 100000 in
theorem open_SChartStep {H : Type} {enc : TypeId × Value → H} {W : World} {base : Nat} {v : Value} {d : DataW H} {p : List MemPlace} (hv : Value.okWide Tryd.prog W .any base 49 v)
    (h : DataW.Trod enc Tryd.prog W 0 (fun _ => true) true 49 v d p) (_hlt : ∀ x ∈ p, x.block < W.heap.size) : ∃ l : List Chs, Chss 0 W.heap.size W v l ∧ ∀ x ∈ l, x.wf :=
  open_list Tryd.underlying49 cellsOf_ChartStep (by omega) open_ChartStep h (okWide_slice Tryd.underlying49 hv)
set_option maxHeartbeats 1000000 in
theorem law_toChartStep (x : Chs) (w : World) :
    Calls Tryd.prog 75 #[.agg x.cells.toArray] w fun e w' => e = .returned (.agg x.cells.toArray) ∧ Below w.heap.size w w' := by
  obtain ⟨x0, x1⟩ := x
  simp only [Chs.cells]
  go_enter Tryd.func75, Tryd.ntmps75
  go_wp2
  exact bodyPost_ret (v := .agg #[.int .i64 x0, .int .i64 x1]) (by simp [results, Tryd.results75, go_sem]) rfl ⟨rfl, by
    refine (((Below.refl _ _).alloc (Nat.le_refl _) _).alloc (by simp) _).alloc (by simp; omega) _⟩
set_option maxHeartbeats 1000000 in
theorem law_eqChartStep (x : Chs) (w : World) :
    Calls Tryd.prog 76 #[.agg x.cells.toArray, .agg x.cells.toArray] w fun e w' => e = .returned (.bool true) ∧ Below w.heap.size w w' := by
  obtain ⟨x0, x1⟩ := x
  simp only [Chs.cells]
  go_enter Tryd.func76, Tryd.ntmps76
  go_wp2
  go_ret
  exact ⟨rfl, ((Below.refl _ _).alloc (Nat.le_refl _) _).alloc (by simp) _⟩
theorem info_ChartStep : (Tryd.prog.info? 100).map (fun i => (i.zero.isSome, i.size, i.bytes)) = some (true, 2, 16) := by kernel_rfl
set_option maxHeartbeats 1000000 in
theorem law_toChartStepS (v : Value) (l : List Chs) (lo hi : Nat) (w : World) (h : Chss lo hi w v l) (hn : l.length ≤ 1048576) :
    Calls Tryd.prog 45 #[v] w fun e w' => ∃ v', e = .returned v' ∧ Slw 2 Chs.cells w.heap.size w'.heap.size w' v' l ∧ Below w.heap.size w w' := by
  obtain ⟨cs, hmk, hcs⟩ := make_rows (P := Tryd.prog) 26 100 2 16 (by simp) info_ChartStep l.length (by omega) (by omega) w
  obtain ⟨f0, hf0⟩ := rowIs_made (w := w) (t := 100) hcs
  have Hf0 := Lib.hid hf0
  clear hf0 hcs
  have hsl := h
  obtain ⟨a, cap, rfl, hlen, hh⟩ := h
  clear hh
  go_enter Tryd.func45, Tryd.ntmps45
  go_wp2
  go_loopw [4] (fun i wr => ∃ k : Nat, k ≤ l.length ∧ i = .int .i64 k ∧ Below w.heap.size w wr ∧ ∃ f, Hid (wr.rowIs w.heap.size 100 (l.length * 2) f) ∧ Fill 2 Chs.cells l k f) (fun i _ => l.length - (intOf i).toNat)
  case atStart => exact ⟨0, Nat.zero_le _, rfl, (Below.refl _ _).alloc (Nat.le_refl _) _, f0, Hf0, Fill.zero⟩
  case round =>
    obtain ⟨k, hk, rfl, hB, f, hf, hfill⟩ := hrel
    by_cases hlt : k < l.length
    · have hlt2 := hf.out.lt
      obtain ⟨a', cap', hv, _, hh⟩ := hsl.ext hB
      cases hv
      obtain ⟨b, off, rfl, _, _, hc⟩ := hh (by omega)
      obtain ⟨c0, c1⟩ := Chss.at hc hlt
      clear hc hh hsl hmk
      have Hg := Lib.hid (fun g => hfill.step hlt Chs.len (g := g))
      generalize l[k] = x at *
      go_wp2_with fail
      refine (law_toChartStep x _).mono ?_
      rintro e w1 ⟨rfl, hb1⟩
      simp only [Chs.cells]
      have hr1 := hf.out.of_block (hb1.block _ hlt2)
      have d0 := hr1.cell (i := k * 2) (by omega)
      have d1 := hr1.cell (i := k * 2 + 1) (by omega)
      have e0 := hr1.frozen (k * 2)
      have e1 := hr1.frozen (k * 2 + 1)
      have Hr1 := Lib.hid hr1
      clear hr1
      go_wp2
      go_roundw
      case rel =>
        exact ⟨k + 1, by omega, by go_num, ((hB.trans (hb1.mono (by omega))).setCell (Nat.le_refl _) _).setCell (Nat.le_refl _) _,
          _, Lib.hid (((Hr1.out).set _ _).set _ _), Hg.out _ (upd2 _ _ _ _)⟩
      case measure => simp [intOf]; omega
    · have : k = l.length := by omega
      subst this
      go_wp2
      go_ret
      exact ⟨_, rfl, Slw.of_row hf.out hfill Chs.len (Nat.le_trans hlen.1 hlen.2) (Nat.le_refl _) hf.out.lt, hB⟩
set_option maxHeartbeats 1000000 in
theorem law_eqChartStepS (v v2 : Value) (l : List Chs) (lo hi lo2 hi2 : Nat) (w : World) (h : Chss lo hi w v l) (h2 : Chss lo2 hi2 w v2 l) :
    Calls Tryd.prog 47 #[v, v2] w fun e w' => e = .returned (.bool true) ∧ Below w.heap.size w w' := by
  have hsl := h
  have hsl2 := h2
  obtain ⟨a, cap, rfl, hlen, hh⟩ := h
  obtain ⟨a2, cap2, rfl, _, hh2⟩ := h2
  clear hh hh2
  go_enter Tryd.func47, Tryd.ntmps47
  go_wp2
  go_loopw [5] (fun i wr => ∃ k : Nat, k ≤ l.length ∧ i = .int .i64 k ∧ Below w.heap.size w wr) (fun i _ => l.length - (intOf i).toNat)
  case atStart => exact ⟨0, Nat.zero_le _, rfl, Below.refl _ _⟩
  case round =>
    obtain ⟨k, hk, rfl, hB⟩ := hrel
    by_cases hlt : k < l.length
    · skip
      obtain ⟨a', cap', hv, _, hh⟩ := hsl.ext hB
      cases hv
      obtain ⟨b, off, rfl, _, _, hc⟩ := hh (by omega)
      obtain ⟨c0, c1⟩ := Chss.at hc hlt
      obtain ⟨a', cap', hv, _, hh2⟩ := hsl2.ext hB
      cases hv
      obtain ⟨b2, off2, rfl, _, _, hc2⟩ := hh2 (by omega)
      obtain ⟨d0, d1⟩ := Chss.at hc2 hlt
      clear hc hh hsl hc2 hh2 hsl2
      generalize l[k] = x at *
      go_wp2_with fail
      have hb0 := World.block_lt_of_cell? wr _ c0
      have hb2 := World.block_lt_of_cell? wr _ d0
      go_region_held3 (fun w' => (∀ b o, b < wr.heap.size → w'.cell? ⟨b, o, none⟩ = wr.cell? ⟨b, o, none⟩) ∧ Below wr.heap.size wr w') (first | exact held0 _ | exact heldS (w1 := wr.drew) (Below.refl _ _).drew (by assumption)) (first | (go_at_call 76; refine (law_eqChartStep x _).mono ?_; rintro e w1 ⟨rfl, hb1⟩))
      go_wp2
      go_roundw
      case rel => exact ⟨k + 1, by omega, by go_num, hB.drew.trans (hb1.mono hB.size)⟩
      case measure => simp [intOf]; omega
    · go_wp2
      go_ret
      exact ⟨rfl, hB⟩
def szChs (l : List Chs) : Int := l.length
theorem szChs_len (l : List Chs) : (l.length : Int) ≤ szChs l := by unfold szChs; omega
theorem law_szChartStepS (v : Value) (l : List Chs) (lo hi : Nat) (n : Int) (w : World) (h : Chss lo hi w v l) (_hwf : ∀ x ∈ l, x.wf) (h0 : 0 ≤ n) (hn : n ≤ 1048576) :
    Calls Tryd.prog 40 #[v, .int .i64 n] w fun e w' => e = .returned (.int .i64 (szRes n (szChs l))) ∧ Below w.heap.size w w' := by
  unfold szChs
  obtain ⟨a, cap, rfl, hlen, hh⟩ := h
  clear hh _hwf
  by_cases hc : n < l.length
  · go_enter Tryd.func40, Tryd.ntmps40
    go_wp2
    go_ret
    exact ⟨ret_int (szRes_lt hc).symm, Below.refl _ _⟩
  · go_enter Tryd.func40, Tryd.ntmps40
    go_wp2
    go_ret
    exact ⟨ret_int (szRes_ge (by omega)).symm, Below.refl _ _⟩
def markChs (k : Nat) : Chs := ⟨((k : Nat) : Int), ((k + 1 : Nat) : Int)⟩
def marksChs (n k : Nat) : List Chs := (List.range n).map fun i => markChs (k + i * 2)
theorem marksChs_len (n k : Nat) : (marksChs n k).length = n := by simp [marksChs]
theorem marksChs_get {n k i : Nat} (h : i < (marksChs n k).length) : (marksChs n k)[i] = markChs (k + i * 2) := by simp [marksChs]
theorem marksChs_row {n k i : Nat} (h : i < n) : (marksChs n k)[i]? = some (markChs (k + i * 2)) := by simp [marksChs, h]
set_option maxRecDepth 100000 in
set_option maxHeartbeats 2000000 in
theorem law_markChartStepS (v : Value) (l : List Chs) (lo hi k : Nat) (w : World) (h : Slw 2 Chs.cells lo hi w v l) (hhi : hi ≤ w.heap.size) (hk : 1 ≤ k) (hkb : k + l.length * 2 ≤ 1099511627776) :
    Calls Tryd.prog 50 #[v, .int .i64 k] w fun e w' => e = .returned (.int .i64 ((k + l.length * 2 : Nat) : Int)) ∧ Slw 2 Chs.cells lo hi w' v (marksChs l.length k) ∧ Mod lo hi w w' := by
  by_cases h0 : 0 < l.length
  · obtain ⟨b, off, cap, rfl, hcap, hraw⟩ := Raw.of h Chs.len h0
    have hlen : l.length ≤ 1099511627776 := by omega
    have Hr0 := Lib.hid hraw
    have hlo := hraw.lo
    have hhb := hraw.hi
    clear hraw h
    go_enter Tryd.func50, Tryd.ntmps50
    go_wp2
    go_loopw [1, 5] (fun s i wr => ∃ j : Nat, j ≤ l.length ∧ i = .int .i64 j ∧ s = .int .i64 ((k : Int) + j * 2) ∧ Mod lo hi w wr ∧ ∃ rows, Hid (rows.length = l.length) ∧ Hid (Raw 2 lo hi wr b off rows) ∧ Hid (∀ i, i < j → rows[i]? = some (Chs.cells (markChs (k + i * 2))))) (fun _ i _ => l.length - (intOf i).toNat)
    case atStart => exact ⟨0, Nat.zero_le _, rfl, by go_num, Mod.refl _ _ _, _, Lib.hid (by simp), Hr0, Lib.hid (fun i hi => absurd hi (by omega))⟩
    case round =>
      obtain ⟨j, hj, rfl, rfl, hM, rows, hrl, hrw, hdone⟩ := hrel
      by_cases hlt : j < l.length
      · have hjr : j < rows.length := by rw [hrl.out]; exact hlt
        have hRaw := hrw.out.self hjr
        obtain ⟨r0, r1, hrow⟩ : ∃ r0 r1, rows[j] = [r0, r1] := by
          have h4 := hrw.out.len j hjr
          match rows[j], h4 with
          | [r0, r1], _ => exact ⟨_, _, rfl⟩
        rw [hrow] at hRaw
        have hMs := hM.size
        clear hrow Hr0
        have c0 := hRaw.cell j (by simpa using hjr) 0 (r0) (by simp)
        have c1 := hRaw.cell j (by simpa using hjr) 1 (r1) (by simp)
        simp only [Nat.add_zero] at c0
        have cz := hRaw.free
        have HR := Lib.hid hRaw
        clear hRaw
        go_wp2
        go_roundw
        case rel =>
          refine ⟨j + 1, by omega, by go_num, by go_num, ((hM.setCell hlo hhb _).setCell hlo hhb _), _, Lib.hid (by rw [List.length_set]; exact hrl.out), Lib.hid ((HR.out.store (j := 0) hjr (by omega) (by omega)).store (j := 1) hjr (by omega) (by omega)), Lib.hid ?_⟩
          intro i hi
          rw [List.getElem?_set]
          by_cases hij : j = i
          · subst hij
            rw [if_pos rfl, if_pos hjr]
            simp only [List.set_cons_zero, List.set_cons_succ, Chs.cells, markChs]
            congr
            all_goals first | rfl | omega | (rw [Bool.eq_iff_iff]; simp; omega) | skip
          · rw [if_neg hij]
            exact hdone.out i (by omega)
        case measure => simp [intOf]; omega
      · have : j = l.length := by omega
        subst this
        have Hfin : Hid (Slw 2 Chs.cells lo hi wr (.slice (some ⟨b, off, none⟩) l.length cap) (marksChs l.length k)) := Lib.hid (hrw.out.back _ (fun i hi => by
          rw [marksChs_get hi]; exact hdone.out i (by rw [marksChs_len] at hi; exact hi)) (by rw [marksChs_len]) (by rw [marksChs_len]; exact hcap))
        go_wp2
        go_ret
        exact ⟨ret_int (by omega), Hfin.out, hM⟩
  · have he : l = [] := by cases l with | nil => rfl | cons x r => simp at h0
    subst he
    have hS := Lib.hid h
    obtain ⟨⟨a, cap, rfl, hlen, hh⟩, hz⟩ := h
    clear hh hz
    go_enter Tryd.func50, Tryd.ntmps50
    go_wp2
    go_loopw [1, 5] (fun s i wr => i = .int .i64 0 ∧ s = .int .i64 k ∧ wr = w) (fun _ i _ => 0)
    case atStart => exact ⟨rfl, rfl, rfl⟩
    case round =>
      obtain ⟨rfl, rfl, rfl⟩ := hrel
      go_wp2
      go_ret
      exact ⟨ret_int (by simp), hS.out, Mod.refl _ _ _⟩
end Go.Proofs.YteeigmgepahdhaaDoor
