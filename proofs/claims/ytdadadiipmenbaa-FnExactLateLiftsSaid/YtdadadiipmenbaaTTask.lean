/- Task: its reading, and the laws' helpers. -/
import Derived.Test.YtdadadiipmenbaaChecked
import Derived.Test.YtdadadiipmenbaaOpen
import Derived.Test.YtdadadiipmenbaaMark
namespace Go.Proofs.Ytdadadiipmenbaa
open Go.RowKit Go.WideShapes Go.ChangeShapes
structure Tsk where
  lift : Int
  crane : Int
  start : Int
  fin : Int
deriving DecidableEq

def Tsk.cells (x : Tsk) : List Value := [.int .i64 x.lift, .int .i64 x.crane, .int .i64 x.start, .int .i64 x.fin]
abbrev Tsks := Sl 4 Tsk.cells
theorem Tsk.len (x : Tsk) : x.cells.length = 4 := rfl
theorem Tsks.at {w : World} {b off : Nat} {l : List Tsk} (hc : ∀ i (h : i < l.length) j u, (Tsk.cells l[i])[j]? = some u → w.cell? ⟨b, off + i * 4 + j, none⟩ = some u) {k : Nat} (hk : k < l.length) :
    w.cell? ⟨b, off + k * 4, none⟩ = some (.int .i64 l[k].lift) ∧ w.cell? ⟨b, off + k * 4 + 1, none⟩ = some (.int .i64 l[k].crane) ∧ w.cell? ⟨b, off + k * 4 + 2, none⟩ = some (.int .i64 l[k].start) ∧ w.cell? ⟨b, off + k * 4 + 3, none⟩ = some (.int .i64 l[k].fin) :=
  ⟨hc k hk 0 _ rfl, hc k hk 1 _ rfl, hc k hk 2 _ rfl, hc k hk 3 _ rfl⟩
def Tsk.wf (x : Tsk) : Prop := I64 x.lift ∧ I64 x.crane ∧ I64 x.start ∧ I64 x.fin
instance : Inhabited Tsk := ⟨⟨0, 0, 0, 0⟩⟩
theorem cellsOf_Task : Try.prog.cellsOf 94 = 4 := by kernel_rfl
theorem cellsOf_Task_int : Try.prog.cellsOf 2 = 1 := by kernel_rfl
theorem open_Task {H : Type} {enc : TypeId × Value → H} {W : World} {base : Nat} {spare : Nat → Bool} {held : Bool} (fuel : Nat) (cs : List Value) (y : DataW H × List MemPlace) (hy : DataW.trod enc Try.prog W base spare held fuel 94 cs = some y) :
    ∃ x : Tsk, cs = x.cells ∧ x.wf := by
  obtain ⟨xs, n, rfl, rfl, hl, hxs, hf⟩ := DataW.trod_struct Try.underlying94 hy
  rw [cellsOf_Task] at hl
  have hxs' : xs.length = 4 := hxs
  obtain ⟨x0, e0, w0⟩ := field_int (m := 0) (i := 0) (by omega) Try.underlying2 cellsOf_Task_int (hf 0 _ rfl) rfl
  obtain ⟨x1, e1, w1⟩ := field_int (m := 1) (i := 1) (by omega) Try.underlying2 cellsOf_Task_int (hf 1 _ rfl) rfl
  obtain ⟨x2, e2, w2⟩ := field_int (m := 2) (i := 2) (by omega) Try.underlying2 cellsOf_Task_int (hf 2 _ rfl) rfl
  obtain ⟨x3, e3, w3⟩ := field_int (m := 3) (i := 3) (by omega) Try.underlying2 cellsOf_Task_int (hf 3 _ rfl) rfl
  refine ⟨⟨x0, x1, x2, x3⟩, ?_, i64_of_wf w0, i64_of_wf w1, i64_of_wf w2, i64_of_wf w3⟩
  refine List.ext_getElem? fun i => ?_
  match i with
  | 0 => exact e0
  | 1 => exact e1
  | 2 => exact e2
  | 3 => exact e3
  | i + 4 => rw [List.getElem?_eq_none (by omega), List.getElem?_eq_none (by simp [Tsk.cells])]
set_option maxRecDepth 100000 in
theorem open_ATask {H : Type} {enc : TypeId × Value → H} {W : World} {base : Nat} {v : Value} {d : DataW H} {p : List MemPlace} (hv : Value.okWide Try.prog W .any base 94 v)
    (h : DataW.Trod enc Try.prog W 0 (fun _ => true) true 94 v d p) (_hlt : ∀ x ∈ p, x.block < W.heap.size) : ∃ x : Tsk, v = .agg x.cells.toArray ∧ x.wf := by
  obtain ⟨cs, rfl, _⟩ := okWide_struct Try.underlying94 hv
  obtain ⟨fuel, hf⟩ := h
  obtain ⟨x, hx, hw⟩ := open_Task fuel _ _ hf
  exact ⟨x, by rw [← hx]; simp [Value.cells], hw⟩
set_option maxRecDepth 100000 in
theorem open_STask {H : Type} {enc : TypeId × Value → H} {W : World} {base : Nat} {v : Value} {d : DataW H} {p : List MemPlace} (hv : Value.okWide Try.prog W .any base 49 v)
    (h : DataW.Trod enc Try.prog W 0 (fun _ => true) true 49 v d p) (_hlt : ∀ x ∈ p, x.block < W.heap.size) : ∃ l : List Tsk, Tsks 0 W.heap.size W v l ∧ ∀ x ∈ l, x.wf :=
  open_list Try.underlying49 cellsOf_Task (by omega) open_Task h (okWide_slice Try.underlying49 hv)
set_option maxHeartbeats 1000000 in
theorem law_toTask (x : Tsk) (w : World) :
    Calls Try.prog 50 #[.agg x.cells.toArray] w fun e w' => e = .returned (.agg x.cells.toArray) ∧ Below w.heap.size w w' := by
  obtain ⟨x0, x1, x2, x3⟩ := x
  simp only [Tsk.cells]
  go_enter Try.func50, Try.ntmps50
  go_wp2
  exact bodyPost_ret (v := .agg #[.int .i64 x0, .int .i64 x1, .int .i64 x2, .int .i64 x3]) (by simp [results, Try.results50, go_sem]) rfl ⟨rfl, by
    refine (((Below.refl _ _).alloc (Nat.le_refl _) _).alloc (by simp) _).alloc (by simp; omega) _⟩
set_option maxHeartbeats 1000000 in
theorem law_eqTask (x : Tsk) (w : World) :
    Calls Try.prog 55 #[.agg x.cells.toArray, .agg x.cells.toArray] w fun e w' => e = .returned (.bool true) ∧ Below w.heap.size w w' := by
  obtain ⟨x0, x1, x2, x3⟩ := x
  simp only [Tsk.cells]
  go_enter Try.func55, Try.ntmps55
  go_wp2
  go_ret
  exact ⟨rfl, ((Below.refl _ _).alloc (Nat.le_refl _) _).alloc (by simp) _⟩
theorem info_Task : (Try.prog.info? 92).map (fun i => (i.zero.isSome, i.size, i.bytes)) = some (true, 4, 32) := by kernel_rfl
set_option maxHeartbeats 1000000 in
theorem law_toTaskS (v : Value) (l : List Tsk) (lo hi : Nat) (w : World) (h : Tsks lo hi w v l) (hn : l.length ≤ 1048576) :
    Calls Try.prog 26 #[v] w fun e w' => ∃ v', e = .returned v' ∧ Slw 4 Tsk.cells w.heap.size w'.heap.size w' v' l ∧ Below w.heap.size w w' := by
  obtain ⟨cs, hmk, hcs⟩ := make_rows (P := Try.prog) 52 92 4 32 (by simp) info_Task l.length (by omega) (by omega) w
  obtain ⟨f0, hf0⟩ := rowIs_made (w := w) (t := 92) hcs
  have Hf0 := Lib.hid hf0
  clear hf0 hcs
  have hsl := h
  obtain ⟨a, cap, rfl, hlen, hh⟩ := h
  clear hh
  go_enter Try.func26, Try.ntmps26
  go_wp2
  go_loopw [4] (fun i wr => ∃ k : Nat, k ≤ l.length ∧ i = .int .i64 k ∧ Below w.heap.size w wr ∧ ∃ f, Hid (wr.rowIs w.heap.size 92 (l.length * 4) f) ∧ Fill 4 Tsk.cells l k f) (fun i _ => l.length - (intOf i).toNat)
  case atStart => exact ⟨0, Nat.zero_le _, rfl, (Below.refl _ _).alloc (Nat.le_refl _) _, f0, Hf0, Fill.zero⟩
  case round =>
    obtain ⟨k, hk, rfl, hB, f, hf, hfill⟩ := hrel
    by_cases hlt : k < l.length
    · have hlt2 := hf.out.lt
      obtain ⟨a', cap', hv, _, hh⟩ := hsl.ext hB
      cases hv
      obtain ⟨b, off, rfl, _, _, hc⟩ := hh (by omega)
      obtain ⟨c0, c1, c2, c3⟩ := Tsks.at hc hlt
      clear hc hh hsl hmk
      have Hg := Lib.hid (fun g => hfill.step hlt Tsk.len (g := g))
      generalize l[k] = x at *
      go_wp2_with fail
      refine (law_toTask x _).mono ?_
      rintro e w1 ⟨rfl, hb1⟩
      simp only [Tsk.cells]
      have hr1 := hf.out.of_block (hb1.block _ hlt2)
      have d0 := hr1.cell (i := k * 4) (by omega)
      have d1 := hr1.cell (i := k * 4 + 1) (by omega)
      have d2 := hr1.cell (i := k * 4 + 2) (by omega)
      have d3 := hr1.cell (i := k * 4 + 3) (by omega)
      have e0 := hr1.frozen (k * 4)
      have e1 := hr1.frozen (k * 4 + 1)
      have e2 := hr1.frozen (k * 4 + 2)
      have e3 := hr1.frozen (k * 4 + 3)
      have Hr1 := Lib.hid hr1
      clear hr1
      go_wp2
      go_roundw
      case rel =>
        exact ⟨k + 1, by omega, by go_num, ((((hB.trans (hb1.mono (by omega))).setCell (Nat.le_refl _) _).setCell (Nat.le_refl _) _).setCell (Nat.le_refl _) _).setCell (Nat.le_refl _) _,
          _, Lib.hid (((((Hr1.out).set _ _).set _ _).set _ _).set _ _), Hg.out _ (upd4 _ _ _ _ _ _)⟩
      case measure => simp [intOf]; omega
    · have : k = l.length := by omega
      subst this
      go_wp2
      go_ret
      exact ⟨_, rfl, Slw.of_row hf.out hfill Tsk.len (Nat.le_trans hlen.1 hlen.2) (Nat.le_refl _) hf.out.lt, hB⟩
set_option maxHeartbeats 1000000 in
theorem law_eqTaskS (v v2 : Value) (l : List Tsk) (lo hi lo2 hi2 : Nat) (w : World) (h : Tsks lo hi w v l) (h2 : Tsks lo2 hi2 w v2 l) :
    Calls Try.prog 28 #[v, v2] w fun e w' => e = .returned (.bool true) ∧ Below w.heap.size w w' := by
  have hsl := h
  have hsl2 := h2
  obtain ⟨a, cap, rfl, hlen, hh⟩ := h
  obtain ⟨a2, cap2, rfl, _, hh2⟩ := h2
  clear hh hh2
  go_enter Try.func28, Try.ntmps28
  go_wp2
  go_loopw [5] (fun i wr => ∃ k : Nat, k ≤ l.length ∧ i = .int .i64 k ∧ Below w.heap.size w wr) (fun i _ => l.length - (intOf i).toNat)
  case atStart => exact ⟨0, Nat.zero_le _, rfl, Below.refl _ _⟩
  case round =>
    obtain ⟨k, hk, rfl, hB⟩ := hrel
    by_cases hlt : k < l.length
    · skip
      obtain ⟨a', cap', hv, _, hh⟩ := hsl.ext hB
      cases hv
      obtain ⟨b, off, rfl, _, _, hc⟩ := hh (by omega)
      obtain ⟨c0, c1, c2, c3⟩ := Tsks.at hc hlt
      obtain ⟨a', cap', hv, _, hh2⟩ := hsl2.ext hB
      cases hv
      obtain ⟨b2, off2, rfl, _, _, hc2⟩ := hh2 (by omega)
      obtain ⟨d0, d1, d2, d3⟩ := Tsks.at hc2 hlt
      clear hc hh hsl hc2 hh2 hsl2
      generalize l[k] = x at *
      go_wp2_with fail
      have hb0 := World.block_lt_of_cell? wr _ c0
      have hb2 := World.block_lt_of_cell? wr _ d0
      go_region_held3 (fun w' => (∀ b o, b < wr.heap.size → w'.cell? ⟨b, o, none⟩ = wr.cell? ⟨b, o, none⟩) ∧ Below wr.heap.size wr w') (first | exact held0 _ | exact heldS (w1 := wr.drew) (Below.refl _ _).drew (by assumption)) (first | (go_at_call 55; refine (law_eqTask x _).mono ?_; rintro e w1 ⟨rfl, hb1⟩))
      go_wp2
      go_roundw
      case rel => exact ⟨k + 1, by omega, by go_num, hB.drew.trans (hb1.mono hB.size)⟩
      case measure => simp [intOf]; omega
    · go_wp2
      go_ret
      exact ⟨rfl, hB⟩
def szTsk (l : List Tsk) : Int := l.length
theorem szTsk_len (l : List Tsk) : (l.length : Int) ≤ szTsk l := by unfold szTsk; omega
theorem law_szTaskS (v : Value) (l : List Tsk) (lo hi : Nat) (n : Int) (w : World) (h : Tsks lo hi w v l) (_hwf : ∀ x ∈ l, x.wf) (h0 : 0 ≤ n) (hn : n ≤ 1048576) :
    Calls Try.prog 24 #[v, .int .i64 n] w fun e w' => e = .returned (.int .i64 (szRes n (szTsk l))) ∧ Below w.heap.size w w' := by
  unfold szTsk
  obtain ⟨a, cap, rfl, hlen, hh⟩ := h
  clear hh _hwf
  by_cases hc : n < l.length
  · go_enter Try.func24, Try.ntmps24
    go_wp2
    go_ret
    exact ⟨ret_int (szRes_lt hc).symm, Below.refl _ _⟩
  · go_enter Try.func24, Try.ntmps24
    go_wp2
    go_ret
    exact ⟨ret_int (szRes_ge (by omega)).symm, Below.refl _ _⟩
def markTsk (k : Nat) : Tsk := ⟨((k : Nat) : Int), ((k + 1 : Nat) : Int), ((k + 2 : Nat) : Int), ((k + 3 : Nat) : Int)⟩
def marksTsk (n k : Nat) : List Tsk := (List.range n).map fun i => markTsk (k + i * 4)
theorem marksTsk_len (n k : Nat) : (marksTsk n k).length = n := by simp [marksTsk]
theorem marksTsk_get {n k i : Nat} (h : i < (marksTsk n k).length) : (marksTsk n k)[i] = markTsk (k + i * 4) := by simp [marksTsk]
theorem marksTsk_row {n k i : Nat} (h : i < n) : (marksTsk n k)[i]? = some (markTsk (k + i * 4)) := by simp [marksTsk, h]
set_option maxRecDepth 100000 in
set_option maxHeartbeats 2000000 in
theorem law_markTaskS (v : Value) (l : List Tsk) (lo hi k : Nat) (w : World) (h : Slw 4 Tsk.cells lo hi w v l) (hhi : hi ≤ w.heap.size) (hk : 1 ≤ k) (hkb : k + l.length * 4 ≤ 1099511627776) :
    Calls Try.prog 29 #[v, .int .i64 k] w fun e w' => e = .returned (.int .i64 ((k + l.length * 4 : Nat) : Int)) ∧ Slw 4 Tsk.cells lo hi w' v (marksTsk l.length k) ∧ Mod lo hi w w' := by
  by_cases h0 : 0 < l.length
  · obtain ⟨b, off, cap, rfl, hcap, hraw⟩ := Raw.of h Tsk.len h0
    have hlen : l.length ≤ 1099511627776 := by omega
    have Hr0 := Lib.hid hraw
    have hlo := hraw.lo
    have hhb := hraw.hi
    clear hraw h
    go_enter Try.func29, Try.ntmps29
    go_wp2
    go_loopw [1, 5] (fun s i wr => ∃ j : Nat, j ≤ l.length ∧ i = .int .i64 j ∧ s = .int .i64 ((k : Int) + j * 4) ∧ Mod lo hi w wr ∧ ∃ rows, Hid (rows.length = l.length) ∧ Hid (Raw 4 lo hi wr b off rows) ∧ Hid (∀ i, i < j → rows[i]? = some (Tsk.cells (markTsk (k + i * 4))))) (fun _ i _ => l.length - (intOf i).toNat)
    case atStart => exact ⟨0, Nat.zero_le _, rfl, by go_num, Mod.refl _ _ _, _, Lib.hid (by simp), Hr0, Lib.hid (fun i hi => absurd hi (by omega))⟩
    case round =>
      obtain ⟨j, hj, rfl, rfl, hM, rows, hrl, hrw, hdone⟩ := hrel
      by_cases hlt : j < l.length
      · have hjr : j < rows.length := by rw [hrl.out]; exact hlt
        have hRaw := hrw.out.self hjr
        obtain ⟨r0, r1, r2, r3, hrow⟩ : ∃ r0 r1 r2 r3, rows[j] = [r0, r1, r2, r3] := by
          have h4 := hrw.out.len j hjr
          match rows[j], h4 with
          | [r0, r1, r2, r3], _ => exact ⟨_, _, _, _, rfl⟩
        rw [hrow] at hRaw
        have hMs := hM.size
        clear hrow Hr0
        have c0 := hRaw.cell j (by simpa using hjr) 0 (r0) (by simp)
        have c1 := hRaw.cell j (by simpa using hjr) 1 (r1) (by simp)
        have c2 := hRaw.cell j (by simpa using hjr) 2 (r2) (by simp)
        have c3 := hRaw.cell j (by simpa using hjr) 3 (r3) (by simp)
        simp only [Nat.add_zero] at c0
        have cz := hRaw.free
        have HR := Lib.hid hRaw
        clear hRaw
        go_wp2
        go_roundw
        case rel =>
          refine ⟨j + 1, by omega, by go_num, by go_num, ((((hM.setCell hlo hhb _).setCell hlo hhb _).setCell hlo hhb _).setCell hlo hhb _), _, Lib.hid (by rw [List.length_set]; exact hrl.out), Lib.hid ((((HR.out.store (j := 0) hjr (by omega) (by omega)).store (j := 1) hjr (by omega) (by omega)).store (j := 2) hjr (by omega) (by omega)).store (j := 3) hjr (by omega) (by omega)), Lib.hid ?_⟩
          intro i hi
          rw [List.getElem?_set]
          by_cases hij : j = i
          · subst hij
            rw [if_pos rfl, if_pos hjr]
            simp only [List.set_cons_zero, List.set_cons_succ, Tsk.cells, markTsk]
            congr
            all_goals first | rfl | omega | (rw [Bool.eq_iff_iff]; simp; omega) | skip
          · rw [if_neg hij]
            exact hdone.out i (by omega)
        case measure => simp [intOf]; omega
      · have : j = l.length := by omega
        subst this
        have Hfin : Hid (Slw 4 Tsk.cells lo hi wr (.slice (some ⟨b, off, none⟩) l.length cap) (marksTsk l.length k)) := Lib.hid (hrw.out.back _ (fun i hi => by
          rw [marksTsk_get hi]; exact hdone.out i (by rw [marksTsk_len] at hi; exact hi)) (by rw [marksTsk_len]) (by rw [marksTsk_len]; exact hcap))
        go_wp2
        go_ret
        exact ⟨ret_int (by omega), Hfin.out, hM⟩
  · have he : l = [] := by cases l with | nil => rfl | cons x r => simp at h0
    subst he
    have hS := Lib.hid h
    obtain ⟨⟨a, cap, rfl, hlen, hh⟩, hz⟩ := h
    clear hh hz
    go_enter Try.func29, Try.ntmps29
    go_wp2
    go_loopw [1, 5] (fun s i wr => i = .int .i64 0 ∧ s = .int .i64 k ∧ wr = w) (fun _ i _ => 0)
    case atStart => exact ⟨rfl, rfl, rfl⟩
    case round =>
      obtain ⟨rfl, rfl, rfl⟩ := hrel
      go_wp2
      go_ret
      exact ⟨ret_int (by simp), hS.out, Mod.refl _ _ _⟩
end Go.Proofs.Ytdadadiipmenbaa
