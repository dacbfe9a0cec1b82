/- Signer: its reading, and the laws' helpers. -/
import Derived.Test.YtjjibdjliejcfaaGreatDoorChecked
import Derived.Test.YtjjibdjliejcfaaGreatDoorOpen
import Derived.Test.YtjjibdjliejcfaaGreatDoorMarkT
namespace Go.Proofs.YtjjibdjliejcfaaGreatDoor
open Go.RowKit Go.WideShapes Go.ChangeShapes
structure Sgn where
  name : ByteArray
  key : Int
deriving DecidableEq

def Sgn.cells (x : Sgn) : List Value := [.string x.name, .int .i64 x.key]
abbrev Sgns := Sl 2 Sgn.cells
theorem Sgn.len (x : Sgn) : x.cells.length = 2 := rfl
theorem Sgns.at {w : World} {b off : Nat} {l : List Sgn} (hc : ∀ i (h : i < l.length) j u, (Sgn.cells l[i])[j]? = some u → w.cell? ⟨b, off + i * 2 + j, none⟩ = some u) {k : Nat} (hk : k < l.length) :
    w.cell? ⟨b, off + k * 2, none⟩ = some (.string l[k].name) ∧ w.cell? ⟨b, off + k * 2 + 1, none⟩ = some (.int .i64 l[k].key) :=
  ⟨hc k hk 0 _ rfl, hc k hk 1 _ rfl⟩
def Sgn.wf (x : Sgn) : Prop := x.name.size ≤ maxLen ∧ I64 x.key
instance : Inhabited Sgn := ⟨⟨ByteArray.empty, 0⟩⟩
theorem cellsOf_Signer : Tryz.prog.cellsOf 53 = 2 := by kernel_rfl
theorem cellsOf_Signer_int : Tryz.prog.cellsOf 2 = 1 := by kernel_rfl
theorem cellsOf_Signer_str : Tryz.prog.cellsOf 9 = 1 := by kernel_rfl
theorem open_Signer {H : Type} {enc : TypeId × Value → H} {W : World} {base : Nat} {spare : Nat → Bool} {held : Bool} (fuel : Nat) (cs : List Value) (y : DataW H × List MemPlace) (hy : DataW.trod enc Tryz.prog W base spare held fuel 53 cs = some y) :
    ∃ x : Sgn, cs = x.cells ∧ x.wf := by
  obtain ⟨xs, n, rfl, rfl, hl, hxs, hf⟩ := DataW.trod_struct Tryz.underlying53 hy
  rw [cellsOf_Signer] at hl
  have hxs' : xs.length = 2 := hxs
  obtain ⟨x0, e0, w0⟩ := field_string (m := 0) (i := 0) (by omega) Tryz.underlying9 cellsOf_Signer_str (hf 0 _ rfl) rfl
  obtain ⟨x1, e1, w1⟩ := field_int (m := 1) (i := 1) (by omega) Tryz.underlying2 cellsOf_Signer_int (hf 1 _ rfl) rfl
  refine ⟨⟨x0, x1⟩, ?_, w0, i64_of_wf w1⟩
  refine List.ext_getElem? fun i => ?_
  match i with
  | 0 => exact e0
  | 1 => exact e1
  | i + 2 => rw [List.getElem?_eq_none (by omega), List.getElem?_eq_none (by simp [Sgn.cells])]
set_option maxRecDepth 100000 in
theorem open_ASigner {H : Type} {enc : TypeId × Value → H} {W : World} {base : Nat} {v : Value} {d : DataW H} {p : List MemPlace} (hv : Value.okWide Tryz.prog W .any base 53 v)
    (h : DataW.Trod enc Tryz.prog W 0 (fun _ => true) true 53 v d p) (_hlt : ∀ x ∈ p, x.block < W.heap.size) : ∃ x : Sgn, v = .agg x.cells.toArray ∧ x.wf := by
  obtain ⟨cs, rfl, _⟩ := okWide_struct Tryz.underlying53 hv
  obtain ⟨fuel, hf⟩ := h
  obtain ⟨x, hx, hw⟩ := open_Signer fuel _ _ hf
  exact ⟨x, by rw [← hx]; simp [Value.cells], hw⟩
set_option maxRecDepth 100000 in
theorem open_SSigner {H : Type} {enc : TypeId × Value → H} {W : World} {base : Nat} {v : Value} {d : DataW H} {p : List MemPlace} (hv : Value.okWide Tryz.prog W .any base 22 v)
    (h : DataW.Trod enc Tryz.prog W 0 (fun _ => true) true 22 v d p) (_hlt : ∀ x ∈ p, x.block < W.heap.size) : ∃ l : List Sgn, Sgns 0 W.heap.size W v l ∧ ∀ x ∈ l, x.wf :=
  open_list Tryz.underlying22 cellsOf_Signer (by omega) open_Signer h (okWide_slice Tryz.underlying22 hv)
set_option maxHeartbeats 1000000 in
theorem law_toSigner (x : Sgn) (w : World) :
    Calls Tryz.prog 32 #[.agg x.cells.toArray] w fun e w' => e = .returned (.agg x.cells.toArray) ∧ Below w.heap.size w w' := by
  obtain ⟨x0, x1⟩ := x
  simp only [Sgn.cells]
  go_enter Tryz.func32, Tryz.ntmps32
  go_wp2
  exact bodyPost_ret (v := .agg #[.string x0, .int .i64 x1]) (by simp [results, Tryz.results32, go_sem]) rfl ⟨rfl, by
    refine (((Below.refl _ _).alloc (Nat.le_refl _) _).alloc (by simp) _).alloc (by simp; omega) _⟩
set_option maxHeartbeats 1000000 in
theorem law_eqSigner (x : Sgn) (w : World) :
    Calls Tryz.prog 35 #[.agg x.cells.toArray, .agg x.cells.toArray] w fun e w' => e = .returned (.bool true) ∧ Below w.heap.size w w' := by
  obtain ⟨x0, x1⟩ := x
  simp only [Sgn.cells]
  go_enter Tryz.func35, Tryz.ntmps35
  go_wp2
  go_ret
  exact ⟨rfl, ((Below.refl _ _).alloc (Nat.le_refl _) _).alloc (by simp) _⟩
theorem info_Signer : (Tryz.prog.info? 59).map (fun i => (i.zero.isSome, i.size, i.bytes)) = some (true, 2, 24) := by kernel_rfl
set_option maxHeartbeats 1000000 in
theorem law_toSignerS (v : Value) (l : List Sgn) (lo hi : Nat) (w : World) (h : Sgns lo hi w v l) (hn : l.length ≤ 1048576) :
    Calls Tryz.prog 10 #[v] w fun e w' => ∃ v', e = .returned v' ∧ Slw 2 Sgn.cells w.heap.size w'.heap.size w' v' l ∧ Below w.heap.size w w' := by
  obtain ⟨cs, hmk, hcs⟩ := make_rows (P := Tryz.prog) 27 59 2 24 (by simp) info_Signer l.length (by omega) (by omega) w
  obtain ⟨f0, hf0⟩ := rowIs_made (w := w) (t := 59) hcs
  have Hf0 := Lib.hid hf0
  clear hf0 hcs
  have hsl := h
  obtain ⟨a, cap, rfl, hlen, hh⟩ := h
  clear hh
  go_enter Tryz.func10, Tryz.ntmps10
  go_wp2
  go_loopw [4] (fun i wr => ∃ k : Nat, k ≤ l.length ∧ i = .int .i64 k ∧ Below w.heap.size w wr ∧ ∃ f, Hid (wr.rowIs w.heap.size 59 (l.length * 2) f) ∧ Fill 2 Sgn.cells l k f) (fun i _ => l.length - (intOf i).toNat)
  case atStart => exact ⟨0, Nat.zero_le _, rfl, (Below.refl _ _).alloc (Nat.le_refl _) _, f0, Hf0, Fill.zero⟩
  case round =>
    obtain ⟨k, hk, rfl, hB, f, hf, hfill⟩ := hrel
    by_cases hlt : k < l.length
    · have hlt2 := hf.out.lt
      obtain ⟨a', cap', hv, _, hh⟩ := hsl.ext hB
      cases hv
      obtain ⟨b, off, rfl, _, _, hc⟩ := hh (by omega)
      obtain ⟨c0, c1⟩ := Sgns.at hc hlt
      clear hc hh hsl hmk
      have Hg := Lib.hid (fun g => hfill.step hlt Sgn.len (g := g))
      generalize l[k] = x at *
      go_wp2_with fail
      refine (law_toSigner x _).mono ?_
      rintro e w1 ⟨rfl, hb1⟩
      simp only [Sgn.cells]
      have hr1 := hf.out.of_block (hb1.block _ hlt2)
      have d0 := hr1.cell (i := k * 2) (by omega)
      have d1 := hr1.cell (i := k * 2 + 1) (by omega)
      have e0 := hr1.frozen (k * 2)
      have e1 := hr1.frozen (k * 2 + 1)
      have Hr1 := Lib.hid hr1
      clear hr1
      go_wp2
      go_roundw
      case rel =>
        exact ⟨k + 1, by omega, by go_num, ((hB.trans (hb1.mono (by omega))).setCell (Nat.le_refl _) _).setCell (Nat.le_refl _) _,
          _, Lib.hid (((Hr1.out).set _ _).set _ _), Hg.out _ (upd2 _ _ _ _)⟩
      case measure => simp [intOf]; omega
    · have : k = l.length := by omega
      subst this
      go_wp2
      go_ret
      exact ⟨_, rfl, Slw.of_row hf.out hfill Sgn.len (Nat.le_trans hlen.1 hlen.2) (Nat.le_refl _) hf.out.lt, hB⟩
set_option maxHeartbeats 1000000 in
theorem law_eqSignerS (v v2 : Value) (l : List Sgn) (lo hi lo2 hi2 : Nat) (w : World) (h : Sgns lo hi w v l) (h2 : Sgns lo2 hi2 w v2 l) :
    Calls Tryz.prog 13 #[v, v2] w fun e w' => e = .returned (.bool true) ∧ Below w.heap.size w w' := by
  have hsl := h
  have hsl2 := h2
  obtain ⟨a, cap, rfl, hlen, hh⟩ := h
  obtain ⟨a2, cap2, rfl, _, hh2⟩ := h2
  clear hh hh2
  go_enter Tryz.func13, Tryz.ntmps13
  go_wp2
  go_loopw [5] (fun i wr => ∃ k : Nat, k ≤ l.length ∧ i = .int .i64 k ∧ Below w.heap.size w wr) (fun i _ => l.length - (intOf i).toNat)
  case atStart => exact ⟨0, Nat.zero_le _, rfl, Below.refl _ _⟩
  case round =>
    obtain ⟨k, hk, rfl, hB⟩ := hrel
    by_cases hlt : k < l.length
    · skip
      obtain ⟨a', cap', hv, _, hh⟩ := hsl.ext hB
      cases hv
      obtain ⟨b, off, rfl, _, _, hc⟩ := hh (by omega)
      obtain ⟨c0, c1⟩ := Sgns.at hc hlt
      obtain ⟨a', cap', hv, _, hh2⟩ := hsl2.ext hB
      cases hv
      obtain ⟨b2, off2, rfl, _, _, hc2⟩ := hh2 (by omega)
      obtain ⟨d0, d1⟩ := Sgns.at hc2 hlt
      clear hc hh hsl hc2 hh2 hsl2
      generalize l[k] = x at *
      go_wp2_with fail
      have hb0 := World.block_lt_of_cell? wr _ c0
      have hb2 := World.block_lt_of_cell? wr _ d0
      go_region_held3 (fun w' => (∀ b o, b < wr.heap.size → w'.cell? ⟨b, o, none⟩ = wr.cell? ⟨b, o, none⟩) ∧ Below wr.heap.size wr w') (first | exact held0 _ | exact heldS (w1 := wr.drew) (Below.refl _ _).drew (by assumption)) (first | (go_at_call 35; refine (law_eqSigner x _).mono ?_; rintro e w1 ⟨rfl, hb1⟩))
      go_wp2
      go_roundw
      case rel => exact ⟨k + 1, by omega, by go_num, hB.drew.trans (hb1.mono hB.size)⟩
      case measure => simp [intOf]; omega
    · go_wp2
      go_ret
      exact ⟨rfl, hB⟩
def Sgn.cost (x : Sgn) : Int := (x.name.size : Int)
def szSgn (l : List Sgn) : Int := l.length + sumOn Sgn.cost l
theorem Sgn.cost_nonneg (x : Sgn) : 0 ≤ x.cost := by unfold Sgn.cost; omega
theorem szSgn_len (l : List Sgn) : (l.length : Int) ≤ szSgn l := by have := sumOn_nonneg Sgn.cost_nonneg l; unfold szSgn; omega
set_option maxHeartbeats 1000000 in
theorem law_szSigner (x : Sgn) (n : Int) (w : World) (hwf : x.wf) (h0 : 0 ≤ n) (hn : n ≤ 1048576) :
    Calls Tryz.prog 30 #[.agg x.cells.toArray, .int .i64 n] w fun e w' => e = .returned (.int .i64 (szRes n x.cost)) ∧ Below w.heap.size w w' := by
  by_cases hc : n < x.cost
  · rw [szRes_lt hc]
    have Hc := Lib.hid hc
    obtain ⟨x0, x1⟩ := x
    simp only [Sgn.wf, maxLen] at hwf
    simp only [Sgn.cost] at hc
    simp only [Sgn.cells]
    clear Hc
    go_enter Tryz.func30, Tryz.ntmps30
    go_wp2
    go_ret
    exact ⟨rfl, (Below.refl _ _).alloc (Nat.le_refl _) _⟩
  · rw [szRes_ge hc]
    have Hc : Hid (x.cost = x.cost) := Lib.hid rfl
    generalize hr : n - x.cost = r
    obtain ⟨x0, x1⟩ := x
    simp only [Sgn.wf, maxLen] at hwf
    simp only [Sgn.cost] at hc
    simp only [Sgn.cells]
    clear Hc
    simp only [Sgn.cost] at hr
    have Hr := Lib.hid hr
    clear hr
    go_enter Tryz.func30, Tryz.ntmps30
    go_wp2
    go_ret
    exact ⟨ret_int (by have := Hr.out; omega), (Below.refl _ _).alloc (Nat.le_refl _) _⟩
set_option maxHeartbeats 1000000 in
theorem law_szSignerS (v : Value) (l : List Sgn) (lo hi : Nat) (n : Int) (w : World) (h : Sgns lo hi w v l) (hwf : ∀ x ∈ l, x.wf) (h0 : 0 ≤ n) (hn : n ≤ 1048576) :
    Calls Tryz.prog 8 #[v, .int .i64 n] w fun e w' => e = .returned (.int .i64 (szRes n (szSgn l))) ∧ Below w.heap.size w w' := by
  have hsl := h
  obtain ⟨a, cap, rfl, hlen, hh⟩ := h
  clear hh
  have Hwf := Lib.hid hwf
  clear hwf
  have hs0 := sumOn_nonneg Sgn.cost_nonneg l
  by_cases hc : n < l.length
  · rw [szRes_lt (show n < szSgn l by unfold szSgn; omega)]
    go_enter Tryz.func8, Tryz.ntmps8
    go_wp2
    go_ret
    exact ⟨rfl, Below.refl _ _⟩
  · go_enter Tryz.func8, Tryz.ntmps8
    go_wp2
    go_loopw [1, 5] (fun r i wr => ∃ k : Nat, k ≤ l.length ∧ i = .int .i64 k ∧ ∃ m : Int, r = .int .i64 m ∧ 0 ≤ m ∧ m ≤ n ∧ Hid (m = n - l.length - sumOn Sgn.cost (l.take k)) ∧ Below w.heap.size w wr) (fun _ i _ => l.length - (intOf i).toNat)
    case atStart => exact ⟨0, Nat.zero_le _, rfl, _, rfl, by omega, by omega, Lib.hid (by simp [sumOn]), Below.refl _ _⟩
    case round =>
      obtain ⟨k, hk, rfl, m, rfl, hm0, hmn, hm, hB⟩ := hrel
      by_cases hlt : k < l.length
      · skip
        obtain ⟨a', cap', hv, _, hh⟩ := hsl.ext hB
        cases hv
        obtain ⟨b, off, rfl, _, _, hc'⟩ := hh (by omega)
        obtain ⟨c0, c1⟩ := Sgns.at hc' hlt
        clear hc' hh hsl
        have hst := sumOn_take_succ Sgn.cost hlt
        have hle := sumOn_take_le Sgn.cost_nonneg l (k + 1)
        have hxw := Hwf.out _ (List.getElem_mem hlt)
        have Hst := Lib.hid hst
        have Hle := Lib.hid hle
        clear hst hle
        generalize l[k] = x at *
        have hxc := Sgn.cost_nonneg x
        have Hxw := Lib.hid hxw
        clear hxw
        have hw := fun w => law_szSigner x m w Hxw.out hm0 (by omega)
        simp only [Sgn.cells] at hw
        by_cases hx : m < x.cost
        · simp only [szRes_lt hx] at hw
          have Hw := Lib.hid hw
          have Hr : Hid (n < szSgn l) := Lib.hid (by unfold szSgn; have := hm.out; have := Hst.out; have := Hle.out; omega)
          clear hw
          go_wp2_with (go_at_call 30; refine (Hw.out _).mono ?_; rintro e w1 ⟨rfl, hb1⟩)
          go_ret
          exact ⟨ret_int (szRes_lt Hr.out).symm, hB.trans (hb1.mono hB.size)⟩
        · simp only [szRes_ge hx] at hw
          have Hw := Lib.hid hw
          have hnx : 0 ≤ m - x.cost := by omega
          clear hw hx
          go_wp2_with (go_at_call 30; refine (Hw.out _).mono ?_; rintro e w1 ⟨rfl, hb1⟩)
          go_roundw
          case rel => exact ⟨k + 1, by omega, by go_num, _, rfl, by omega, by omega, Lib.hid (by have := hm.out; have := Hst.out; omega), hB.trans (hb1.mono hB.size)⟩
          case measure => simp [intOf]; omega
      · have : k = l.length := by omega
        subst this
        have hm' := hm.out
        rw [List.take_length] at hm'
        have Hm := Lib.hid hm'
        clear hm'
        go_wp2
        go_ret
        have := Hm.out
        exact ⟨ret_int (by rw [szRes_ge (show ¬ n < szSgn l by unfold szSgn; omega)]; unfold szSgn; omega), hB⟩
def markSgn (k : Nat) : Sgn := ⟨markB (k), ((k + 1 : Nat) : Int)⟩
def marksSgn (n k : Nat) : List Sgn := (List.range n).map fun i => markSgn (k + i * 2)
theorem marksSgn_len (n k : Nat) : (marksSgn n k).length = n := by simp [marksSgn]
theorem marksSgn_get {n k i : Nat} (h : i < (marksSgn n k).length) : (marksSgn n k)[i] = markSgn (k + i * 2) := by simp [marksSgn]
theorem marksSgn_row {n k i : Nat} (h : i < n) : (marksSgn n k)[i]? = some (markSgn (k + i * 2)) := by simp [marksSgn, h]
set_option maxRecDepth 100000 in
set_option maxHeartbeats 2000000 in
theorem law_markSignerS (v : Value) (l : List Sgn) (lo hi k : Nat) (w : World) (h : Slw 2 Sgn.cells lo hi w v l) (hhi : hi ≤ w.heap.size) (hk : 1 ≤ k) (hkb : k + l.length * 2 ≤ 1099511627776) :
    Calls Tryz.prog 14 #[v, .int .i64 k] w fun e w' => e = .returned (.int .i64 ((k + l.length * 2 : Nat) : Int)) ∧ Slw 2 Sgn.cells lo hi w' v (marksSgn l.length k) ∧ Mod lo hi w w' := by
  by_cases h0 : 0 < l.length
  · obtain ⟨b, off, cap, rfl, hcap, hraw⟩ := Raw.of h Sgn.len h0
    have hlen : l.length ≤ 1099511627776 := by omega
    have Hr0 := Lib.hid hraw
    have hlo := hraw.lo
    have hhb := hraw.hi
    clear hraw h
    go_enter Tryz.func14, Tryz.ntmps14
    go_wp2
    go_loopw [1, 5] (fun s i wr => ∃ j : Nat, j ≤ l.length ∧ i = .int .i64 j ∧ s = .int .i64 ((k : Int) + j * 2) ∧ Mod lo hi w wr ∧ ∃ rows, Hid (rows.length = l.length) ∧ Hid (Raw 2 lo hi wr b off rows) ∧ Hid (∀ i, i < j → rows[i]? = some (Sgn.cells (markSgn (k + i * 2))))) (fun _ i _ => l.length - (intOf i).toNat)
    case atStart => exact ⟨0, Nat.zero_le _, rfl, by go_num, Mod.refl _ _ _, _, Lib.hid (by simp), Hr0, Lib.hid (fun i hi => absurd hi (by omega))⟩
    case round =>
      obtain ⟨j, hj, rfl, rfl, hM, rows, hrl, hrw, hdone⟩ := hrel
      by_cases hlt : j < l.length
      · have hjr : j < rows.length := by rw [hrl.out]; exact hlt
        have hRaw := hrw.out.self hjr
        obtain ⟨r0, r1, hrow⟩ : ∃ r0 r1, rows[j] = [r0, r1] := by
          have h4 := hrw.out.len j hjr
          match rows[j], h4 with
          | [r0, r1], _ => exact ⟨_, _, rfl⟩
        rw [hrow] at hRaw
        have hMs := hM.size
        clear hrow Hr0
        have c0 := hRaw.cell j (by simpa using hjr) 0 (r0) (by simp)
        have c1 := hRaw.cell j (by simpa using hjr) 1 (r1) (by simp)
        simp only [Nat.add_zero] at c0
        have cz := hRaw.free
        have HR := Lib.hid hRaw
        clear hRaw
        go_wp2_with fail
        have hMid := trivial
        rw [show ((k : Int) + (j : Int) * 2) = ((k + j * 2 : Nat) : Int) from by omega]
        refine (law_markText (k + j * 2) _ (by omega) (by omega)).mono ?_
        rintro e w1 ⟨rfl, hb1⟩
        have hRaw := (HR.out).ext (by first | omega | (simp; omega)) hb1
        have hM := (hM).then hb1
        clear HR cz c0 c1
        try simp only [List.set_cons_zero] at hRaw
        have c0 := hRaw.cell j (by simpa using hjr) 0 (r0) (by simp)
        have c1 := hRaw.cell j (by simpa using hjr) 1 (r1) (by simp)
        simp only [Nat.add_zero] at c0
        have cz := hRaw.free
        have HR := Lib.hid hRaw
        clear hRaw
        have hMs := hM.size
        go_wp2
        go_roundw
        case rel =>
          refine ⟨j + 1, by omega, by go_num, by go_num, ((hM.setCell hlo hhb _).setCell hlo hhb _), _, Lib.hid (by rw [List.length_set]; exact hrl.out), Lib.hid ((HR.out.store (j := 0) hjr (by omega) (by omega)).store (j := 1) hjr (by omega) (by omega)), Lib.hid ?_⟩
          intro i hi
          rw [List.getElem?_set]
          by_cases hij : j = i
          · subst hij
            rw [if_pos rfl, if_pos hjr]
            simp only [List.set_cons_zero, List.set_cons_succ, Sgn.cells, markSgn]
            congr
            all_goals first | rfl | omega | (rw [Bool.eq_iff_iff]; simp; omega) | skip
          · rw [if_neg hij]
            exact hdone.out i (by omega)
        case measure => simp [intOf]; omega
      · have : j = l.length := by omega
        subst this
        have Hfin : Hid (Slw 2 Sgn.cells lo hi wr (.slice (some ⟨b, off, none⟩) l.length cap) (marksSgn l.length k)) := Lib.hid (hrw.out.back _ (fun i hi => by
          rw [marksSgn_get hi]; exact hdone.out i (by rw [marksSgn_len] at hi; exact hi)) (by rw [marksSgn_len]) (by rw [marksSgn_len]; exact hcap))
        go_wp2
        go_ret
        exact ⟨ret_int (by omega), Hfin.out, hM⟩
  · have he : l = [] := by cases l with | nil => rfl | cons x r => simp at h0
    subst he
    have hS := Lib.hid h
    obtain ⟨⟨a, cap, rfl, hlen, hh⟩, hz⟩ := h
    clear hh hz
    go_enter Tryz.func14, Tryz.ntmps14
    go_wp2
    go_loopw [1, 5] (fun s i wr => i = .int .i64 0 ∧ s = .int .i64 k ∧ wr = w) (fun _ i _ => 0)
    case atStart => exact ⟨rfl, rfl, rfl⟩
    case round =>
      obtain ⟨rfl, rfl, rfl⟩ := hrel
      go_wp2
      go_ret
      exact ⟨ret_int (by simp), hS.out, Mod.refl _ _ _⟩
end Go.Proofs.YtjjibdjliejcfaaGreatDoor
