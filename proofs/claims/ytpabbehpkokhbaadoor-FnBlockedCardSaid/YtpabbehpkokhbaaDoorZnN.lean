/- Zones, the program: whether a zone is valid. Zones, the program: valid zones. -/
import Derived.Test.YtpabbehpkokhbaaDoorZnK
namespace Go.Proofs.YtpabbehpkokhbaaDoor
open Go.RowKit
def TurnA (C : List Pnt) (k : Nat) : Prop := ∀ i, i < C.length → turnOk C k i
open Classical in
noncomputable def turnB (C : List Pnt) (k : Nat) : Bool := decide (TurnA C k)
theorem turnB_iff {C : List Pnt} {k : Nat} : turnB C k = true ↔ TurnA C k := ⟨fun h => by classical exact of_decide_eq_true h, fun h => by classical exact decide_eq_true h⟩
set_option maxRecDepth 100000 in
set_option maxHeartbeats 8000000 in
theorem impl_Shape2 (f : ZoneF) (s : SV) (C : List Pnt) (lo hi k zq nq : Nat) (w : World) (hz : w.heap[zq]? = some (.cells #[.int .i64 f.kind, .int .i64 f.storeys, .int .i64 f.each, s.v] 33 (0, 0))) (hn : w.heap[nq]? = some (.cells #[.int .i64 (C.length : Int)] 3 (0, 0)))
    (hh : Pnts lo hi w s.v C) (hC : ∀ p ∈ C, Crd p) (hk : k < C.length) (hl : C.length ≤ 1024) :
    Calls Tryd.prog 85 #[.int .i64 k, .agg #[.int .i64 (cnr C k).x, .int .i64 (cnr C k).y], .agg #[.int .i64 (cnr C ((k + 1) % C.length)).x, .int .i64 (cnr C ((k + 1) % C.length)).y], .pointer (some ⟨zq, 0, none⟩), .pointer (some ⟨nq, 0, none⟩)] w fun e w' => e = .returned (.bool (turnB C k)) ∧ Below w.heap.size w w' := by
  obtain ⟨m, hm⟩ : ∃ m, m = turnB C k := ⟨_, rfl⟩
  have Hm := Lib.hid (show m = true ↔ TurnA C k by rw [hm]; exact turnB_iff)
  rw [← hm]
  clear hm
  have Hh := Lib.hid hh
  have HC := Lib.hid (fun i (hi : i < C.length) => (show Crd (cnr C i) by rw [cnr_at hi]; exact hC _ (List.getElem_mem hi)))
  have hk2 : (k + 1) % C.length < C.length := Nat.mod_lt _ (by omega)
  have HX := Lib.hid (fun i (hi : i < C.length) W => impl_Sd (cnr C k) (cnr C ((k + 1) % C.length)) (cnr C i) W (HC.out k hk) (HC.out _ hk2) (HC.out i hi))
  have hE : Hid (∀ i, turnOk C k i = (i ≠ k → i ≠ (k + 1) % C.length → 0 < crossP (cnr C k) (cnr C ((k + 1) % C.length)) (cnr C i))) := Lib.hid (fun i => rfl)
  have hr : ((k : Int) + 1).tmod (C.length : Int) = (((k + 1) % C.length : Nat) : Int) := (Int.ofNat_tmod (k + 1) C.length).symm
  have hkw : IntKind.i64.wrap ((k : Int) + 1) = (k : Int) + 1 := IntWalk.i64_in _ (by omega)
  have hn0 : ((C.length : Int) == 0) = false := by rw [beq_eq_false_iff_ne]; omega
  have hn1 : ¬ (C.length : Int) = 0 := by omega
  have hnil : ¬ C = [] := fun e => by rw [e] at hk; exact absurd hk (by simp)
  have hlen0 : ¬ C.length = 0 := by omega
  obtain ⟨nx, hnx⟩ : ∃ nx, (k + 1) % C.length = nx := ⟨_, rfl⟩
  rw [hnx] at hr hk2 HX hE ⊢
  have hw2 : IntKind.i64.wrap (nx : Int) = nx := IntWalk.i64_in _ (by omega)
  clear hnx
  obtain ⟨a, cap, hv, hcp, -⟩ := hh
  obtain ⟨sa, sl, sc⟩ := s
  simp only [SV.v] at *
  obtain rfl : C.length = sl := by cases hv; rfl
  obtain ⟨x0, x1, x2⟩ := f
  dsimp only at *
  clear hv hC
  have Hz := Lib.hid hz
  have Hn := Lib.hid hn
  have c3 : w.cell? ⟨zq, 3, none⟩ = some (.slice sa C.length sc) := (Lib.cell_of_heap hz 3).trans rfl
  have hzw := (Array.getElem?_eq_some_iff.1 hz).1
  clear hz hn
  obtain ⟨pk, hpk⟩ : ∃ pk, cnr C k = pk := ⟨_, rfl⟩
  obtain ⟨pn, hpn⟩ : ∃ pn, cnr C nx = pn := ⟨_, rfl⟩
  rw [hpk, hpn] at HX hE ⊢
  clear hpk hpn
  obtain ⟨kx, ky⟩ := pk
  obtain ⟨nxx, ny⟩ := pn
  dsimp only at *
  have hb0 : Below w.heap.size w ((w.alloc (.cells #[.int .i64 kx, .int .i64 ky] 26 (0, 0))).alloc (.cells #[.int .i64 nxx, .int .i64 ny] 26 (0, 0))) := ((Below.refl _ _).alloc (Nat.le_refl _) _).alloc (by simp) _
  have hX := Lib.hid (blkN_below ((Below.refl _ _).alloc (Nat.le_refl _) (.cells #[.int .i64 nxx, .int .i64 ny] 26 (0, 0))) (blkN_new w (.cells #[.int .i64 kx, .int .i64 ky] 26 (0, 0))))
  have hY : Hid (((w.alloc (.cells #[.int .i64 kx, .int .i64 ky] 26 (0, 0))).alloc (.cells #[.int .i64 nxx, .int .i64 ny] 26 (0, 0))).heap[w.heap.size + 1]? = some (.cells #[.int .i64 nxx, .int .i64 ny] 26 (0, 0))) := Lib.hid (by have := blkN_new (w.alloc (.cells #[.int .i64 kx, .int .i64 ky] 26 (0, 0))) (.cells #[.int .i64 nxx, .int .i64 ny] 26 (0, 0)); rwa [World.size_alloc] at this)
  go_enter Tryd.func85, Tryd.ntmps85
  go_wp2_with fail
  generalize (w.alloc (.cells #[.int .i64 kx, .int .i64 ky] 26 (0, 0))).alloc (.cells #[.int .i64 nxx, .int .i64 ny] 26 (0, 0)) = w0 at *
  obtain ⟨qq, hqq⟩ : ∃ qq, w.heap.size = qq := ⟨_, rfl⟩
  rw [hqq] at hX hY ⊢
  have Hqq := Lib.hid hqq
  clear hqq c3
  go_loopw [14] (fun i wr => ∃ j : Nat, j ≤ C.length ∧ i = .int .i64 j ∧ Hid (∀ i, i < j → turnOk C k i) ∧ Hid (Below w0.heap.size w0 wr)) (fun i _ => C.length - (Go.RowKit.intOf i).toNat)
  case atStart => exact ⟨0, Nat.zero_le _, rfl, Lib.hid (fun i h => absurd h (by omega)), Lib.hid (Below.refl _ _)⟩
  case round =>
    obtain ⟨j, hj, rfl, hin, hBW⟩ := hrel
    have hB : Below w.heap.size w wr := hb0.trans (hBW.out.mono hb0.size)
    by_cases hjl : j < C.length
    · have hjI : (j : Int) < (C.length : Int) := by omega
      have hj0 : (0 : Int) ≤ (j : Int) := Int.natCast_nonneg _
      have hPj := Hh.out.ext hB
      obtain ⟨bb, oo, rfl⟩ := hPj.addr (by omega)
      obtain ⟨d0, d1⟩ := Pnts.at hPj.get hjl
      rw [← cnr_at hjl] at d0 d1
      have hC2 := fun W => HX.out j hjl W
      have hT := Lib.hid (show turnOk C k j ↔ (j ≠ k → j ≠ nx → 0 < crossP ⟨kx, ky⟩ ⟨nxx, ny⟩ (cnr C j)) by rw [hE.out])
      generalize crossP ⟨kx, ky⟩ ⟨nxx, ny⟩ (cnr C j) = z at *
      generalize cnr C j = pj at *
      obtain ⟨jx, jy⟩ := pj
      dsimp only at *
      have hC2 := Lib.hid hC2
      have hb1 : Below wr.heap.size wr (wr.alloc (.cells #[.int .i64 jx, .int .i64 jy] 26 (0, 0))) := (Below.refl _ _).alloc (Nat.le_refl _) _
      have hBW1 := Lib.hid (hBW.out.trans (hb1.mono hBW.out.size))
      have hB1 := hB.trans (hb1.mono hB.size)
      have hX1 := blkN_below hBW1.out hX.out
      have hY1 := blkN_below hBW1.out hY.out
      have e0 := (Lib.cell_of_heap hX1 0).trans rfl
      have e1 := (Lib.cell_of_heap hX1 1).trans rfl
      have f0 := (Lib.cell_of_heap hY1 0).trans rfl
      have f1 := (Lib.cell_of_heap hY1 1).trans rfl
      have n0 : (wr.alloc (.cells #[.int .i64 jx, .int .i64 jy] 26 (0, 0))).cell? ⟨nq, 0, none⟩ = some (.int .i64 (C.length : Int)) := (Lib.cell_of_heap (blkN_below hB1 Hn.out) 0).trans rfl
      have hZ1 := blkN_new wr (.cells #[.int .i64 jx, .int .i64 jy] 26 (0, 0))
      have z0 := (Lib.cell_of_heap hZ1 0).trans rfl
      have z1 := (Lib.cell_of_heap hZ1 1).trans rfl
      clear hX1 hY1 hPj hZ1
      by_cases e1' : j = k
      · have hne : ((j : Int) != (k : Int)) = false := by rw [bne_eq_false_iff_eq]; omega
        have hin2 := Lib.hid (show ∀ i, i < j + 1 → turnOk C k i from fun i hi => by
          by_cases e : i = j
          · intro h0; exact absurd (e.trans e1') h0
          · exact hin.out i (by omega))
        clear e1' hb1
        go_wp2_with fail
        go_roundw
        case rel => exact ⟨j + 1, by omega, by go_num, hin2, hBW1⟩
        case measure => simp [Go.RowKit.intOf]; omega
      · have hne : ((j : Int) != (k : Int)) = true := by rw [bne_iff_ne]; omega
        by_cases e2 : j = nx
        · have hne2 : ((j : Int) != (nx : Int)) = false := by rw [bne_eq_false_iff_eq]; omega
          have hin2 := Lib.hid (show ∀ i, i < j + 1 → turnOk C k i from fun i hi => by
            by_cases e : i = j
            · rw [hE.out]; intro _ h0; exact absurd (e.trans e2) h0
            · exact hin.out i (by omega))
          clear e1' e2 hb1
          go_wp2_with fail
          go_roundw
          case rel => exact ⟨j + 1, by omega, by go_num, hin2, hBW1⟩
          case measure => simp [Go.RowKit.intOf]; omega
        · have hne2 : ((j : Int) != (nx : Int)) = true := by rw [bne_iff_ne]; omega
          by_cases hzz : 0 < z
          · have hin2 := Lib.hid (show ∀ i, i < j + 1 → turnOk C k i from fun i hi => by
              by_cases e : i = j
              · rw [e, hT.out]; intro _ _; exact hzz
              · exact hin.out i (by omega))
            have hz2 : ¬ z ≤ 0 := by omega
            clear e1' e2 hzz hb1
            go_wp2_with fail
            refine (hC2.out _).mono ?_
            rintro e w3 ⟨rfl, b3⟩
            have hBW3 := Lib.hid (hBW1.out.trans (b3.mono hBW1.out.size))
            go_wp2_with fail
            go_roundw
            case rel => exact ⟨j + 1, by omega, by go_num, hin2, hBW3⟩
            case measure => simp [Go.RowKit.intOf]; omega
          · have hz2 : z ≤ 0 := by omega
            have hm : m = false := by
              rw [← Bool.not_eq_true]
              intro h
              exact hzz (hT.out.1 (Hm.out.1 h j hjl) e1' e2)
            subst hm
            clear e1' e2 hzz hb1
            go_wp2_with fail
            refine (hC2.out _).mono ?_
            rintro e w3 ⟨rfl, b3⟩
            have hB3 := hB1.trans (b3.mono hB1.size)
            go_wp2_with fail
            go_ret
            exact ⟨rfl, hB3⟩
    · have hm : m = true := Hm.out.2 (fun i hi => hin.out i (by omega))
      subst hm
      go_wp2_with fail
      go_ret
      exact ⟨rfl, hB⟩
theorem impl_Shape1 (x y : Int) (w : World) : Calls Tryd.prog 84 #[.agg #[.int .i64 x, .int .i64 y]] w fun e w' => e = .returned (.bool (!decide (Pl x y))) ∧ Below w.heap.size w w' := by
  have hb0 : Below w.heap.size w (w.alloc (.cells #[.int .i64 x, .int .i64 y] 26 (0, 0))) := (Below.refl _ _).alloc (Nat.le_refl _) _
  have hP := Lib.hid (fun W => impl_Pl x y W)
  generalize decide (Pl x y) = r at *
  go_enter Tryd.func84, Tryd.ntmps84
  go_wp2_with fail
  refine (hP.out _).mono ?_
  rintro e w1 ⟨rfl, b1⟩
  go_wp2_with fail
  go_ret
  exact ⟨rfl, hb0.trans (b1.mono hb0.size)⟩
def IxP (C : List Pnt) (w : World) (e : Ending) (w' : World) : Prop := ∃ r : Int, e = .returned (.int .i64 r) ∧ ((0 ≤ r ∧ ¬ ∀ p ∈ C, Pl p.x p.y) ∨ (r < 0 ∧ ∀ p ∈ C, Pl p.x p.y)) ∧ Below w.heap.size w w'
set_option maxRecDepth 100000 in
set_option maxHeartbeats 4000000 in
theorem impl_IxP (v : Value) (C : List Pnt) (lo hi : Nat) (w : World) (hh : Pnts lo hi w v C) (hl : C.length ≤ 1024) :
    Calls Tryd.prog 95 #[v, .func (.func 84) #[] #[]] w (IxP C w) := by
  have Hh := Lib.hid hh
  obtain ⟨a, cap, rfl, hcp, -⟩ := hh
  go_enter Tryd.func95, Tryd.ntmps95
  go_wp2
  go_loopw [8] (fun i wr => ∃ k : Nat, k ≤ C.length ∧ i = .int .i64 k ∧ Hid (∀ i (h : i < C.length), i < k → Pl C[i].x C[i].y) ∧ Below w.heap.size w wr) (fun i _ => C.length - (Go.RowKit.intOf i).toNat)
  case atStart => exact ⟨0, Nat.zero_le _, rfl, Lib.hid (fun i _ h => absurd h (by omega)), Below.refl _ _⟩
  case round =>
    obtain ⟨k, hk, rfl, hall, hB⟩ := hrel
    by_cases hlt : k < C.length
    · have hltI : (k : Int) < (C.length : Int) := by omega
      have hPj := Hh.out.ext hB
      obtain ⟨bb, oo, rfl⟩ := hPj.addr (by omega)
      obtain ⟨d0, d1⟩ := Pnts.at hPj.get hlt
      have hS := impl_Shape1 C[k].x C[k].y wr
      by_cases hp : Pl C[k].x C[k].y
      · rw [decide_eq_true hp] at hS
        have hall2 := Lib.hid (show ∀ i (h : i < C.length), i < k + 1 → Pl C[i].x C[i].y from fun i hi h0 => by
          by_cases e : i = k
          · subst e; exact hp
          · exact hall.out i hi (by omega))
        generalize C[k] = q at *
        obtain ⟨qx, qy⟩ := q
        dsimp only at *
        have hS := Lib.hid hS
        clear hp hPj
        go_wp2_with fail
        refine hS.out.mono ?_
        rintro e w1 ⟨rfl, b1⟩
        have hB1 := hB.trans (b1.mono hB.size)
        go_wp2_with fail
        go_roundw
        case rel => exact ⟨k + 1, by omega, by go_num, hall2, hB1⟩
        case measure => simp [Go.RowKit.intOf]; omega
      · rw [decide_eq_false hp] at hS
        have hno : ¬ ∀ p ∈ C, Pl p.x p.y := fun h => hp (h _ (List.getElem_mem hlt))
        generalize C[k] = q at *
        obtain ⟨qx, qy⟩ := q
        dsimp only at *
        have hS := Lib.hid hS
        clear hp hPj
        go_wp2_with fail
        refine hS.out.mono ?_
        rintro e w1 ⟨rfl, b1⟩
        have hB1 := hB.trans (b1.mono hB.size)
        go_wp2_with fail
        go_ret
        exact ⟨k, rfl, .inl ⟨by omega, hno⟩, hB1⟩
    · have hpl : ∀ p ∈ C, Pl p.x p.y := fun p hp => by
        obtain ⟨i, hi, rfl⟩ := List.getElem_of_mem hp
        exact hall.out i hi (by omega)
      go_wp2_with fail
      go_ret
      exact ⟨-1, rfl, .inr ⟨by omega, hpl⟩, hB⟩
open Classical in
noncomputable def plB (C : List Pnt) : Bool := decide (∀ p ∈ C, Pl p.x p.y)
theorem plB_t {C : List Pnt} (h : ∀ p ∈ C, Pl p.x p.y) : plB C = true := by classical exact decide_eq_true h
theorem plB_f {C : List Pnt} (h : ¬ ∀ p ∈ C, Pl p.x p.y) : plB C = false := by classical exact decide_eq_false h
theorem impl_HasP (v : Value) (C : List Pnt) (lo hi : Nat) (w : World) (hh : Pnts lo hi w v C) (hl : C.length ≤ 1024) :
    Calls Tryd.prog 83 #[v, .func (.func 84) #[] #[]] w fun e w' => e = .returned (.bool (!plB C)) ∧ Below w.heap.size w w' := by
  have hI := Lib.hid (impl_IxP v C lo hi w hh hl)
  clear hh hl
  go_enter Tryd.func83, Tryd.ntmps83
  go_wp2_with fail
  refine hI.out.mono ?_
  rintro e w1 ⟨r, rfl, hr | hr, b1⟩
  · have h1 := hr.1
    have h2 : decide (0 ≤ r) = true := decide_eq_true h1
    go_wp2_with fail
    go_ret
    exact ⟨by rw [plB_f hr.2]; rfl, b1⟩
  · have h1 := hr.1
    have h2 : decide (0 ≤ r) = false := decide_eq_false (by omega)
    have h3 : ¬ 0 ≤ r := by omega
    go_wp2_with fail
    go_ret
    exact ⟨by rw [plB_t hr.2]; rfl, b1⟩
structure ShI (f : ZoneF) (s : SV) (C : List Pnt) (zq nq k : Nat) (W : World) : Prop where
  z : W.heap[zq]? = some (.cells #[.int .i64 f.kind, .int .i64 f.storeys, .int .i64 f.each, s.v] 33 (0, 0))
  n : W.heap[nq]? = some (.cells #[.int .i64 (C.length : Int)] 3 (0, 0))
  t : ∀ k', k' < k → TurnA C k'
theorem shape_sides (f : ZoneF) (s : SV) (C : List Pnt) (lo hi zq nq : Nat) (w : World) (hh : Pnts lo hi w s.v C) (hhi : hi ≤ w.heap.size) (hC : ∀ p ∈ C, Crd p) (hl : C.length ≤ 1024) (hI : ShI f s C zq nq 0 w) :
    Calls Tryd.prog 70 #[.agg (ZoneR.cells ⟨f, s⟩).toArray, .func (.func 85) #[] #[.pointer (some ⟨zq, 0, none⟩), .pointer (some ⟨nq, 0, none⟩)]] w fun e w' => e = .returned (.bool (convB C)) ∧ Below w.heap.size w w' := by
  refine (impl_SidesS f s C lo hi hi hi zq nq (ShI f s C zq nq) (¬ ConvA C) w hh hl (Nat.le_refl _) (Nat.le_refl _) hhi ?_ hI ?_).mono ?_
  · intro k W W' h hb
    exact ⟨blkN_below hb h.z, blkN_below hb h.n, h.t⟩
  · intro k hk W h hm
    refine (impl_Shape2 f s C lo hi k zq nq W h.z h.n (hh.mod hm hhi (Nat.le_refl _)) hC hk hl).mono ?_
    rintro e W' ⟨rfl, hb⟩
    refine ⟨turnB C k, rfl, Mod.of_below hb, ?_⟩
    by_cases ht : TurnA C k
    · refine .inl ⟨turnB_iff.2 ht, blkN_below hb h.z, blkN_below hb h.n, fun k' hk' => ?_⟩
      by_cases e : k' = k
      · rw [e]; exact ht
      · exact h.t k' (by omega)
    · refine .inr ⟨by rw [← Bool.not_eq_true]; exact fun h => ht (turnB_iff.1 h), fun h => ht (h k hk)⟩
  · rintro e w' ⟨b, rfl, hm, hc⟩
    have hb : Below w.heap.size w w' := ⟨hm.os, hm.tape, hm.output, hm.size, fun k hk => hm.block k hk (by omega)⟩
    refine ⟨?_, hb⟩
    rcases hc with ⟨rfl, hi'⟩ | ⟨rfl, hbad⟩
    · rw [show convB C = true from convB_iff.2 (fun k hk => hi'.t k hk)]
    · rw [show convB C = false by rw [← Bool.not_eq_true]; exact fun h => hbad (convB_iff.1 h)]
/-- The corners of a zone are good. -/
def shapeOkP (C : List Pnt) : Prop := (3 ≤ C.length ∧ C.length ≤ 12) ∧ (∀ p ∈ C, Pl p.x p.y) ∧ ConvA C
open Classical in
noncomputable def shpB (C : List Pnt) : Bool := decide (shapeOkP C)
theorem shpB_iff {C : List Pnt} : shpB C = true ↔ shapeOkP C := ⟨fun h => by classical exact of_decide_eq_true h, fun h => by classical exact decide_eq_true h⟩
set_option maxRecDepth 100000 in
set_option maxHeartbeats 4000000 in
theorem impl_Shape (f : ZoneF) (s : SV) (C : List Pnt) (lo hi : Nat) (w : World) (hh : Pnts lo hi w s.v C) (hhi : hi ≤ w.heap.size) (hl : C.length ≤ 1024) :
    Calls Tryd.prog 65 #[.agg (ZoneR.cells ⟨f, s⟩).toArray] w fun e w' => e = .returned (.bool (shpB C)) ∧ Below w.heap.size w w' := by
  obtain ⟨m, hm⟩ : ∃ m, m = shpB C := ⟨_, rfl⟩
  have Hm := Lib.hid (show m = true ↔ shapeOkP C by rw [hm]; exact shpB_iff)
  rw [← hm]
  clear hm
  have hb0 : Below w.heap.size w ((w.alloc (.cells #[.int .i64 (f).kind, .int .i64 (f).storeys, .int .i64 (f).each, (s).v] 33 (0, 0))).alloc (.cells #[.int .i64 (C.length : Int)] 3 (0, 0))) := ((Below.refl _ _).alloc (Nat.le_refl _) _).alloc (by simp) _
  have hX : ((w.alloc (.cells #[.int .i64 (f).kind, .int .i64 (f).storeys, .int .i64 (f).each, (s).v] 33 (0, 0))).alloc (.cells #[.int .i64 (C.length : Int)] 3 (0, 0))).heap[w.heap.size]? = some (.cells #[.int .i64 (f).kind, .int .i64 (f).storeys, .int .i64 (f).each, (s).v] 33 (0, 0)) := blkN_below ((Below.refl _ _).alloc (Nat.le_refl _) _) (blkN_new w _)
  have hY : ((w.alloc (.cells #[.int .i64 (f).kind, .int .i64 (f).storeys, .int .i64 (f).each, (s).v] 33 (0, 0))).alloc (.cells #[.int .i64 (C.length : Int)] 3 (0, 0))).heap[w.heap.size + 1]? = some (.cells #[.int .i64 (C.length : Int)] 3 (0, 0)) := by
    have := blkN_new (w.alloc (.cells #[.int .i64 (f).kind, .int .i64 (f).storeys, .int .i64 (f).each, (s).v] 33 (0, 0))) (.cells #[.int .i64 (C.length : Int)] 3 (0, 0))
    rwa [World.size_alloc] at this
  have HH := Lib.hid (fun W (hb : Below w.heap.size w W) => impl_HasP s.v C lo hi W (hh.ext hb) hl)
  have HS := Lib.hid (fun (hC : ∀ p ∈ C, Pl p.x p.y) W (hb : Below w.heap.size w W) hI => shape_sides f s C lo hi w.heap.size (w.heap.size + 1) W (hh.ext hb) (Nat.le_trans hhi hb.size) (fun p hp => pl_crd (hC p hp)) hl hI)
  have HI := Lib.hid (fun W hx hy => (show ShI f s C w.heap.size (w.heap.size + 1) 0 W from ⟨hx, hy, fun k' h => absurd h (by omega)⟩))
  have HX := Lib.hid hX
  have HY := Lib.hid hY
  obtain ⟨a, cap, hv, hcp, -⟩ := hh
  obtain ⟨sa, sl, sc⟩ := s
  simp only [SV.v, ZoneR.cells] at *
  obtain rfl : C.length = sl := by cases hv; rfl
  clear hv hX hY
  by_cases hn : 3 ≤ C.length ∧ C.length ≤ 12
  · obtain ⟨hn1, hn2⟩ := hn
    have hd1 : decide ((C.length : Int) < 3) = false := decide_eq_false (by omega)
    have hd1' : (3 : Int) ≤ (C.length : Int) := by omega
    have hd2 : decide (12 < (C.length : Int)) = false := decide_eq_false (by omega)
    have hd2' : (C.length : Int) ≤ 12 := by omega
    go_enter Tryd.func65, Tryd.ntmps65
    go_wp2_with fail
    generalize (w.alloc (.cells #[.int .i64 f.kind, .int .i64 f.storeys, .int .i64 f.each, .slice sa C.length sc] 33 (0, 0))).alloc (.cells #[.int .i64 (C.length : Int)] 3 (0, 0)) = w0 at *
    refine (HH.out _ hb0).mono ?_
    rintro e w1 ⟨rfl, b1⟩
    have hB1 := hb0.trans (b1.mono hb0.size)
    have HX1 := Lib.hid (blkN_below b1 HX.out)
    have HY1 := Lib.hid (blkN_below b1 HY.out)
    clear b1
    by_cases hp : ∀ p ∈ C, Pl p.x p.y
    · rw [plB_t hp]
      have c0 := (Lib.cell_of_heap HX1.out 0).trans rfl
      have c1 := (Lib.cell_of_heap HX1.out 1).trans rfl
      have c2 := (Lib.cell_of_heap HX1.out 2).trans rfl
      have c3 := (Lib.cell_of_heap HX1.out 3).trans rfl
      have hS := HS.out hp w1 hB1 (HI.out _ HX1.out HY1.out)
      have hm : m = convB C := by
        rw [Bool.eq_iff_iff, Hm.out, convB_iff]
        exact ⟨fun h => h.2.2, fun h => ⟨⟨hn1, hn2⟩, hp, h⟩⟩
      rw [← hm] at hS
      have hS := Lib.hid hS
      clear hm hp
      go_wp2_with fail
      refine hS.out.mono ?_
      rintro e w2 ⟨rfl, b2⟩
      go_wp2_with fail
      go_ret
      exact ⟨rfl, hB1.trans (b2.mono hB1.size)⟩
    · rw [plB_f hp]
      have hm : m = false := by
        rw [← Bool.not_eq_true]
        intro h
        exact hp (Hm.out.1 h).2.1
      subst hm
      clear hp
      go_wp2_with fail
      go_ret
      exact ⟨rfl, hB1⟩
  · have hm : m = false := by
      rw [← Bool.not_eq_true]
      intro h
      exact hn (Hm.out.1 h).1
    subst hm
    by_cases h3 : C.length < 3
    · have hd1 : decide ((C.length : Int) < 3) = true := decide_eq_true (by omega)
      have hd1' : (C.length : Int) < 3 := by omega
      go_enter Tryd.func65, Tryd.ntmps65
      go_wp2_with fail
      go_ret
      exact ⟨rfl, hb0⟩
    · have hd1 : decide ((C.length : Int) < 3) = false := decide_eq_false (by omega)
      have hd1' : (3 : Int) ≤ (C.length : Int) := by omega
      have hd2 : decide (12 < (C.length : Int)) = true := decide_eq_true (by omega)
      have hd2' : (12 : Int) < (C.length : Int) := by omega
      go_enter Tryd.func65, Tryd.ntmps65
      go_wp2_with fail
      go_ret
      exact ⟨rfl, hb0⟩
theorem zone_shape {f : ZoneF} {C : List Pnt} : zoneOk f C ↔ (1 ≤ f.kind ∧ f.kind ≤ 3) ∧ (f.kind = 1 → tall f) ∧ (¬ f.kind = 1 → f.storeys = 0 ∧ f.each = 0) ∧ shapeOkP C :=
  ⟨fun h => ⟨h.kind, h.one, h.oth, h.len, h.pl, h.conv.2⟩, fun h => ⟨h.1, h.2.2.2.1, h.2.2.2.2.1, h.2.1, h.2.2.1, h.2.2.2.1.1, h.2.2.2.2.2⟩⟩
set_option maxRecDepth 100000 in
set_option maxHeartbeats 8000000 in
theorem impl_VZone (f : ZoneF) (s : SV) (C : List Pnt) (lo hi : Nat) (w : World) (hh : Pnts lo hi w s.v C) (hhi : hi ≤ w.heap.size) (hl : C.length ≤ 1024) :
    Calls Tryd.prog 43 #[.agg (ZoneR.cells ⟨f, s⟩).toArray] w fun e w' => e = .returned (.bool (zoneB f C)) ∧ Below w.heap.size w w' := by
  obtain ⟨m, hm⟩ : ∃ m, m = zoneB f C := ⟨_, rfl⟩
  have hmm := (zoneB_iff (f := f) (C := C)).trans zone_shape
  rw [← hm] at hmm ⊢
  have Hm := Lib.hid hmm
  clear hm hmm
  have hb0 : Below w.heap.size w (w.alloc (.cells #[.int .i64 (f).kind, .int .i64 (f).storeys, .int .i64 (f).each, (s).v] 33 (0, 0))) := (Below.refl _ _).alloc (Nat.le_refl _) _
  have hS := Lib.hid (impl_Shape f s C lo hi (w.alloc (.cells #[.int .i64 (f).kind, .int .i64 (f).storeys, .int .i64 (f).each, (s).v] 33 (0, 0))) (hh.ext hb0) (Nat.le_trans hhi hb0.size) hl)
  have Hsh := Lib.hid (shpB_iff (C := C))
  obtain ⟨sa, sl, sc⟩ := s
  obtain ⟨x0, x1, x2⟩ := f
  unfold tall at Hm
  simp only [SV.v, ZoneR.cells] at *
  clear hh hhi
  by_cases hk : 1 ≤ x0 ∧ x0 ≤ 3
  · by_cases h1 : x0 = 1
    · have hk1 : (x0 == 1) = true := by rw [beq_iff_eq]; exact h1
      by_cases hs : 1 ≤ x1 ∧ x1 ≤ 60
      · obtain ⟨hs1, hs2⟩ := hs
        by_cases he : 20 ≤ x2 ∧ x2 ≤ 60
        · obtain ⟨he1, he2⟩ := he
          have hpb := prod_bd (A := 60) (B := 60) (a := x1) (b := x2) (by omega) (by omega)
          obtain ⟨pr, hpr⟩ : ∃ pr, x1 * x2 = pr := ⟨_, rfl⟩
          rw [hpr] at hpb
          have hwp : IntKind.i64.wrap pr = pr := IntWalk.i64_in _ (by omega)
          by_cases hp2 : pr ≤ 2000
          · have hd : decide (2000 < pr) = false := decide_eq_false (by omega)
            have hd' : ¬ 2000 < pr := by omega
            have hm : m = shpB C := by
              rw [Bool.eq_iff_iff, Hm.out, Hsh.out]
              exact ⟨fun h => h.2.2.2, fun h => ⟨hk, fun _ => ⟨⟨hs1, hs2⟩, ⟨he1, he2⟩, by omega⟩, fun e => absurd h1 e, h⟩⟩
            have hS2 := hS.out
            rw [← hm] at hS2
            have hS := Lib.hid hS2
            clear hm hS2 hk h1
            go_enter Tryd.func43, Tryd.ntmps43
            go_wp2_with (first | (go_at_call 28; first | (refine (impl_within_t _ _ _ _ (by omega) (by omega)).mono ?_; rintro e w' ⟨rfl, rfl⟩) | (refine (impl_within_f _ _ _ _ (by omega)).mono ?_; rintro e w' ⟨rfl, rfl⟩)) | fail)
            refine hS.out.mono ?_
            rintro e w1 ⟨rfl, b1⟩
            go_wp2_with fail
            go_ret
            exact ⟨rfl, hb0.trans (b1.mono hb0.size)⟩
          · have hd : decide (2000 < pr) = true := decide_eq_true (by omega)
            have hd' : 2000 < pr := by omega
            have hm : m = false := by
              rw [← Bool.not_eq_true]
              intro h
              exact hp2 (by rw [← hpr]; exact ((Hm.out.1 h).2.1 h1).2.2)
            subst hm
            clear hk h1
            go_enter Tryd.func43, Tryd.ntmps43
            go_wp2_with (first | (go_at_call 28; first | (refine (impl_within_t _ _ _ _ (by omega) (by omega)).mono ?_; rintro e w' ⟨rfl, rfl⟩) | (refine (impl_within_f _ _ _ _ (by omega)).mono ?_; rintro e w' ⟨rfl, rfl⟩)) | fail)
            go_ret
            exact ⟨rfl, hb0⟩
        · have hm : m = false := by
            rw [← Bool.not_eq_true]
            intro h
            exact he ((Hm.out.1 h).2.1 h1).2.1
          subst hm
          clear hk h1
          go_enter Tryd.func43, Tryd.ntmps43
          go_wp2_with (first | (go_at_call 28; first | (refine (impl_within_t _ _ _ _ (by omega) (by omega)).mono ?_; rintro e w' ⟨rfl, rfl⟩) | (refine (impl_within_f _ _ _ _ (by omega)).mono ?_; rintro e w' ⟨rfl, rfl⟩)) | fail)
          go_ret
          exact ⟨rfl, hb0⟩
      · have hm : m = false := by
          rw [← Bool.not_eq_true]
          intro h
          exact hs ((Hm.out.1 h).2.1 h1).1
        subst hm
        clear hk h1
        go_enter Tryd.func43, Tryd.ntmps43
        go_wp2_with (first | (go_at_call 28; first | (refine (impl_within_t _ _ _ _ (by omega) (by omega)).mono ?_; rintro e w' ⟨rfl, rfl⟩) | (refine (impl_within_f _ _ _ _ (by omega)).mono ?_; rintro e w' ⟨rfl, rfl⟩)) | fail)
        go_ret
        exact ⟨rfl, hb0⟩
    · have hk1 : (x0 == 1) = false := by rw [beq_eq_false_iff_ne]; exact h1
      by_cases hz : x1 = 0 ∧ x2 = 0
      · obtain ⟨hz1, hz2⟩ := hz
        have hb1 : (x1 != 0) = false := by rw [bne_eq_false_iff_eq]; exact hz1
        have hb2 : (x2 != 0) = false := by rw [bne_eq_false_iff_eq]; exact hz2
        have hm : m = shpB C := by
          rw [Bool.eq_iff_iff, Hm.out, Hsh.out]
          exact ⟨fun h => h.2.2.2, fun h => ⟨hk, fun e => absurd e h1, fun _ => ⟨hz1, hz2⟩, h⟩⟩
        have hS2 := hS.out
        rw [← hm] at hS2
        have hS := Lib.hid hS2
        by_cases h2 : x0 = 2
        · have hk2 : (x0 == 2) = true := by rw [beq_iff_eq]; exact h2
          clear hm hS2 hk h1 h2 hz1 hz2
          go_enter Tryd.func43, Tryd.ntmps43
          go_wp2_with fail
          refine hS.out.mono ?_
          rintro e w1 ⟨rfl, b1⟩
          go_wp2_with fail
          go_ret
          exact ⟨rfl, hb0.trans (b1.mono hb0.size)⟩
        · have hk2 : (x0 == 2) = false := by rw [beq_eq_false_iff_ne]; exact h2
          have hk3 : (x0 == 3) = true := by rw [beq_iff_eq]; omega
          clear hm hS2 hk h1 h2 hz1 hz2
          go_enter Tryd.func43, Tryd.ntmps43
          go_wp2_with fail
          refine hS.out.mono ?_
          rintro e w1 ⟨rfl, b1⟩
          go_wp2_with fail
          go_ret
          exact ⟨rfl, hb0.trans (b1.mono hb0.size)⟩
      · have hm : m = false := by
          rw [← Bool.not_eq_true]
          intro h
          exact hz ((Hm.out.1 h).2.2.1 h1)
        subst hm
        by_cases h2 : x0 = 2
        · have hk2 : (x0 == 2) = true := by rw [beq_iff_eq]; exact h2
          by_cases hz1 : x1 = 0
          · have hb1 : (x1 != 0) = false := by rw [bne_eq_false_iff_eq]; exact hz1
            have hb2 : (x2 != 0) = true := by rw [bne_iff_ne]; exact fun e => hz ⟨hz1, e⟩
            clear hk h1 h2 hz1 hz
            go_enter Tryd.func43, Tryd.ntmps43
            go_wp2_with fail
            go_ret
            exact ⟨rfl, hb0⟩
          · have hb1 : (x1 != 0) = true := by rw [bne_iff_ne]; exact hz1
            clear hk h1 h2 hz1 hz
            go_enter Tryd.func43, Tryd.ntmps43
            go_wp2_with fail
            go_ret
            exact ⟨rfl, hb0⟩
        · have hk2 : (x0 == 2) = false := by rw [beq_eq_false_iff_ne]; exact h2
          have hk3 : (x0 == 3) = true := by rw [beq_iff_eq]; omega
          by_cases hz1 : x1 = 0
          · have hb1 : (x1 != 0) = false := by rw [bne_eq_false_iff_eq]; exact hz1
            have hb2 : (x2 != 0) = true := by rw [bne_iff_ne]; exact fun e => hz ⟨hz1, e⟩
            clear hk h1 h2 hz1 hz
            go_enter Tryd.func43, Tryd.ntmps43
            go_wp2_with fail
            go_ret
            exact ⟨rfl, hb0⟩
          · have hb1 : (x1 != 0) = true := by rw [bne_iff_ne]; exact hz1
            clear hk h1 h2 hz1 hz
            go_enter Tryd.func43, Tryd.ntmps43
            go_wp2_with fail
            go_ret
            exact ⟨rfl, hb0⟩
  · have hm : m = false := by
      rw [← Bool.not_eq_true]
      intro h
      exact hk (Hm.out.1 h).1
    subst hm
    have hk1 : (x0 == 1) = false := by rw [beq_eq_false_iff_ne]; omega
    have hk2 : (x0 == 2) = false := by rw [beq_eq_false_iff_ne]; omega
    have hk3 : (x0 == 3) = false := by rw [beq_eq_false_iff_ne]; omega
    clear hk
    go_enter Tryd.func43, Tryd.ntmps43
    go_wp2_with fail
    go_ret
    exact ⟨rfl, hb0⟩
end Go.Proofs.YtpabbehpkokhbaaDoor
