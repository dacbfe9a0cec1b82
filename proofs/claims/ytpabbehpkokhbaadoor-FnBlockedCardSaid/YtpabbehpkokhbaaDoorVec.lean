/- Vectors of directions, in both packages. -/
import Derived.Test.YtpabbehpkokhbaaDoorChecked
import Derived.Test.YtpabbehpkokhbaaDoorVcP
import Derived.Test.YtpabbehpkokhbaaDoorNS
import Derived.Test.YtpabbehpkokhbaaDoorQtr
namespace Go.Proofs.YtpabbehpkokhbaaDoor
open Go.RowKit
theorem blk_set {w : World} {q : Nat} {a b c d : Value} {t : TypeId} (h : w.heap[q]? = some (.cells #[a, b] t (0, 0))) : ((w.setCell ⟨q, 0, none⟩ c).setCell ⟨q, 1, none⟩ d).heap[q]? = some (.cells #[c, d] t (0, 0)) := by
  simp [World.setCell, Array.getElem?_modify, h]
theorem blk_oth {w : World} {q p : Nat} {o : Obj} {c d : Value} (h : w.heap[p]? = some o) (hne : q ≠ p) : ((w.setCell ⟨q, 0, none⟩ c).setCell ⟨q, 1, none⟩ d).heap[p]? = some o := by
  simp [World.setCell, Array.getElem?_modify, h, hne]
theorem box2_0 (w : World) (o p : Obj) : ((w.alloc o).alloc p).heap[w.heap.size]? = some o := blkN_below ((Below.refl _ _).alloc (Nat.le_refl _) p) (blkN_new w o)
theorem box2_1 (w : World) (o p : Obj) : ((w.alloc o).alloc p).heap[w.heap.size + 1]? = some p := by
  have := blkN_new (w.alloc o) p
  rwa [show (w.alloc o).heap.size = w.heap.size + 1 by simp] at this
theorem box3_0 (w : World) (o p q : Obj) : (((w.alloc o).alloc p).alloc q).heap[w.heap.size]? = some o := blkN_below ((Below.refl _ _).alloc (Nat.le_refl _) q) (box2_0 w o p)
theorem box3_2 (w : World) (o p q : Obj) : (((w.alloc o).alloc p).alloc q).heap[w.heap.size + 1 + 1]? = some q := by
  have := blkN_new ((w.alloc o).alloc p) q
  rwa [show ((w.alloc o).alloc p).heap.size = w.heap.size + 1 + 1 by simp] at this
theorem vec_end {d k : Nat} (hk : d / 6 = k) : vecN d = rotN k (baseV (d % 6)) := by unfold vecN; rw [hk]
set_option maxRecDepth 100000 in
set_option maxHeartbeats 8000000 in
theorem spec_Vector (d : Nat) (hd : d < 24) (w : World) :
    Calls Tryd.prog 92 #[.int .i64 d] w fun e w' => e = .returned (.agg #[.int .i64 (vecN d).1, .int .i64 (vecN d).2]) ∧ Below w.heap.size w w' := by
  have Hbd := Lib.hid (rot_bd d hd)
  have Hve := Lib.hid (fun k (hk : d / 6 = k) => vec_end hk)
  obtain ⟨i, hi6, hi, hn⟩ : ∃ i : Nat, i < 6 ∧ (d : Int) % 6 = i ∧ d % 6 = i := ⟨d % 6, by omega, by omega, rfl⟩
  rw [hn] at Hbd Hve
  have hi' : (d : Int).tmod 6 = i := by rw [Int.tmod_eq_emod_of_nonneg (by omega)]; exact hi
  clear hn
  generalize vecN d = V at *
  match i, hi6 with
  | 0, _ =>
    have Hi := Lib.hid hi
    clear hi
    go_enter Tryd.func92, Tryd.ntmps92
    go_wp2
    go_loopw [0] (fun dv wr => ∃ k : Nat, 6 * k ≤ d ∧ dv = .int .i64 ((d : Int) - 6 * k) ∧ Below w.heap.size w wr ∧ Hid (wr.heap[w.heap.size]? = some (.cells #[.int .i64 0, .int .i64 0] 26 (0, 0))) ∧ Hid (wr.heap[w.heap.size + 1 + 1]? = some (.cells #[.int .i64 (rotN k (baseV 0)).1, .int .i64 (rotN k (baseV 0)).2] 26 (0, 0)))) (fun dv _ => (intOf dv).toNat)
    case atStart => exact ⟨0, by omega, by go_num, (((Below.refl _ w).alloc (Nat.le_refl _) _).alloc (by simp) _).alloc (by simp; omega) _, Lib.hid (box3_0 _ _ _ _), Lib.hid (box3_2 _ _ _ _)⟩
    case round =>
      obtain ⟨k, hk, rfl, hB, h0, h2⟩ := hrel
      have hk4 : k < 4 := by omega
      obtain ⟨⟨b1, b2⟩, ⟨b3, b4⟩⟩ := Hbd.out k hk4
      have Hnx := Lib.hid (show rotN (k + 1) (baseV 0) = (-(rotN k (baseV 0)).2, (rotN k (baseV 0)).1) from rfl)
      have Hnd := Lib.hid (Hve.out k)
      generalize rotN k (baseV 0) = R at *
      obtain ⟨r1, r2⟩ := R
      dsimp only at *
      have c0 : wr.cell? ⟨w.heap.size + 1 + 1, 0, none⟩ = some (.int .i64 r1) := by rw [Lib.cell_of_heap h2.out]; rfl
      have c1 : wr.cell? ⟨w.heap.size + 1 + 1, 1, none⟩ = some (.int .i64 r2) := by rw [Lib.cell_of_heap h2.out]; rfl
      have e0 : wr.cell? ⟨w.heap.size, 0, none⟩ = some (.int .i64 0) := by rw [Lib.cell_of_heap h0.out]; rfl
      have e1 : wr.cell? ⟨w.heap.size, 1, none⟩ = some (.int .i64 0) := by rw [Lib.cell_of_heap h0.out]; rfl
      have hq2 := World.block_lt_of_cell? wr _ c0
      have f0 : wr.frozen? ⟨w.heap.size + 1 + 1, 0, none⟩ = false := Lib.frozen_of_heap h2.out 0
      have f1 : wr.frozen? ⟨w.heap.size + 1 + 1, 1, none⟩ = false := Lib.frozen_of_heap h2.out 1
      have f2 : wr.frozen? ⟨w.heap.size, 0, none⟩ = false := Lib.frozen_of_heap h0.out 0
      have f3 : wr.frozen? ⟨w.heap.size, 1, none⟩ = false := Lib.frozen_of_heap h0.out 1
      by_cases hlt : 6 * k + 6 ≤ d
      · go_wp2
        go_roundw
        case rel => exact ⟨k + 1, by omega, by go_num, (hB.setCell (p := ⟨w.heap.size + 1 + 1, 0, none⟩) (by simp only []; omega) _).setCell (p := ⟨w.heap.size + 1 + 1, 1, none⟩) (by simp only []; omega) _, Lib.hid (blk_oth h0.out (by omega)), Lib.hid (by rw [Hnx.out]; exact blk_set h2.out)⟩
        case measure => simp [intOf]; omega
      · have hV := Hnd.out (by omega)
        subst hV
        go_wp2
        exact bodyPost_ret (v := .agg #[.int .i64 r1, .int .i64 r2]) (by simp [results, Tryd.results92, go_sem, e0, e1]) rfl ⟨rfl, (hB.setCell (p := ⟨w.heap.size, 0, none⟩) (Nat.le_refl _) _).setCell (p := ⟨w.heap.size, 1, none⟩) (Nat.le_refl _) _⟩
  | 1, _ =>
    have Hi := Lib.hid hi
    clear hi
    go_enter Tryd.func92, Tryd.ntmps92
    go_wp2
    go_loopw [0] (fun dv wr => ∃ k : Nat, 6 * k ≤ d ∧ dv = .int .i64 ((d : Int) - 6 * k) ∧ Below w.heap.size w wr ∧ Hid (wr.heap[w.heap.size]? = some (.cells #[.int .i64 0, .int .i64 0] 26 (0, 0))) ∧ Hid (wr.heap[w.heap.size + 1 + 1]? = some (.cells #[.int .i64 (rotN k (baseV 1)).1, .int .i64 (rotN k (baseV 1)).2] 26 (0, 0)))) (fun dv _ => (intOf dv).toNat)
    case atStart => exact ⟨0, by omega, by go_num, (((Below.refl _ w).alloc (Nat.le_refl _) _).alloc (by simp) _).alloc (by simp; omega) _, Lib.hid (box3_0 _ _ _ _), Lib.hid (box3_2 _ _ _ _)⟩
    case round =>
      obtain ⟨k, hk, rfl, hB, h0, h2⟩ := hrel
      have hk4 : k < 4 := by omega
      obtain ⟨⟨b1, b2⟩, ⟨b3, b4⟩⟩ := Hbd.out k hk4
      have Hnx := Lib.hid (show rotN (k + 1) (baseV 1) = (-(rotN k (baseV 1)).2, (rotN k (baseV 1)).1) from rfl)
      have Hnd := Lib.hid (Hve.out k)
      generalize rotN k (baseV 1) = R at *
      obtain ⟨r1, r2⟩ := R
      dsimp only at *
      have c0 : wr.cell? ⟨w.heap.size + 1 + 1, 0, none⟩ = some (.int .i64 r1) := by rw [Lib.cell_of_heap h2.out]; rfl
      have c1 : wr.cell? ⟨w.heap.size + 1 + 1, 1, none⟩ = some (.int .i64 r2) := by rw [Lib.cell_of_heap h2.out]; rfl
      have e0 : wr.cell? ⟨w.heap.size, 0, none⟩ = some (.int .i64 0) := by rw [Lib.cell_of_heap h0.out]; rfl
      have e1 : wr.cell? ⟨w.heap.size, 1, none⟩ = some (.int .i64 0) := by rw [Lib.cell_of_heap h0.out]; rfl
      have hq2 := World.block_lt_of_cell? wr _ c0
      have f0 : wr.frozen? ⟨w.heap.size + 1 + 1, 0, none⟩ = false := Lib.frozen_of_heap h2.out 0
      have f1 : wr.frozen? ⟨w.heap.size + 1 + 1, 1, none⟩ = false := Lib.frozen_of_heap h2.out 1
      have f2 : wr.frozen? ⟨w.heap.size, 0, none⟩ = false := Lib.frozen_of_heap h0.out 0
      have f3 : wr.frozen? ⟨w.heap.size, 1, none⟩ = false := Lib.frozen_of_heap h0.out 1
      by_cases hlt : 6 * k + 6 ≤ d
      · go_wp2
        go_roundw
        case rel => exact ⟨k + 1, by omega, by go_num, (hB.setCell (p := ⟨w.heap.size + 1 + 1, 0, none⟩) (by simp only []; omega) _).setCell (p := ⟨w.heap.size + 1 + 1, 1, none⟩) (by simp only []; omega) _, Lib.hid (blk_oth h0.out (by omega)), Lib.hid (by rw [Hnx.out]; exact blk_set h2.out)⟩
        case measure => simp [intOf]; omega
      · have hV := Hnd.out (by omega)
        subst hV
        go_wp2
        exact bodyPost_ret (v := .agg #[.int .i64 r1, .int .i64 r2]) (by simp [results, Tryd.results92, go_sem, e0, e1]) rfl ⟨rfl, (hB.setCell (p := ⟨w.heap.size, 0, none⟩) (Nat.le_refl _) _).setCell (p := ⟨w.heap.size, 1, none⟩) (Nat.le_refl _) _⟩
  | 2, _ =>
    have Hi := Lib.hid hi
    clear hi
    go_enter Tryd.func92, Tryd.ntmps92
    go_wp2
    go_loopw [0] (fun dv wr => ∃ k : Nat, 6 * k ≤ d ∧ dv = .int .i64 ((d : Int) - 6 * k) ∧ Below w.heap.size w wr ∧ Hid (wr.heap[w.heap.size]? = some (.cells #[.int .i64 0, .int .i64 0] 26 (0, 0))) ∧ Hid (wr.heap[w.heap.size + 1 + 1]? = some (.cells #[.int .i64 (rotN k (baseV 2)).1, .int .i64 (rotN k (baseV 2)).2] 26 (0, 0)))) (fun dv _ => (intOf dv).toNat)
    case atStart => exact ⟨0, by omega, by go_num, (((Below.refl _ w).alloc (Nat.le_refl _) _).alloc (by simp) _).alloc (by simp; omega) _, Lib.hid (box3_0 _ _ _ _), Lib.hid (box3_2 _ _ _ _)⟩
    case round =>
      obtain ⟨k, hk, rfl, hB, h0, h2⟩ := hrel
      have hk4 : k < 4 := by omega
      obtain ⟨⟨b1, b2⟩, ⟨b3, b4⟩⟩ := Hbd.out k hk4
      have Hnx := Lib.hid (show rotN (k + 1) (baseV 2) = (-(rotN k (baseV 2)).2, (rotN k (baseV 2)).1) from rfl)
      have Hnd := Lib.hid (Hve.out k)
      generalize rotN k (baseV 2) = R at *
      obtain ⟨r1, r2⟩ := R
      dsimp only at *
      have c0 : wr.cell? ⟨w.heap.size + 1 + 1, 0, none⟩ = some (.int .i64 r1) := by rw [Lib.cell_of_heap h2.out]; rfl
      have c1 : wr.cell? ⟨w.heap.size + 1 + 1, 1, none⟩ = some (.int .i64 r2) := by rw [Lib.cell_of_heap h2.out]; rfl
      have e0 : wr.cell? ⟨w.heap.size, 0, none⟩ = some (.int .i64 0) := by rw [Lib.cell_of_heap h0.out]; rfl
      have e1 : wr.cell? ⟨w.heap.size, 1, none⟩ = some (.int .i64 0) := by rw [Lib.cell_of_heap h0.out]; rfl
      have hq2 := World.block_lt_of_cell? wr _ c0
      have f0 : wr.frozen? ⟨w.heap.size + 1 + 1, 0, none⟩ = false := Lib.frozen_of_heap h2.out 0
      have f1 : wr.frozen? ⟨w.heap.size + 1 + 1, 1, none⟩ = false := Lib.frozen_of_heap h2.out 1
      have f2 : wr.frozen? ⟨w.heap.size, 0, none⟩ = false := Lib.frozen_of_heap h0.out 0
      have f3 : wr.frozen? ⟨w.heap.size, 1, none⟩ = false := Lib.frozen_of_heap h0.out 1
      by_cases hlt : 6 * k + 6 ≤ d
      · go_wp2
        go_roundw
        case rel => exact ⟨k + 1, by omega, by go_num, (hB.setCell (p := ⟨w.heap.size + 1 + 1, 0, none⟩) (by simp only []; omega) _).setCell (p := ⟨w.heap.size + 1 + 1, 1, none⟩) (by simp only []; omega) _, Lib.hid (blk_oth h0.out (by omega)), Lib.hid (by rw [Hnx.out]; exact blk_set h2.out)⟩
        case measure => simp [intOf]; omega
      · have hV := Hnd.out (by omega)
        subst hV
        go_wp2
        exact bodyPost_ret (v := .agg #[.int .i64 r1, .int .i64 r2]) (by simp [results, Tryd.results92, go_sem, e0, e1]) rfl ⟨rfl, (hB.setCell (p := ⟨w.heap.size, 0, none⟩) (Nat.le_refl _) _).setCell (p := ⟨w.heap.size, 1, none⟩) (Nat.le_refl _) _⟩
  | 3, _ =>
    have Hi := Lib.hid hi
    clear hi
    go_enter Tryd.func92, Tryd.ntmps92
    go_wp2
    go_loopw [0] (fun dv wr => ∃ k : Nat, 6 * k ≤ d ∧ dv = .int .i64 ((d : Int) - 6 * k) ∧ Below w.heap.size w wr ∧ Hid (wr.heap[w.heap.size]? = some (.cells #[.int .i64 0, .int .i64 0] 26 (0, 0))) ∧ Hid (wr.heap[w.heap.size + 1 + 1]? = some (.cells #[.int .i64 (rotN k (baseV 3)).1, .int .i64 (rotN k (baseV 3)).2] 26 (0, 0)))) (fun dv _ => (intOf dv).toNat)
    case atStart => exact ⟨0, by omega, by go_num, (((Below.refl _ w).alloc (Nat.le_refl _) _).alloc (by simp) _).alloc (by simp; omega) _, Lib.hid (box3_0 _ _ _ _), Lib.hid (box3_2 _ _ _ _)⟩
    case round =>
      obtain ⟨k, hk, rfl, hB, h0, h2⟩ := hrel
      have hk4 : k < 4 := by omega
      obtain ⟨⟨b1, b2⟩, ⟨b3, b4⟩⟩ := Hbd.out k hk4
      have Hnx := Lib.hid (show rotN (k + 1) (baseV 3) = (-(rotN k (baseV 3)).2, (rotN k (baseV 3)).1) from rfl)
      have Hnd := Lib.hid (Hve.out k)
      generalize rotN k (baseV 3) = R at *
      obtain ⟨r1, r2⟩ := R
      dsimp only at *
      have c0 : wr.cell? ⟨w.heap.size + 1 + 1, 0, none⟩ = some (.int .i64 r1) := by rw [Lib.cell_of_heap h2.out]; rfl
      have c1 : wr.cell? ⟨w.heap.size + 1 + 1, 1, none⟩ = some (.int .i64 r2) := by rw [Lib.cell_of_heap h2.out]; rfl
      have e0 : wr.cell? ⟨w.heap.size, 0, none⟩ = some (.int .i64 0) := by rw [Lib.cell_of_heap h0.out]; rfl
      have e1 : wr.cell? ⟨w.heap.size, 1, none⟩ = some (.int .i64 0) := by rw [Lib.cell_of_heap h0.out]; rfl
      have hq2 := World.block_lt_of_cell? wr _ c0
      have f0 : wr.frozen? ⟨w.heap.size + 1 + 1, 0, none⟩ = false := Lib.frozen_of_heap h2.out 0
      have f1 : wr.frozen? ⟨w.heap.size + 1 + 1, 1, none⟩ = false := Lib.frozen_of_heap h2.out 1
      have f2 : wr.frozen? ⟨w.heap.size, 0, none⟩ = false := Lib.frozen_of_heap h0.out 0
      have f3 : wr.frozen? ⟨w.heap.size, 1, none⟩ = false := Lib.frozen_of_heap h0.out 1
      by_cases hlt : 6 * k + 6 ≤ d
      · go_wp2
        go_roundw
        case rel => exact ⟨k + 1, by omega, by go_num, (hB.setCell (p := ⟨w.heap.size + 1 + 1, 0, none⟩) (by simp only []; omega) _).setCell (p := ⟨w.heap.size + 1 + 1, 1, none⟩) (by simp only []; omega) _, Lib.hid (blk_oth h0.out (by omega)), Lib.hid (by rw [Hnx.out]; exact blk_set h2.out)⟩
        case measure => simp [intOf]; omega
      · have hV := Hnd.out (by omega)
        subst hV
        go_wp2
        exact bodyPost_ret (v := .agg #[.int .i64 r1, .int .i64 r2]) (by simp [results, Tryd.results92, go_sem, e0, e1]) rfl ⟨rfl, (hB.setCell (p := ⟨w.heap.size, 0, none⟩) (Nat.le_refl _) _).setCell (p := ⟨w.heap.size, 1, none⟩) (Nat.le_refl _) _⟩
  | 4, _ =>
    have Hi := Lib.hid hi
    clear hi
    go_enter Tryd.func92, Tryd.ntmps92
    go_wp2
    go_loopw [0] (fun dv wr => ∃ k : Nat, 6 * k ≤ d ∧ dv = .int .i64 ((d : Int) - 6 * k) ∧ Below w.heap.size w wr ∧ Hid (wr.heap[w.heap.size]? = some (.cells #[.int .i64 0, .int .i64 0] 26 (0, 0))) ∧ Hid (wr.heap[w.heap.size + 1 + 1]? = some (.cells #[.int .i64 (rotN k (baseV 4)).1, .int .i64 (rotN k (baseV 4)).2] 26 (0, 0)))) (fun dv _ => (intOf dv).toNat)
    case atStart => exact ⟨0, by omega, by go_num, (((Below.refl _ w).alloc (Nat.le_refl _) _).alloc (by simp) _).alloc (by simp; omega) _, Lib.hid (box3_0 _ _ _ _), Lib.hid (box3_2 _ _ _ _)⟩
    case round =>
      obtain ⟨k, hk, rfl, hB, h0, h2⟩ := hrel
      have hk4 : k < 4 := by omega
      obtain ⟨⟨b1, b2⟩, ⟨b3, b4⟩⟩ := Hbd.out k hk4
      have Hnx := Lib.hid (show rotN (k + 1) (baseV 4) = (-(rotN k (baseV 4)).2, (rotN k (baseV 4)).1) from rfl)
      have Hnd := Lib.hid (Hve.out k)
      generalize rotN k (baseV 4) = R at *
      obtain ⟨r1, r2⟩ := R
      dsimp only at *
      have c0 : wr.cell? ⟨w.heap.size + 1 + 1, 0, none⟩ = some (.int .i64 r1) := by rw [Lib.cell_of_heap h2.out]; rfl
      have c1 : wr.cell? ⟨w.heap.size + 1 + 1, 1, none⟩ = some (.int .i64 r2) := by rw [Lib.cell_of_heap h2.out]; rfl
      have e0 : wr.cell? ⟨w.heap.size, 0, none⟩ = some (.int .i64 0) := by rw [Lib.cell_of_heap h0.out]; rfl
      have e1 : wr.cell? ⟨w.heap.size, 1, none⟩ = some (.int .i64 0) := by rw [Lib.cell_of_heap h0.out]; rfl
      have hq2 := World.block_lt_of_cell? wr _ c0
      have f0 : wr.frozen? ⟨w.heap.size + 1 + 1, 0, none⟩ = false := Lib.frozen_of_heap h2.out 0
      have f1 : wr.frozen? ⟨w.heap.size + 1 + 1, 1, none⟩ = false := Lib.frozen_of_heap h2.out 1
      have f2 : wr.frozen? ⟨w.heap.size, 0, none⟩ = false := Lib.frozen_of_heap h0.out 0
      have f3 : wr.frozen? ⟨w.heap.size, 1, none⟩ = false := Lib.frozen_of_heap h0.out 1
      by_cases hlt : 6 * k + 6 ≤ d
      · go_wp2
        go_roundw
        case rel => exact ⟨k + 1, by omega, by go_num, (hB.setCell (p := ⟨w.heap.size + 1 + 1, 0, none⟩) (by simp only []; omega) _).setCell (p := ⟨w.heap.size + 1 + 1, 1, none⟩) (by simp only []; omega) _, Lib.hid (blk_oth h0.out (by omega)), Lib.hid (by rw [Hnx.out]; exact blk_set h2.out)⟩
        case measure => simp [intOf]; omega
      · have hV := Hnd.out (by omega)
        subst hV
        go_wp2
        exact bodyPost_ret (v := .agg #[.int .i64 r1, .int .i64 r2]) (by simp [results, Tryd.results92, go_sem, e0, e1]) rfl ⟨rfl, (hB.setCell (p := ⟨w.heap.size, 0, none⟩) (Nat.le_refl _) _).setCell (p := ⟨w.heap.size, 1, none⟩) (Nat.le_refl _) _⟩
  | 5, _ =>
    have Hi := Lib.hid hi
    clear hi
    go_enter Tryd.func92, Tryd.ntmps92
    go_wp2
    go_loopw [0] (fun dv wr => ∃ k : Nat, 6 * k ≤ d ∧ dv = .int .i64 ((d : Int) - 6 * k) ∧ Below w.heap.size w wr ∧ Hid (wr.heap[w.heap.size]? = some (.cells #[.int .i64 0, .int .i64 0] 26 (0, 0))) ∧ Hid (wr.heap[w.heap.size + 1 + 1]? = some (.cells #[.int .i64 (rotN k (baseV 5)).1, .int .i64 (rotN k (baseV 5)).2] 26 (0, 0)))) (fun dv _ => (intOf dv).toNat)
    case atStart => exact ⟨0, by omega, by go_num, (((Below.refl _ w).alloc (Nat.le_refl _) _).alloc (by simp) _).alloc (by simp; omega) _, Lib.hid (box3_0 _ _ _ _), Lib.hid (box3_2 _ _ _ _)⟩
    case round =>
      obtain ⟨k, hk, rfl, hB, h0, h2⟩ := hrel
      have hk4 : k < 4 := by omega
      obtain ⟨⟨b1, b2⟩, ⟨b3, b4⟩⟩ := Hbd.out k hk4
      have Hnx := Lib.hid (show rotN (k + 1) (baseV 5) = (-(rotN k (baseV 5)).2, (rotN k (baseV 5)).1) from rfl)
      have Hnd := Lib.hid (Hve.out k)
      generalize rotN k (baseV 5) = R at *
      obtain ⟨r1, r2⟩ := R
      dsimp only at *
      have c0 : wr.cell? ⟨w.heap.size + 1 + 1, 0, none⟩ = some (.int .i64 r1) := by rw [Lib.cell_of_heap h2.out]; rfl
      have c1 : wr.cell? ⟨w.heap.size + 1 + 1, 1, none⟩ = some (.int .i64 r2) := by rw [Lib.cell_of_heap h2.out]; rfl
      have e0 : wr.cell? ⟨w.heap.size, 0, none⟩ = some (.int .i64 0) := by rw [Lib.cell_of_heap h0.out]; rfl
      have e1 : wr.cell? ⟨w.heap.size, 1, none⟩ = some (.int .i64 0) := by rw [Lib.cell_of_heap h0.out]; rfl
      have hq2 := World.block_lt_of_cell? wr _ c0
      have f0 : wr.frozen? ⟨w.heap.size + 1 + 1, 0, none⟩ = false := Lib.frozen_of_heap h2.out 0
      have f1 : wr.frozen? ⟨w.heap.size + 1 + 1, 1, none⟩ = false := Lib.frozen_of_heap h2.out 1
      have f2 : wr.frozen? ⟨w.heap.size, 0, none⟩ = false := Lib.frozen_of_heap h0.out 0
      have f3 : wr.frozen? ⟨w.heap.size, 1, none⟩ = false := Lib.frozen_of_heap h0.out 1
      by_cases hlt : 6 * k + 6 ≤ d
      · go_wp2
        go_roundw
        case rel => exact ⟨k + 1, by omega, by go_num, (hB.setCell (p := ⟨w.heap.size + 1 + 1, 0, none⟩) (by simp only []; omega) _).setCell (p := ⟨w.heap.size + 1 + 1, 1, none⟩) (by simp only []; omega) _, Lib.hid (blk_oth h0.out (by omega)), Lib.hid (by rw [Hnx.out]; exact blk_set h2.out)⟩
        case measure => simp [intOf]; omega
      · have hV := Hnd.out (by omega)
        subst hV
        go_wp2
        exact bodyPost_ret (v := .agg #[.int .i64 r1, .int .i64 r2]) (by simp [results, Tryd.results92, go_sem, e0, e1]) rfl ⟨rfl, (hB.setCell (p := ⟨w.heap.size, 0, none⟩) (Nat.le_refl _) _).setCell (p := ⟨w.heap.size, 1, none⟩) (Nat.le_refl _) _⟩
set_option maxRecDepth 100000 in
set_option maxHeartbeats 8000000 in
theorem impl_Vector (d : Nat) (hd : d < 24) (w : World) (hQ : Qtr w) :
    Calls Tryd.prog 89 #[.int .i64 d] w fun e w' => e = .returned (.agg #[.int .i64 (vecN d).1, .int .i64 (vecN d).2]) ∧ Below w.heap.size w w' := by
  have Hbd := Lib.hid (rot_bd d hd)
  have Hve := Lib.hid (fun k (hk : d / 6 = k) => vec_end hk)
  obtain ⟨i, hi6, hi, hn⟩ : ∃ i : Nat, i < 6 ∧ (d : Int) % 6 = i ∧ d % 6 = i := ⟨d % 6, by omega, by omega, rfl⟩
  rw [hn] at Hbd Hve
  have hi' : (d : Int).tmod 6 = i := by rw [Int.tmod_eq_emod_of_nonneg (by omega)]; exact hi
  have hql := hQ.lt
  clear hn
  generalize vecN d = V at *
  match i, hi6 with
  | 0, _ =>
    have t0 := hQ 0 _ rfl
    have t1 := hQ 1 _ rfl
    clear hQ
    have Hi := Lib.hid hi
    clear hi
    go_enter Tryd.func89, Tryd.ntmps89
    go_wp2
    go_loopw [0] (fun dv wr => ∃ k : Nat, 6 * k ≤ d ∧ dv = .int .i64 ((d : Int) - 6 * k) ∧ Below w.heap.size w wr ∧ Hid (wr.heap[w.heap.size]? = some (.cells #[.int .i64 0, .int .i64 0] 26 (0, 0))) ∧ Hid (wr.heap[w.heap.size + 1]? = some (.cells #[.int .i64 (rotN k (baseV 0)).1, .int .i64 (rotN k (baseV 0)).2] 26 (0, 0)))) (fun dv _ => (intOf dv).toNat)
    case atStart => exact ⟨0, by omega, by go_num, ((Below.refl _ w).alloc (Nat.le_refl _) _).alloc (by simp) _, Lib.hid (box2_0 _ _ _), Lib.hid (box2_1 _ _ _)⟩
    case round =>
      obtain ⟨k, hk, rfl, hB, h0, h2⟩ := hrel
      have hk4 : k < 4 := by omega
      obtain ⟨⟨b1, b2⟩, ⟨b3, b4⟩⟩ := Hbd.out k hk4
      have Hnx := Lib.hid (show rotN (k + 1) (baseV 0) = (-(rotN k (baseV 0)).2, (rotN k (baseV 0)).1) from rfl)
      have Hnd := Lib.hid (Hve.out k)
      generalize rotN k (baseV 0) = R at *
      obtain ⟨r1, r2⟩ := R
      dsimp only at *
      have c0 : wr.cell? ⟨w.heap.size + 1, 0, none⟩ = some (.int .i64 r1) := by rw [Lib.cell_of_heap h2.out]; rfl
      have c1 : wr.cell? ⟨w.heap.size + 1, 1, none⟩ = some (.int .i64 r2) := by rw [Lib.cell_of_heap h2.out]; rfl
      have e0 : wr.cell? ⟨w.heap.size, 0, none⟩ = some (.int .i64 0) := by rw [Lib.cell_of_heap h0.out]; rfl
      have e1 : wr.cell? ⟨w.heap.size, 1, none⟩ = some (.int .i64 0) := by rw [Lib.cell_of_heap h0.out]; rfl
      have hq2 := World.block_lt_of_cell? wr _ c0
      have f0 : wr.frozen? ⟨w.heap.size + 1, 0, none⟩ = false := Lib.frozen_of_heap h2.out 0
      have f1 : wr.frozen? ⟨w.heap.size + 1, 1, none⟩ = false := Lib.frozen_of_heap h2.out 1
      have f2 : wr.frozen? ⟨w.heap.size, 0, none⟩ = false := Lib.frozen_of_heap h0.out 0
      have f3 : wr.frozen? ⟨w.heap.size, 1, none⟩ = false := Lib.frozen_of_heap h0.out 1
      by_cases hlt : 6 * k + 6 ≤ d
      · go_wp2
        go_roundw
        case rel => exact ⟨k + 1, by omega, by go_num, (hB.setCell (p := ⟨w.heap.size + 1, 0, none⟩) (by simp only []; omega) _).setCell (p := ⟨w.heap.size + 1, 1, none⟩) (by simp only []; omega) _, Lib.hid (blk_oth h0.out (by omega)), Lib.hid (by rw [Hnx.out]; exact blk_set h2.out)⟩
        case measure => simp [intOf]; omega
      · have hV := Hnd.out (by omega)
        subst hV
        go_wp2
        exact bodyPost_ret (v := .agg #[.int .i64 r1, .int .i64 r2]) (by simp [results, Tryd.results89, go_sem, e0, e1]) rfl ⟨rfl, (hB.setCell (p := ⟨w.heap.size, 0, none⟩) (Nat.le_refl _) _).setCell (p := ⟨w.heap.size, 1, none⟩) (Nat.le_refl _) _⟩
  | 1, _ =>
    have t0 := hQ 2 _ rfl
    have t1 := hQ 3 _ rfl
    clear hQ
    have Hi := Lib.hid hi
    clear hi
    go_enter Tryd.func89, Tryd.ntmps89
    go_wp2
    go_loopw [0] (fun dv wr => ∃ k : Nat, 6 * k ≤ d ∧ dv = .int .i64 ((d : Int) - 6 * k) ∧ Below w.heap.size w wr ∧ Hid (wr.heap[w.heap.size]? = some (.cells #[.int .i64 0, .int .i64 0] 26 (0, 0))) ∧ Hid (wr.heap[w.heap.size + 1]? = some (.cells #[.int .i64 (rotN k (baseV 1)).1, .int .i64 (rotN k (baseV 1)).2] 26 (0, 0)))) (fun dv _ => (intOf dv).toNat)
    case atStart => exact ⟨0, by omega, by go_num, ((Below.refl _ w).alloc (Nat.le_refl _) _).alloc (by simp) _, Lib.hid (box2_0 _ _ _), Lib.hid (box2_1 _ _ _)⟩
    case round =>
      obtain ⟨k, hk, rfl, hB, h0, h2⟩ := hrel
      have hk4 : k < 4 := by omega
      obtain ⟨⟨b1, b2⟩, ⟨b3, b4⟩⟩ := Hbd.out k hk4
      have Hnx := Lib.hid (show rotN (k + 1) (baseV 1) = (-(rotN k (baseV 1)).2, (rotN k (baseV 1)).1) from rfl)
      have Hnd := Lib.hid (Hve.out k)
      generalize rotN k (baseV 1) = R at *
      obtain ⟨r1, r2⟩ := R
      dsimp only at *
      have c0 : wr.cell? ⟨w.heap.size + 1, 0, none⟩ = some (.int .i64 r1) := by rw [Lib.cell_of_heap h2.out]; rfl
      have c1 : wr.cell? ⟨w.heap.size + 1, 1, none⟩ = some (.int .i64 r2) := by rw [Lib.cell_of_heap h2.out]; rfl
      have e0 : wr.cell? ⟨w.heap.size, 0, none⟩ = some (.int .i64 0) := by rw [Lib.cell_of_heap h0.out]; rfl
      have e1 : wr.cell? ⟨w.heap.size, 1, none⟩ = some (.int .i64 0) := by rw [Lib.cell_of_heap h0.out]; rfl
      have hq2 := World.block_lt_of_cell? wr _ c0
      have f0 : wr.frozen? ⟨w.heap.size + 1, 0, none⟩ = false := Lib.frozen_of_heap h2.out 0
      have f1 : wr.frozen? ⟨w.heap.size + 1, 1, none⟩ = false := Lib.frozen_of_heap h2.out 1
      have f2 : wr.frozen? ⟨w.heap.size, 0, none⟩ = false := Lib.frozen_of_heap h0.out 0
      have f3 : wr.frozen? ⟨w.heap.size, 1, none⟩ = false := Lib.frozen_of_heap h0.out 1
      by_cases hlt : 6 * k + 6 ≤ d
      · go_wp2
        go_roundw
        case rel => exact ⟨k + 1, by omega, by go_num, (hB.setCell (p := ⟨w.heap.size + 1, 0, none⟩) (by simp only []; omega) _).setCell (p := ⟨w.heap.size + 1, 1, none⟩) (by simp only []; omega) _, Lib.hid (blk_oth h0.out (by omega)), Lib.hid (by rw [Hnx.out]; exact blk_set h2.out)⟩
        case measure => simp [intOf]; omega
      · have hV := Hnd.out (by omega)
        subst hV
        go_wp2
        exact bodyPost_ret (v := .agg #[.int .i64 r1, .int .i64 r2]) (by simp [results, Tryd.results89, go_sem, e0, e1]) rfl ⟨rfl, (hB.setCell (p := ⟨w.heap.size, 0, none⟩) (Nat.le_refl _) _).setCell (p := ⟨w.heap.size, 1, none⟩) (Nat.le_refl _) _⟩
  | 2, _ =>
    have t0 := hQ 4 _ rfl
    have t1 := hQ 5 _ rfl
    clear hQ
    have Hi := Lib.hid hi
    clear hi
    go_enter Tryd.func89, Tryd.ntmps89
    go_wp2
    go_loopw [0] (fun dv wr => ∃ k : Nat, 6 * k ≤ d ∧ dv = .int .i64 ((d : Int) - 6 * k) ∧ Below w.heap.size w wr ∧ Hid (wr.heap[w.heap.size]? = some (.cells #[.int .i64 0, .int .i64 0] 26 (0, 0))) ∧ Hid (wr.heap[w.heap.size + 1]? = some (.cells #[.int .i64 (rotN k (baseV 2)).1, .int .i64 (rotN k (baseV 2)).2] 26 (0, 0)))) (fun dv _ => (intOf dv).toNat)
    case atStart => exact ⟨0, by omega, by go_num, ((Below.refl _ w).alloc (Nat.le_refl _) _).alloc (by simp) _, Lib.hid (box2_0 _ _ _), Lib.hid (box2_1 _ _ _)⟩
    case round =>
      obtain ⟨k, hk, rfl, hB, h0, h2⟩ := hrel
      have hk4 : k < 4 := by omega
      obtain ⟨⟨b1, b2⟩, ⟨b3, b4⟩⟩ := Hbd.out k hk4
      have Hnx := Lib.hid (show rotN (k + 1) (baseV 2) = (-(rotN k (baseV 2)).2, (rotN k (baseV 2)).1) from rfl)
      have Hnd := Lib.hid (Hve.out k)
      generalize rotN k (baseV 2) = R at *
      obtain ⟨r1, r2⟩ := R
      dsimp only at *
      have c0 : wr.cell? ⟨w.heap.size + 1, 0, none⟩ = some (.int .i64 r1) := by rw [Lib.cell_of_heap h2.out]; rfl
      have c1 : wr.cell? ⟨w.heap.size + 1, 1, none⟩ = some (.int .i64 r2) := by rw [Lib.cell_of_heap h2.out]; rfl
      have e0 : wr.cell? ⟨w.heap.size, 0, none⟩ = some (.int .i64 0) := by rw [Lib.cell_of_heap h0.out]; rfl
      have e1 : wr.cell? ⟨w.heap.size, 1, none⟩ = some (.int .i64 0) := by rw [Lib.cell_of_heap h0.out]; rfl
      have hq2 := World.block_lt_of_cell? wr _ c0
      have f0 : wr.frozen? ⟨w.heap.size + 1, 0, none⟩ = false := Lib.frozen_of_heap h2.out 0
      have f1 : wr.frozen? ⟨w.heap.size + 1, 1, none⟩ = false := Lib.frozen_of_heap h2.out 1
      have f2 : wr.frozen? ⟨w.heap.size, 0, none⟩ = false := Lib.frozen_of_heap h0.out 0
      have f3 : wr.frozen? ⟨w.heap.size, 1, none⟩ = false := Lib.frozen_of_heap h0.out 1
      by_cases hlt : 6 * k + 6 ≤ d
      · go_wp2
        go_roundw
        case rel => exact ⟨k + 1, by omega, by go_num, (hB.setCell (p := ⟨w.heap.size + 1, 0, none⟩) (by simp only []; omega) _).setCell (p := ⟨w.heap.size + 1, 1, none⟩) (by simp only []; omega) _, Lib.hid (blk_oth h0.out (by omega)), Lib.hid (by rw [Hnx.out]; exact blk_set h2.out)⟩
        case measure => simp [intOf]; omega
      · have hV := Hnd.out (by omega)
        subst hV
        go_wp2
        exact bodyPost_ret (v := .agg #[.int .i64 r1, .int .i64 r2]) (by simp [results, Tryd.results89, go_sem, e0, e1]) rfl ⟨rfl, (hB.setCell (p := ⟨w.heap.size, 0, none⟩) (Nat.le_refl _) _).setCell (p := ⟨w.heap.size, 1, none⟩) (Nat.le_refl _) _⟩
  | 3, _ =>
    have t0 := hQ 6 _ rfl
    have t1 := hQ 7 _ rfl
    clear hQ
    have Hi := Lib.hid hi
    clear hi
    go_enter Tryd.func89, Tryd.ntmps89
    go_wp2
    go_loopw [0] (fun dv wr => ∃ k : Nat, 6 * k ≤ d ∧ dv = .int .i64 ((d : Int) - 6 * k) ∧ Below w.heap.size w wr ∧ Hid (wr.heap[w.heap.size]? = some (.cells #[.int .i64 0, .int .i64 0] 26 (0, 0))) ∧ Hid (wr.heap[w.heap.size + 1]? = some (.cells #[.int .i64 (rotN k (baseV 3)).1, .int .i64 (rotN k (baseV 3)).2] 26 (0, 0)))) (fun dv _ => (intOf dv).toNat)
    case atStart => exact ⟨0, by omega, by go_num, ((Below.refl _ w).alloc (Nat.le_refl _) _).alloc (by simp) _, Lib.hid (box2_0 _ _ _), Lib.hid (box2_1 _ _ _)⟩
    case round =>
      obtain ⟨k, hk, rfl, hB, h0, h2⟩ := hrel
      have hk4 : k < 4 := by omega
      obtain ⟨⟨b1, b2⟩, ⟨b3, b4⟩⟩ := Hbd.out k hk4
      have Hnx := Lib.hid (show rotN (k + 1) (baseV 3) = (-(rotN k (baseV 3)).2, (rotN k (baseV 3)).1) from rfl)
      have Hnd := Lib.hid (Hve.out k)
      generalize rotN k (baseV 3) = R at *
      obtain ⟨r1, r2⟩ := R
      dsimp only at *
      have c0 : wr.cell? ⟨w.heap.size + 1, 0, none⟩ = some (.int .i64 r1) := by rw [Lib.cell_of_heap h2.out]; rfl
      have c1 : wr.cell? ⟨w.heap.size + 1, 1, none⟩ = some (.int .i64 r2) := by rw [Lib.cell_of_heap h2.out]; rfl
      have e0 : wr.cell? ⟨w.heap.size, 0, none⟩ = some (.int .i64 0) := by rw [Lib.cell_of_heap h0.out]; rfl
      have e1 : wr.cell? ⟨w.heap.size, 1, none⟩ = some (.int .i64 0) := by rw [Lib.cell_of_heap h0.out]; rfl
      have hq2 := World.block_lt_of_cell? wr _ c0
      have f0 : wr.frozen? ⟨w.heap.size + 1, 0, none⟩ = false := Lib.frozen_of_heap h2.out 0
      have f1 : wr.frozen? ⟨w.heap.size + 1, 1, none⟩ = false := Lib.frozen_of_heap h2.out 1
      have f2 : wr.frozen? ⟨w.heap.size, 0, none⟩ = false := Lib.frozen_of_heap h0.out 0
      have f3 : wr.frozen? ⟨w.heap.size, 1, none⟩ = false := Lib.frozen_of_heap h0.out 1
      by_cases hlt : 6 * k + 6 ≤ d
      · go_wp2
        go_roundw
        case rel => exact ⟨k + 1, by omega, by go_num, (hB.setCell (p := ⟨w.heap.size + 1, 0, none⟩) (by simp only []; omega) _).setCell (p := ⟨w.heap.size + 1, 1, none⟩) (by simp only []; omega) _, Lib.hid (blk_oth h0.out (by omega)), Lib.hid (by rw [Hnx.out]; exact blk_set h2.out)⟩
        case measure => simp [intOf]; omega
      · have hV := Hnd.out (by omega)
        subst hV
        go_wp2
        exact bodyPost_ret (v := .agg #[.int .i64 r1, .int .i64 r2]) (by simp [results, Tryd.results89, go_sem, e0, e1]) rfl ⟨rfl, (hB.setCell (p := ⟨w.heap.size, 0, none⟩) (Nat.le_refl _) _).setCell (p := ⟨w.heap.size, 1, none⟩) (Nat.le_refl _) _⟩
  | 4, _ =>
    have t0 := hQ 8 _ rfl
    have t1 := hQ 9 _ rfl
    clear hQ
    have Hi := Lib.hid hi
    clear hi
    go_enter Tryd.func89, Tryd.ntmps89
    go_wp2
    go_loopw [0] (fun dv wr => ∃ k : Nat, 6 * k ≤ d ∧ dv = .int .i64 ((d : Int) - 6 * k) ∧ Below w.heap.size w wr ∧ Hid (wr.heap[w.heap.size]? = some (.cells #[.int .i64 0, .int .i64 0] 26 (0, 0))) ∧ Hid (wr.heap[w.heap.size + 1]? = some (.cells #[.int .i64 (rotN k (baseV 4)).1, .int .i64 (rotN k (baseV 4)).2] 26 (0, 0)))) (fun dv _ => (intOf dv).toNat)
    case atStart => exact ⟨0, by omega, by go_num, ((Below.refl _ w).alloc (Nat.le_refl _) _).alloc (by simp) _, Lib.hid (box2_0 _ _ _), Lib.hid (box2_1 _ _ _)⟩
    case round =>
      obtain ⟨k, hk, rfl, hB, h0, h2⟩ := hrel
      have hk4 : k < 4 := by omega
      obtain ⟨⟨b1, b2⟩, ⟨b3, b4⟩⟩ := Hbd.out k hk4
      have Hnx := Lib.hid (show rotN (k + 1) (baseV 4) = (-(rotN k (baseV 4)).2, (rotN k (baseV 4)).1) from rfl)
      have Hnd := Lib.hid (Hve.out k)
      generalize rotN k (baseV 4) = R at *
      obtain ⟨r1, r2⟩ := R
      dsimp only at *
      have c0 : wr.cell? ⟨w.heap.size + 1, 0, none⟩ = some (.int .i64 r1) := by rw [Lib.cell_of_heap h2.out]; rfl
      have c1 : wr.cell? ⟨w.heap.size + 1, 1, none⟩ = some (.int .i64 r2) := by rw [Lib.cell_of_heap h2.out]; rfl
      have e0 : wr.cell? ⟨w.heap.size, 0, none⟩ = some (.int .i64 0) := by rw [Lib.cell_of_heap h0.out]; rfl
      have e1 : wr.cell? ⟨w.heap.size, 1, none⟩ = some (.int .i64 0) := by rw [Lib.cell_of_heap h0.out]; rfl
      have hq2 := World.block_lt_of_cell? wr _ c0
      have f0 : wr.frozen? ⟨w.heap.size + 1, 0, none⟩ = false := Lib.frozen_of_heap h2.out 0
      have f1 : wr.frozen? ⟨w.heap.size + 1, 1, none⟩ = false := Lib.frozen_of_heap h2.out 1
      have f2 : wr.frozen? ⟨w.heap.size, 0, none⟩ = false := Lib.frozen_of_heap h0.out 0
      have f3 : wr.frozen? ⟨w.heap.size, 1, none⟩ = false := Lib.frozen_of_heap h0.out 1
      by_cases hlt : 6 * k + 6 ≤ d
      · go_wp2
        go_roundw
        case rel => exact ⟨k + 1, by omega, by go_num, (hB.setCell (p := ⟨w.heap.size + 1, 0, none⟩) (by simp only []; omega) _).setCell (p := ⟨w.heap.size + 1, 1, none⟩) (by simp only []; omega) _, Lib.hid (blk_oth h0.out (by omega)), Lib.hid (by rw [Hnx.out]; exact blk_set h2.out)⟩
        case measure => simp [intOf]; omega
      · have hV := Hnd.out (by omega)
        subst hV
        go_wp2
        exact bodyPost_ret (v := .agg #[.int .i64 r1, .int .i64 r2]) (by simp [results, Tryd.results89, go_sem, e0, e1]) rfl ⟨rfl, (hB.setCell (p := ⟨w.heap.size, 0, none⟩) (Nat.le_refl _) _).setCell (p := ⟨w.heap.size, 1, none⟩) (Nat.le_refl _) _⟩
  | 5, _ =>
    have t0 := hQ 10 _ rfl
    have t1 := hQ 11 _ rfl
    clear hQ
    have Hi := Lib.hid hi
    clear hi
    go_enter Tryd.func89, Tryd.ntmps89
    go_wp2
    go_loopw [0] (fun dv wr => ∃ k : Nat, 6 * k ≤ d ∧ dv = .int .i64 ((d : Int) - 6 * k) ∧ Below w.heap.size w wr ∧ Hid (wr.heap[w.heap.size]? = some (.cells #[.int .i64 0, .int .i64 0] 26 (0, 0))) ∧ Hid (wr.heap[w.heap.size + 1]? = some (.cells #[.int .i64 (rotN k (baseV 5)).1, .int .i64 (rotN k (baseV 5)).2] 26 (0, 0)))) (fun dv _ => (intOf dv).toNat)
    case atStart => exact ⟨0, by omega, by go_num, ((Below.refl _ w).alloc (Nat.le_refl _) _).alloc (by simp) _, Lib.hid (box2_0 _ _ _), Lib.hid (box2_1 _ _ _)⟩
    case round =>
      obtain ⟨k, hk, rfl, hB, h0, h2⟩ := hrel
      have hk4 : k < 4 := by omega
      obtain ⟨⟨b1, b2⟩, ⟨b3, b4⟩⟩ := Hbd.out k hk4
      have Hnx := Lib.hid (show rotN (k + 1) (baseV 5) = (-(rotN k (baseV 5)).2, (rotN k (baseV 5)).1) from rfl)
      have Hnd := Lib.hid (Hve.out k)
      generalize rotN k (baseV 5) = R at *
      obtain ⟨r1, r2⟩ := R
      dsimp only at *
      have c0 : wr.cell? ⟨w.heap.size + 1, 0, none⟩ = some (.int .i64 r1) := by rw [Lib.cell_of_heap h2.out]; rfl
      have c1 : wr.cell? ⟨w.heap.size + 1, 1, none⟩ = some (.int .i64 r2) := by rw [Lib.cell_of_heap h2.out]; rfl
      have e0 : wr.cell? ⟨w.heap.size, 0, none⟩ = some (.int .i64 0) := by rw [Lib.cell_of_heap h0.out]; rfl
      have e1 : wr.cell? ⟨w.heap.size, 1, none⟩ = some (.int .i64 0) := by rw [Lib.cell_of_heap h0.out]; rfl
      have hq2 := World.block_lt_of_cell? wr _ c0
      have f0 : wr.frozen? ⟨w.heap.size + 1, 0, none⟩ = false := Lib.frozen_of_heap h2.out 0
      have f1 : wr.frozen? ⟨w.heap.size + 1, 1, none⟩ = false := Lib.frozen_of_heap h2.out 1
      have f2 : wr.frozen? ⟨w.heap.size, 0, none⟩ = false := Lib.frozen_of_heap h0.out 0
      have f3 : wr.frozen? ⟨w.heap.size, 1, none⟩ = false := Lib.frozen_of_heap h0.out 1
      by_cases hlt : 6 * k + 6 ≤ d
      · go_wp2
        go_roundw
        case rel => exact ⟨k + 1, by omega, by go_num, (hB.setCell (p := ⟨w.heap.size + 1, 0, none⟩) (by simp only []; omega) _).setCell (p := ⟨w.heap.size + 1, 1, none⟩) (by simp only []; omega) _, Lib.hid (blk_oth h0.out (by omega)), Lib.hid (by rw [Hnx.out]; exact blk_set h2.out)⟩
        case measure => simp [intOf]; omega
      · have hV := Hnd.out (by omega)
        subst hV
        go_wp2
        exact bodyPost_ret (v := .agg #[.int .i64 r1, .int .i64 r2]) (by simp [results, Tryd.results89, go_sem, e0, e1]) rfl ⟨rfl, (hB.setCell (p := ⟨w.heap.size, 0, none⟩) (Nat.le_refl _) _).setCell (p := ⟨w.heap.size, 1, none⟩) (Nat.le_refl _) _⟩
end Go.Proofs.YtpabbehpkokhbaaDoor
