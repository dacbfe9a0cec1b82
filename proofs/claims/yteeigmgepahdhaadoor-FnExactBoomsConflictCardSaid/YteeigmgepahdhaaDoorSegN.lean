/- Conflicts, the program: a crane's boom. -/
import Derived.Test.YteeigmgepahdhaaDoorSegM
namespace Go.Proofs.YteeigmgepahdhaaDoor
open Go.RowKit
theorem cells7s {p : Nat} {a b c d e f g : Value} {t : TypeId} {z : Nat × Nat} {w : World} (h : w.heap[p]? = some (.cells #[a, b, c, d, e, f, g] t z)) : w.cell? ⟨p, 0, none⟩ = some a ∧ w.cell? ⟨p, 1, none⟩ = some b ∧ w.cell? ⟨p, 2, none⟩ = some c ∧ w.cell? ⟨p, 3, none⟩ = some d ∧ w.cell? ⟨p, 4, none⟩ = some e ∧ w.cell? ⟨p, 5, none⟩ = some f ∧ w.cell? ⟨p, 6, none⟩ = some g := by
  refine ⟨?_, ?_, ?_, ?_, ?_, ?_, ?_⟩ <;> simp [World.cell?, h]
set_option maxRecDepth 100000 in
set_option maxHeartbeats 4000000 in
theorem impl_Back (f : CraneF) (sv : Value) (d : Nat) (w : World) (hQ : Qtr w) (hf : GeoOk f) (hd : d < 24) : Calls Tryd.prog 82 #[.agg #[.string (f).name, .int .i64 (f).x, .int .i64 (f).y, .int .i64 (f).height, .int .i64 (f).jib, .int .i64 (f).back, sv], .int .i64 d] w fun e w' => e = .returned (.agg #[.int .i64 (backP f d).x, .int .i64 (backP f d).y]) ∧ Below w.heap.size w w' := by
  have K1 := Lib.hid (fun w h => impl_PlaceAt f.x f.y f.back ((d + 12) % 24) w h hf.1 (by omega) hf.2.2.2)
  have K2 := Lib.hid (fun w => impl_Opp d w hd)
  have HQ := Lib.hid hQ
  clear hQ hf
  unfold backP
  generalize plcI f.x f.y ((d + 12) % 24) f.back = R at *
  obtain ⟨rx, ry⟩ := R
  obtain ⟨fn, fx, fy, fh, fj, fb⟩ := f
  dsimp only at *
  go_enter Tryd.func82, Tryd.ntmps82
  go_wp2_with fail
  have B0 : Below w.heap.size w (w.alloc (.cells #[.string fn, .int .i64 fx, .int .i64 fy, .int .i64 fh, .int .i64 fj, .int .i64 fb, sv] 28)) := (Below.refl _ w).alloc (Nat.le_refl _) _
  have G0 := blkN_new w (.cells #[.string fn, .int .i64 fx, .int .i64 fy, .int .i64 fh, .int .i64 fj, .int .i64 fb, sv] 28)
  have hs : w.heap.size + 1 = (w.alloc (.cells #[.string fn, .int .i64 fx, .int .i64 fy, .int .i64 fh, .int .i64 fj, .int .i64 fb, sv] 28)).heap.size := by simp
  rw [hs]
  obtain ⟨W, hW⟩ : ∃ W, w.alloc (.cells #[.string fn, .int .i64 fx, .int .i64 fy, .int .i64 fh, .int .i64 fj, .int .i64 fb, sv] 28) = W := ⟨_, rfl⟩
  rw [hW] at B0 G0 hs ⊢
  have HQ := Lib.hid (HQ.out.ext B0)
  clear hW
  obtain ⟨-, e1, e2, -, -, e5, -⟩ := cells7s G0
  have hz := World.block_lt_of_cell? W _ e1
  have hz1 : w.heap.size < W.heap.size + 1 := by omega
  clear G0
  go_region_held3 (fun w' => (∀ b' o', b' < W.heap.size → w'.cell? ⟨b', o', none⟩ = W.cell? ⟨b', o', none⟩) ∧ Below W.heap.size W w') (first | exact heldB (((Below.refl _ _).alloc (Nat.le_refl _) _).drew) | exact heldB C1 | exact heldB ((C1.setCell (Nat.le_refl _) _).setCell (Nat.le_refl _) _))
    (first | (go_at_call 98; refine (K2.out _).mono ?_; rintro e x0 ⟨rfl, rfl⟩) | (go_at_call 97; refine (K1.out _ (HQ.out.ext (((Below.refl _ _).alloc (Nat.le_refl _) _).drew))).mono ?_; rintro e x1 ⟨rfl, c1⟩; have C1 : Below W.heap.size W x1 := ((Below.refl _ _).alloc (Nat.le_refl _) _).drew.trans (c1.mono (by simp [World.drew])); have G1 := blkN_below c1 (blkN_new W (.cells #[.int .i64 0, .int .i64 0] 25)); obtain ⟨r0, r1⟩ := cells2s G1; have f1 := fun j => Lib.frozen_of_heap G1 j))
  rename_i hH
  clear hH
  have z3 := World.block_lt_of_cell? x1 _ r0
  go_wp2
  refine bodyPost_ret (v := .agg #[.int .i64 rx, .int .i64 ry]) (by simp [results, Tryd.results82, go_sem, r0, r1]) rfl ?_
  exact ⟨rfl, B0.trans (((C1.setCell (p := ⟨W.heap.size, 0, none⟩) (Nat.le_refl _) _).setCell (p := ⟨W.heap.size, 1, none⟩) (Nat.le_refl _) _).mono B0.size)⟩
set_option maxRecDepth 100000 in
set_option maxHeartbeats 4000000 in
theorem impl_Boom (f : CraneF) (sv : Value) (d : Nat) (w : World) (hQ : Qtr w) (hf : GeoOk f) (hd : d < 24) : Calls Tryd.prog 62 #[.agg #[.string (f).name, .int .i64 (f).x, .int .i64 (f).y, .int .i64 (f).height, .int .i64 (f).jib, .int .i64 (f).back, sv], .int .i64 d] w fun e w' => e = .returned (.agg #[.int .i64 (backP f d).x, .int .i64 (backP f d).y, .int .i64 (jibP f d).x, .int .i64 (jibP f d).y]) ∧ Below w.heap.size w w' := by
  have K1 := Lib.hid (fun w h => impl_Back f sv d w h hf hd)
  have K2 := Lib.hid (fun w h => impl_Jib f sv d w h hf hd)
  have HQ := Lib.hid hQ
  clear hQ hf
  generalize backP f d = R at *
  generalize jibP f d = T at *
  obtain ⟨rx, ry⟩ := R
  obtain ⟨tx, ty⟩ := T
  obtain ⟨fn, fx, fy, fh, fj, fb⟩ := f
  dsimp only at *
  go_enter Tryd.func62, Tryd.ntmps62
  go_wp2_with fail
  have B0 : Below w.heap.size w (w.alloc (.cells #[.string fn, .int .i64 fx, .int .i64 fy, .int .i64 fh, .int .i64 fj, .int .i64 fb, sv] 28)) := (Below.refl _ w).alloc (Nat.le_refl _) _
  have G0 := blkN_new w (.cells #[.string fn, .int .i64 fx, .int .i64 fy, .int .i64 fh, .int .i64 fj, .int .i64 fb, sv] 28)
  have hs : w.heap.size + 1 = (w.alloc (.cells #[.string fn, .int .i64 fx, .int .i64 fy, .int .i64 fh, .int .i64 fj, .int .i64 fb, sv] 28)).heap.size := by simp
  rw [hs]
  obtain ⟨W, hW⟩ : ∃ W, w.alloc (.cells #[.string fn, .int .i64 fx, .int .i64 fy, .int .i64 fh, .int .i64 fj, .int .i64 fb, sv] 28) = W := ⟨_, rfl⟩
  rw [hW] at B0 G0 hs ⊢
  have HQ := Lib.hid (HQ.out.ext B0)
  clear hW
  obtain ⟨e0, e1, e2, e3, e4, e5, e6⟩ := cells7s G0
  have hz := World.block_lt_of_cell? W _ e1
  have hz1 : w.heap.size < W.heap.size + 1 := by omega
  clear G0
  go_region_held3 (fun w' => (∀ b' o', b' < W.heap.size → w'.cell? ⟨b', o', none⟩ = W.cell? ⟨b', o', none⟩) ∧ Below W.heap.size W w') (first | exact heldB (((Below.refl _ _).alloc (Nat.le_refl _) _).drew) | exact heldB C1 | exact heldB C2 | exact heldB ((((C2.setCell (Nat.le_refl _) _).setCell (Nat.le_refl _) _).setCell (Nat.le_refl _) _).setCell (Nat.le_refl _) _))
    (first | (go_at_call 82; refine (K1.out _ (HQ.out.ext (((Below.refl _ _).alloc (Nat.le_refl _) _).drew))).mono ?_; rintro e x1 ⟨rfl, c1⟩; have C1 : Below W.heap.size W x1 := ((Below.refl _ _).alloc (Nat.le_refl _) _).drew.trans (c1.mono (by simp [World.drew])); have G1 := blkN_below c1 (blkN_new W (.cells #[.int .i64 0, .int .i64 0, .int .i64 0, .int .i64 0] 72))) | (go_at_call 83; refine (K2.out _ (HQ.out.ext C1)).mono ?_; rintro e x2 ⟨rfl, c2⟩; have C2 : Below W.heap.size W x2 := C1.trans (c2.mono C1.size); have G2 := blkN_below c2 G1; obtain ⟨r0, r1, r2, r3⟩ := cells4s G2; have f1 := fun j => Lib.frozen_of_heap G2 j))
  rename_i hH
  clear hH
  have z3 := World.block_lt_of_cell? x2 _ r0
  go_wp2
  refine bodyPost_ret (v := .agg #[.int .i64 rx, .int .i64 ry, .int .i64 tx, .int .i64 ty]) (by simp [results, Tryd.results62, go_sem, r0, r1, r2, r3]) rfl ?_
  exact ⟨rfl, B0.trans (((((C2.setCell (p := ⟨W.heap.size, 0, none⟩) (Nat.le_refl _) _).setCell (p := ⟨W.heap.size, 1, none⟩) (Nat.le_refl _) _).setCell (p := ⟨W.heap.size, 2, none⟩) (Nat.le_refl _) _).setCell (p := ⟨W.heap.size, 3, none⟩) (Nat.le_refl _) _).mono B0.size)⟩
end Go.Proofs.YteeigmgepahdhaaDoor
