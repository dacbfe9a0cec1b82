/- The possible acts of a world, in both packages. -/
import Derived.Test.YtmkhapgkiecmaaaExF
import Derived.Test.YtmkhapgkiecmaaaRunM
namespace Go.Proofs.Ytmkhapgkiecmaaa
open Go.RowKit
theorem info_ActA : (Try.prog.info? 59).map (fun i => (i.zero.map (·.cells.size), i.size, i.bytes)) = some (some 4, 4, 24) := by kernel_rfl
theorem Act1.one (x : Act1) : ∀ u ∈ x.cells, u.oneCell' = true := by
  intro u hu
  simp [Act1.cells] at hu
  rcases hu with rfl | rfl | rfl | rfl <;> rfl
theorem act_lit (k : Nat) : (actOf k).cells.toArray = #[.int .i64 ((k : Int) / 12 - 1), .int .i64 ((k : Int) / 4 % 3 - 1), .bool ((k : Int) / 2 % 2 == 1), .bool ((k : Int) % 2 == 1)] := by
  have h1 : ((k : Int) / 2 % 2 == 1) = decide (k / 2 % 2 = 1) := by
    by_cases h : k / 2 % 2 = 1
    · rw [decide_eq_true h]; simp; omega
    · rw [decide_eq_false h]; simp; omega
  have h2 : ((k : Int) % 2 == 1) = decide (k % 2 = 1) := by
    by_cases h : k % 2 = 1
    · rw [decide_eq_true h]; simp; omega
    · rw [decide_eq_false h]; simp; omega
  rw [h1, h2]
  rfl
theorem actI_eq (k : Nat) : (⟨(k : Int) / 12 - 1, (k : Int) / 4 % 3 - 1, (k : Int) / 2 % 2 == 1, (k : Int) % 2 == 1⟩ : Act1) = actOf k := by
  have h := act_lit k
  simp only [Act1.cells, Array.mk.injEq, List.cons.injEq, Value.int.injEq, Value.bool.injEq, true_and, and_true] at h
  obtain ⟨h1, h2, h3, h4⟩ := h
  rw [← h1, ← h2, ← h3, ← h4]
theorem Own.far {α : Type} {n : Nat} {c : α → List Value} {lo k : Nat} {e : TypeId} {w : World} {v : Value} {l : List α} (h : Own n c lo e w v l) (hk : k < lo) : some k ≠ v.ownBlock := fun he => by
  have := (World.ownsRow.lt h k he.symm).1
  omega
theorem Own.down {α : Type} {n : Nat} {c : α → List Value} {lo lo' : Nat} {e : TypeId} {w : World} {v : Value} {l : List α} (h : Own n c lo e w v l) (hl : lo' ≤ lo) : Own n c lo' e w v l :=
  ⟨h.1, h.2.imp id fun ⟨g, cap, cur, hv, hb, r⟩ => ⟨g, cap, cur, hv, Nat.le_trans hl hb, r⟩⟩
/-- The acts, in memory of the call's own. -/
def ActsR (T : Tab) (v : Wtc) (x : Wld) (w : World) (e : Ending) (w' : World) : Prop :=
  ∃ v', e = .returned v' ∧ Own 4 Act1.cells w.heap.size 59 w' v' (actsW T v x) ∧ Below w.heap.size w w'
theorem actJ_eq (a b l : Nat) (hb : b < 3) (hl : l < 4) : (⟨(a : Int) - 1, (b : Int) - 1, decide (2 ≤ (l : Int)), (l : Int) % 2 == 1⟩ : Act1) = actOf (a * 12 + b * 4 + l) := by
  have e1 : (a * 12 + b * 4 + l) / 12 = a := by omega
  have e2 : (a * 12 + b * 4 + l) / 4 % 3 = b := by omega
  have e3 : decide (2 ≤ (l : Int)) = decide ((a * 12 + b * 4 + l) / 2 % 2 = 1) := by
    rw [decide_eq_decide]; omega
  have e4 : ((l : Int) % 2 == 1) = decide ((a * 12 + b * 4 + l) % 2 = 1) := by
    by_cases h : (a * 12 + b * 4 + l) % 2 = 1
    · rw [decide_eq_true h]; simp; omega
    · rw [decide_eq_false h]; simp; omega
  unfold actOf
  rw [e1, e2, e3, e4]
theorem actJ_cells (a b l : Nat) (hb : b < 3) (hl : l < 4) : (actOf (a * 12 + b * 4 + l)).cells.toArray = #[.int .i64 ((a : Int) - 1), .int .i64 ((b : Int) - 1), .bool (decide (2 ≤ (l : Int))), .bool ((l : Int) % 2 == 1)] := by
  rw [← actJ_eq a b l hb hl]; rfl
set_option maxRecDepth 100000 in
set_option maxHeartbeats 8000000 in
theorem impl_Acts (tv : Value) (rows : List SV) (T : Tab) (lo hi : Nat) (v : Wtc) (x : Wld) (w : World) (h : TabR lo hi w tv rows T) (hT : TabOk T) (hv : v.ok) (hx : x.in_) :
    Calls Try.prog 64 #[.agg x.cells.toArray, tv, .agg v.cells.toArray] w (ActsR T v x w) := by
  have hcan := Lib.hid (fun y w' (hb : Below w.heap.size w w') (hy : Trn y.turnA ∧ Trn y.turnB) => impl_possible tv rows T lo hi v x y w' (h.ext hb) hT hv hx hy.1 hy.2)
  clear h hT hv hx
  obtain ⟨m, t⟩ := v
  obtain ⟨a, b, sa, sb, ga, gb⟩ := x
  have HV := Lib.hid (p := ((⟨m, t⟩ : Wtc).cells.toArray = #[.int .i64 m, .int .i64 t])) rfl
  have HX := Lib.hid (p := ((⟨a, b, sa, sb, ga, gb⟩ : Wld).cells.toArray = #[.int .i64 a, .int .i64 b, .int .i64 sa, .int .i64 sb, .int .i64 ga, .int .i64 gb])) rfl
  rw [HV.out, HX.out] at hcan ⊢
  unfold ActsR
  generalize hvv : (⟨m, t⟩ : Wtc) = vv at *
  generalize hxx : (⟨a, b, sa, sb, ga, gb⟩ : Wld) = xx at *
  clear hvv hxx HV HX
  have g0 := Lib.hid (alloc3 w (.cells #[.int .i64 a, .int .i64 b, .int .i64 sa, .int .i64 sb, .int .i64 ga, .int .i64 gb] 51 (0, 0)) (.cells #[.int .i64 m, .int .i64 t] 49 (0, 0)) (.cells #[] 59)).1
  have hg1 : ((w.alloc (.cells #[.int .i64 a, .int .i64 b, .int .i64 sa, .int .i64 sb, .int .i64 ga, .int .i64 gb] 51 (0, 0))).alloc (.cells #[.int .i64 m, .int .i64 t] 49 (0, 0))).heap[w.heap.size + 1]? = some (.cells #[.int .i64 m, .int .i64 t] 49 (0, 0)) := by
    have := blk_new (w.alloc (.cells #[.int .i64 a, .int .i64 b, .int .i64 sa, .int .i64 sb, .int .i64 ga, .int .i64 gb] 51 (0, 0))) (.cells #[.int .i64 m, .int .i64 t] 49 (0, 0))
    rwa [World.size_alloc] at this
  have hg0 : ((w.alloc (.cells #[.int .i64 a, .int .i64 b, .int .i64 sa, .int .i64 sb, .int .i64 ga, .int .i64 gb] 51 (0, 0))).alloc (.cells #[.int .i64 m, .int .i64 t] 49 (0, 0))).heap[w.heap.size]? = some (.cells #[.int .i64 a, .int .i64 b, .int .i64 sa, .int .i64 sb, .int .i64 ga, .int .i64 gb] 51 (0, 0)) :=
    blk_below' ((Below.refl _ _).alloc (Nat.le_refl _) _) (blk_new w _)
  have hg0 := Lib.hid hg0
  have hg1 := Lib.hid hg1
  clear g0
  go_enter Try.func64, Try.ntmps64
  go_wp2_with fail
  go_loopw [7, 8] (fun o i wr => ∃ k : Nat, k ≤ 3 ∧ i = .int .i64 ((k : Int) - 1) ∧ Below w.heap.size w wr ∧ Hid (wr.heap[w.heap.size]? = some (.cells #[.int .i64 a, .int .i64 b, .int .i64 sa, .int .i64 sb, .int .i64 ga, .int .i64 gb] 51 (0, 0))) ∧ Hid (wr.heap[w.heap.size + 1]? = some (.cells #[.int .i64 m, .int .i64 t] 49 (0, 0))) ∧ Own 4 Act1.cells (w.heap.size + 2) 59 wr o (actsN T vv xx (k * 12))) (fun _ i _ => (2 - intOf i).toNat)
  case atStart => exact ⟨0, by omega, by go_num, (((Below.refl _ w).alloc (Nat.le_refl _) _).alloc (by simp) _), hg0, hg1, own_nil _ _ _⟩
  case round =>
    clear hg0 hg1
    obtain ⟨ka, hka, rfl, hB, h0, h1, hown⟩ := hrel
    by_cases hlt : ka < 3
    · have hda : (ka : Int) - 1 ≤ 1 := by omega
      go_wp2_with fail
      go_loopw [7, 9] (fun o i wr => ∃ k : Nat, k ≤ 3 ∧ i = .int .i64 ((k : Int) - 1) ∧ Below w.heap.size w wr ∧ Hid (wr.heap[w.heap.size]? = some (.cells #[.int .i64 a, .int .i64 b, .int .i64 sa, .int .i64 sb, .int .i64 ga, .int .i64 gb] 51 (0, 0))) ∧ Hid (wr.heap[w.heap.size + 1]? = some (.cells #[.int .i64 m, .int .i64 t] 49 (0, 0))) ∧ Own 4 Act1.cells (w.heap.size + 2) 59 wr o (actsN T vv xx (ka * 12 + k * 4))) (fun _ i _ => (2 - intOf i).toNat)
      case atStart => exact ⟨0, by omega, by go_num, hB, h0, h1, by simpa using hown⟩
      case round =>
        clear hB h0 h1 hown
        obtain ⟨kb, hkb, rfl, hB, h0, h1, hown⟩ := hrel
        by_cases hltb : kb < 3
        · have hdb : (kb : Int) - 1 ≤ 1 := by omega
          go_wp2_with fail
          go_loopw [7, 20] (fun o i wr => ∃ k : Nat, k ≤ 4 ∧ i = .int .i64 k ∧ Below w.heap.size w wr ∧ Hid (wr.heap[w.heap.size]? = some (.cells #[.int .i64 a, .int .i64 b, .int .i64 sa, .int .i64 sb, .int .i64 ga, .int .i64 gb] 51 (0, 0))) ∧ Hid (wr.heap[w.heap.size + 1]? = some (.cells #[.int .i64 m, .int .i64 t] 49 (0, 0))) ∧ Own 4 Act1.cells (w.heap.size + 2) 59 wr o (actsN T vv xx (ka * 12 + kb * 4 + k))) (fun _ i _ => 4 - (intOf i).toNat)
          case atStart => exact ⟨0, by omega, rfl, hB, h0, h1, hown⟩
          case round =>
            clear hB h0 h1 hown
            obtain ⟨k, hk, rfl, hB, h0, h1, hown⟩ := hrel
            by_cases hltk : k < 4
            · have c0 : wr.cell? ⟨w.heap.size + 1, 0, none⟩ = some (.int .i64 m) := by rw [Lib.cell_of_heap (h1).out]; rfl
              have c1 : wr.cell? ⟨w.heap.size + 1, 1, none⟩ = some (.int .i64 t) := by rw [Lib.cell_of_heap (h1).out]; rfl
              have d0 : wr.cell? ⟨w.heap.size, 0, none⟩ = some (.int .i64 a) := by rw [Lib.cell_of_heap (h0).out]; rfl
              have d1 : wr.cell? ⟨w.heap.size, 1, none⟩ = some (.int .i64 b) := by rw [Lib.cell_of_heap (h0).out]; rfl
              have d2 : wr.cell? ⟨w.heap.size, 2, none⟩ = some (.int .i64 sa) := by rw [Lib.cell_of_heap (h0).out]; rfl
              have d3 : wr.cell? ⟨w.heap.size, 3, none⟩ = some (.int .i64 sb) := by rw [Lib.cell_of_heap (h0).out]; rfl
              have d4 : wr.cell? ⟨w.heap.size, 4, none⟩ = some (.int .i64 ga) := by rw [Lib.cell_of_heap (h0).out]; rfl
              have d5 : wr.cell? ⟨w.heap.size, 5, none⟩ = some (.int .i64 gb) := by rw [Lib.cell_of_heap (h0).out]; rfl
              have z0 : w.heap.size < wr.heap.size := World.block_lt_of_cell? wr _ d0
              have z1 : w.heap.size + 1 < wr.heap.size := World.block_lt_of_cell? wr _ c0
              have hcan2 := hcan.out (actOf (ka * 12 + kb * 4 + k))
              rw [actJ_cells ka kb k hltb hltk] at hcan2
              have hcan2 := Lib.hid (fun w' hb => hcan2 w' hb (act_trn (by omega)))
              have Hn := Lib.hid (fun h => actsN_t (T := T) (v := vv) (x := xx) (n := ka * 12 + kb * 4 + k) h)
              have Hf := Lib.hid (fun h => actsN_f (T := T) (v := vv) (x := xx) (n := ka * 12 + kb * 4 + k) h)
              have Hlen := actsN_len T vv xx (ka * 12 + kb * 4 + k)
              have Hown := Lib.hid hown
              have Heq := Lib.hid (actJ_eq ka kb k hltb hltk)
              clear hown
              cases hcb : canB T vv xx (actOf (ka * 12 + kb * 4 + k))
              · rw [hcb] at hcan2
                have Hst := Lib.hid (Hf.out hcb)
                clear hcb
                go_wp2_with (first | (go_at_call 66; refine (hcan2.out _ (hB.alloc hB.size _)).mono ?_; rintro e w3 ⟨rfl, hb3⟩; have b3 : Below wr.heap.size wr w3 := ((Below.refl _ wr).alloc (Nat.le_refl _) _).trans (hb3.mono (by simp))))
                go_roundw
                case rel => exact ⟨k + 1, by omega, by go_num, hB.trans (b3.mono hB.size), Lib.hid (blk_below' b3 h0.out), Lib.hid (blk_below' b3 h1.out), by rw [← Nat.add_assoc, Hst.out]; exact Own.below Hown.out b3⟩
                case measure => simp [intOf]; omega
              · rw [hcb] at hcan2
                have Hst := Lib.hid (Hn.out hcb)
                clear hcb
                go_wp2_with (first | (go_at_call 66; refine (hcan2.out _ (hB.alloc hB.size _)).mono ?_; rintro e w3 ⟨rfl, hb3⟩; have b3 : Below wr.heap.size wr w3 := ((Below.refl _ wr).alloc (Nat.le_refl _) _).trans (hb3.mono (by simp)); have q3 := (bcell hb3).1; have z3 : wr.heap.size < w3.heap.size := Nat.lt_of_lt_of_le (by simp) hb3.size; have hB3 := hB.trans (b3.mono hB.size); have hBs3 : w.heap.size + 2 ≤ w3.heap.size := Nat.le_trans z1 b3.size; have Hown3 := Own.below Hown.out b3) | (at_builtin; refine wpList_app1 (c := Act1.cells) (bytes := 24) rfl _ _ 55 59 rfl Try.underlying55 info_ActA (by omega) Act1.len Act1.one (w.heap.size + 2) (actsN T vv xx (ka * 12 + kb * 4 + k)) ⟨(ka : Int) - 1, (kb : Int) - 1, decide (2 ≤ (k : Int)), (k : Int) % 2 == 1⟩ _ rfl _ rfl Hown3 rfl (by omega) (by omega) hBs3 ?_; intro v' w4 hown4 hg4; have hB4 := Hown3.app hB3 (by omega) hB3.size hg4))
                go_roundw
                case rel => exact ⟨k + 1, by omega, by go_num, hB4, Lib.hid ((hg4.block _ (Nat.lt_of_lt_of_le (Nat.lt_of_lt_of_le z0 b3.size) (by simp)) (Own.far Hown3 (by omega))).trans (((Below.refl _ w3).alloc (Nat.le_refl _) _).block _ (Nat.lt_of_lt_of_le z0 b3.size) |>.trans (blk_below' b3 h0.out))), Lib.hid ((hg4.block _ (Nat.lt_of_lt_of_le (Nat.lt_of_lt_of_le z1 b3.size) (by simp)) (Own.far Hown3 (by omega))).trans (((Below.refl _ w3).alloc (Nat.le_refl _) _).block _ (Nat.lt_of_lt_of_le z1 b3.size) |>.trans (blk_below' b3 h1.out))), by rw [← Nat.add_assoc, Hst.out, ← Heq.out]; exact hown4⟩
                case measure => simp [intOf]; omega
            · obtain rfl : k = 4 := by omega
              go_wp2
              go_roundw
              case rel => exact ⟨kb + 1, by omega, by go_num, hB, h0, h1, by rw [show ka * 12 + (kb + 1) * 4 = ka * 12 + kb * 4 + 4 by omega]; exact hown⟩
              case measure => simp [intOf]; omega
        · obtain rfl : kb = 3 := by omega
          go_wp2
          go_roundw
          case rel => exact ⟨ka + 1, by omega, by go_num, hB, h0, h1, by rw [show (ka + 1) * 12 = ka * 12 + 3 * 4 by omega]; exact hown⟩
          case measure => simp [intOf]; omega
    · obtain rfl : ka = 3 := by omega
      go_wp2
      go_ret
      exact ⟨_, rfl, hown.down (by omega), hB⟩
end Go.Proofs.Ytmkhapgkiecmaaa
