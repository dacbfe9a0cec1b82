/- slices.Delete of one lift. -/
import Derived.Test.YtijpghlkbfmefaaDoorDel
import Derived.Test.YtijpghlkbfmefaaDoorLfC
namespace Go.Proofs.YtijpghlkbfmefaaDoor
open Go.RowKit
theorem lr_len (x : LiftR) : (LiftR.cells x).length = 9 := rfl
def zsL : List Value := [.string ⟨#[]⟩, .int .i64 0, .int .i64 0, .int .i64 0, .int .i64 0, .int .i64 0, .int .i64 0, .int .i64 0, .slice none 0 0]
theorem info_zeroL : (Tryd.prog.info? 31).bind (fun i => i.zero.map (fun z => z.cells)) = some zsL.toArray := by kernel_rfl
theorem zero_lift : ∃ z : Value, (∀ w, (zeroValue 31).run Tryd.prog w = .ok z w) ∧ z.cells = zsL.toArray := by
  obtain ⟨i, hi, h2⟩ := Option.bind_eq_some_iff.1 info_zeroL
  obtain ⟨z, hz, hc⟩ := Option.map_eq_some_iff.1 h2
  exact ⟨z, fun w => by simp [zeroValue, typeInfo, hi, hz], hc⟩
theorem zsL_one : ∀ v ∈ zsL, v.oneCell' = true := by intro u hu; simp [zsL] at hu; rcases hu with rfl | rfl | rfl <;> rfl
set_option maxRecDepth 100000 in
set_option maxHeartbeats 8000000 in
theorem impl_DeleteL (b off cap i : Nat) (rs : List LiftR) (L : LiftsL) (lo hi : Nat) (w : World) (h : NSw 9 LiftR.cells LiftR.f LiftR.s 1 intCells lo hi w (.slice (some ⟨b, off, none⟩) L.length cap) rs L) (hhi : hi ≤ w.heap.size) (hi' : i < L.length) (hL : L.length ≤ 10) :
    Calls Tryd.prog 29 #[.slice (some ⟨b, off, none⟩) L.length cap, .int .i64 i, .int .i64 ((i : Int) + 1)] w fun e w' => e = .returned (.slice (some ⟨b, off, none⟩) (L.length - 1 : Nat) cap) ∧ NSw 9 LiftR.cells LiftR.f LiftR.s 1 intCells lo hi w' (.slice (some ⟨b, off, none⟩) (L.length - 1) cap) (rs.eraseIdx i) (L.eraseIdx i) ∧ Mod lo hi w w' := by
  have hrl := h.len
  obtain ⟨b', off', cap', hv, hcp, hraw⟩ := Raw.of h.out lr_len (by omega)
  rw [hrl] at hv
  cases hv
  rw [hrl] at hcp
  have hbw : b < w.heap.size := Nat.lt_of_lt_of_le hraw.hi hhi
  have Her := Lib.hid (fun (W : World) (hW : Mod lo hi w W) (hWh : W.heap = w.heap) => NSw.erase lr_len h hhi hW hWh hi' zsL)
  obtain ⟨z, hz, hzc⟩ := zero_lift
  obtain ⟨hc1, hc2⟩ := hcp
  -- the cells that move
  have hnl : ((rs.drop (i + 1)).flatMap LiftR.cells).length = (L.length - (i + 1)) * 9 := by rw [flat_len lr_len, List.length_drop, hrl]
  have hcell : Hid (∀ (k : Nat) (_ : k < rs.length * 9), (w.cell? ⟨b, off + k, none⟩).isSome = true) := Lib.hid (fun k hk => by
    have hx : k / 9 < rs.length := by omega
    have h7 := hraw.cell (k / 9) (by simpa using hx) (k % 9) _ (List.getElem?_eq_getElem (by rw [List.getElem_map]; simp only [LiftR.cells, List.length_cons, List.length_nil]; omega))
    rw [show off + k = off + k / 9 * 9 + k % 9 by omega, h7]; rfl)
  have hfree := Lib.hid hraw.free
  have hsrc : Hid (∀ t u, ((rs.drop (i + 1)).flatMap LiftR.cells)[t]? = some u → w.cell? ⟨b, off + (i + 1) * 9 + t, none⟩ = some u) := Lib.hid (fun t u hu => by
    obtain ⟨k, jj, hk, e, hu'⟩ := flat_at lr_len _ _ _ hu
    rw [List.getElem_drop] at hu'
    rw [List.length_drop] at hk
    have h7 := hraw.cell (i + 1 + k) (by simp; omega) jj u (by rw [List.getElem_map]; exact hu')
    rw [show off + (i + 1) * 9 + t = off + (i + 1 + k) * 9 + jj by omega]; exact h7)
  obtain ⟨A, hA, hsrc'⟩ : ∃ A : Addr, (if cap = i + 1 then (some ⟨b, off, none⟩ : Option Addr) else some ⟨b, off + (i + 1) * 9, none⟩) = some A ∧ Hid (∀ t u, ((rs.drop (i + 1)).flatMap LiftR.cells)[t]? = some u → w.cell? (A.add t) = some u) := by
    by_cases h : cap = i + 1
    · refine ⟨⟨b, off, none⟩, by simp [h], Lib.hid fun t u hu => ?_⟩
      have h0 : ((rs.drop (i + 1)).flatMap LiftR.cells).length = 0 := by rw [hnl]; omega
      rw [List.length_eq_zero_iff.1 h0] at hu
      simp at hu
    · refine ⟨⟨b, off + (i + 1) * 9, none⟩, by simp [h], Lib.hid fun t u hu => ?_⟩
      have hadd : (⟨b, off + (i + 1) * 9, none⟩ : Addr).add t = ⟨b, off + (i + 1) * 9 + t, none⟩ := by unfold Addr.add; split <;> simp_all
      rw [hadd]; exact hsrc.out t u hu
  have s2 := Lib.hid (show ∀ u ∈ (rs.drop (i + 1)).flatMap LiftR.cells, u.oneCell' = true from fun u hu => by
    obtain ⟨x, _, hx⟩ := List.mem_flatMap.1 hu
    exact x.oneD u hx)
  have hrl7 := Lib.hid hrl
  clear hraw h hsrc hrl
  obtain ⟨i0, hi0, hzz⟩ := Option.map_eq_some_iff.1 info_LiftC
  simp only [Prod.mk.injEq] at hzz
  obtain ⟨-, hsz, -⟩ := hzz
  obtain ⟨n0, hn0⟩ : ∃ n0, L.length = n0 + 1 := ⟨L.length - 1, by omega⟩
  rw [hn0] at Her hnl hc1 hi' hrl7 ⊢
  simp only [Nat.add_sub_cancel] at Her ⊢
  clear hn0 hL
  have hii : ((i : Int) == (i : Int) + 1) = false := by simp; omega
  have hi1 : (i : Int) + 1 ≤ ((n0 : Int) + 1) := by omega
  have hi2 : ((n0 : Int) + 1) ≤ (cap : Int) := by omega
  have hi3 : (0 : Int) ≤ (i : Int) + 1 := by omega
  have hi4 : ((i : Int) + 1).toNat = i + 1 := by omega
  have hi5 : (i : Int) ≤ (cap : Int) := by omega
  have hi6 : i + (n0 + 1 - (i + 1)) = n0 := by omega
  have hi7 : ¬ cap = n0 := by omega
  have hi8 : (n0 : Int) ≤ (cap : Int) := by omega
  generalize hnn : (rs.drop (i + 1)).flatMap LiftR.cells = news at *
  go_enter Tryd.func29, Tryd.ntmps29
  go_wp2_with fail
  refine region_ph 6 (fun _ => True) (fun _ => True) (by kernel_rfl) trivial trivial (fun hp => ?_)
  refine take_ph 20 (i := 0) rfl rfl (by decide) (by kernel_rfl) (by kernel_rfl) (by kernel_rfl) (fun _ _ _ h => h) (by rfl) (fun w hSw => by (try dsimp only at hSw); go_simp; first | done | with_reducible rfl) hp (fun hp => ?_)
  try simp only [Act.put, List.setIfInBounds_toArray, List.set_cons_zero, List.set_cons_succ]
  refine take_ph 21 (i := 1) rfl rfl (by decide) (by kernel_rfl) (by kernel_rfl) (by kernel_rfl) (fun _ _ _ h => h) (by rfl) (fun w hSw => by (try dsimp only at hSw); go_simp; first | done | with_reducible rfl) hp (fun hp => ?_)
  try simp only [Act.put, List.setIfInBounds_toArray, List.set_cons_zero, List.set_cons_succ]
  refine take_ph 22 (i := 2) rfl rfl (by decide) (by kernel_rfl) (by kernel_rfl) (by kernel_rfl) (fun _ _ _ h => h) (by rfl) (fun w hSw => by (try dsimp only at hSw); go_simp; first | done | with_reducible rfl) hp (fun hp => ?_)
  try simp only [Act.put, List.setIfInBounds_toArray, List.set_cons_zero, List.set_cons_succ]
  refine take_ph 23 (i := 3) rfl rfl (by decide) (by kernel_rfl) (by kernel_rfl) (by kernel_rfl) (fun _ _ _ h => h) (by rfl) (fun w hSw => by (try dsimp only at hSw); go_simp; first | done | with_reducible rfl) hp (fun hp => ?_)
  try simp only [Act.put, List.setIfInBounds_toArray, List.set_cons_zero, List.set_cons_succ]
  refine take_ph 24 (i := 4) rfl rfl (by decide) (by kernel_rfl) (by kernel_rfl) (by kernel_rfl) (fun _ _ _ h => h) (by rfl) (fun w hSw => by (try dsimp only at hSw); go_simp; first | done | with_reducible rfl) hp (fun hp => ?_)
  try simp only [Act.put, List.setIfInBounds_toArray, List.set_cons_zero, List.set_cons_succ]
  refine take_ph 25 (i := 5) rfl rfl (by decide) (by kernel_rfl) (by kernel_rfl) (by kernel_rfl) (fun _ _ _ h => h) (by rfl) (fun w hSw => by (try dsimp only at hSw); go_simp; first | done | with_reducible rfl) hp (fun hp => ?_)
  try simp only [Act.put, List.setIfInBounds_toArray, List.set_cons_zero, List.set_cons_succ]
  refine AnyL.one (i := 6) (by kernel_rfl) rfl (fun K hK => ?_)
  refine step_append_room rfl (.tmp 22) (.tmp 25) 24 rfl 31 i0 9 Tryd.underlying24 hi0 hsz b off i cap (by simp [Act.eval]) A (n0 + 1 - (i + 1)) (cap - (i + 1)) news (by simp [Act.eval]) hnl (fun t u hu => hsrc'.out t u hu) s2.out (by omega) (fun t ht => ?_) ?_
  · rw [hnl] at ht
    exact ⟨by rw [Nat.add_assoc]; exact hcell.out (i * 9 + t) (by rw [hrl7.out]; omega), hfree.out _⟩
  rw [hi6]
  refine hK.out _ _ (ph2 rfl trivial) (fun hp => ?_)
  clear hK
  try simp only [Act.put, List.setIfInBounds_toArray]
  refine take_ph 0 (i := 7) rfl rfl (by decide) (by kernel_rfl) (by kernel_rfl) (by kernel_rfl) (fun _ _ _ h => h) (by rfl) (fun w hSw => by (try dsimp only at hSw); go_simp; first | done | with_reducible rfl) hp (fun hp => ?_)
  try simp only [Act.put]
  refine AnyL.done (by kernel_rfl) ?_ _
  obtain ⟨W1, hW1⟩ : ∃ W1, W1 = w.drew.setCells b (off + i * 9) news := ⟨_, rfl⟩
  rw [← hW1]
  have hcl := fun ty => run_clear_one (P := Tryd.prog) W1 24 31 ty z zsL Tryd.underlying24 hz hzc zsL_one b (off + n0 * 9) (cap - n0)
    (fun j hj => by
      rw [hW1, World.cell?_setCells_out _ _ _ _ _ (fun _ _ => .inr (by show off + i * 9 + news.length ≤ off + n0 * 9 + j; rw [hnl]; omega)), Nat.add_assoc]
      exact hcell.out (n0 * 9 + j) (by rw [hrl7.out]; simp [zsL] at hj; omega))
    (fun j _ => by rw [hW1, World.frozen?_setCells]; exact hfree.out _)
  have HW1 := Lib.hid hW1
  clear hW1
  go_wp2
  go_ret
  have hfin := Her.out w.drew (Mod.drewN (Mod.refl _ _ _) 1) rfl
  rw [← HW1.out] at hfin
  exact ⟨rfl, hfin.1, hfin.2⟩
end Go.Proofs.YtijpghlkbfmefaaDoor
