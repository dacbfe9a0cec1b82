/- The draws of the findings. -/
import Derived.Test.YtmkhapgkiecmaaaDrawW
import Derived.Test.YtmkhapgkiecmaaaDo
import Derived.Handy
namespace Go.Proofs.Ytmkhapgkiecmaaa
open Go.RowKit
theorem wf_mk {a b c d : Int} (h : I64 a ∧ I64 b ∧ I64 c ∧ I64 d) : Fnd.wf ⟨a, b, c, d⟩ := h
/-- Own memory is kept where its block is. -/
theorem own_stayF {α : Type} {n : Nat} {c : α → List Value} {lo : Nat} {e : TypeId} {w w' : World} {v : Value} {l : List α} (h : Own n c lo e w v l) (hb : ∀ g, v.ownBlock = some g → w'.heap[g]? = w.heap[g]?) : Own n c lo e w' v l := by
  obtain ⟨h1, h2⟩ := h
  refine ⟨h1, ?_⟩
  rcases h2 with h2 | ⟨g, cap, cur, rfl, hb2, hg, r⟩
  · exact .inl h2
  · exact .inr ⟨g, cap, cur, rfl, hb2, by rw [hb g rfl]; exact hg, r⟩
theorem own_valF {α : Type} {n : Nat} {c : α → List Value} {lo : Nat} {e : TypeId} {w : World} {v : Value} {l : List α} (h : Own n c lo e w v l) : ∃ a cap, v = .slice a l.length cap := by
  rcases h.2 with ⟨h0, h1⟩ | ⟨g, cap, cur, hv, _⟩
  · exact ⟨_, _, by rw [h1]; exact h0⟩
  · exact ⟨_, _, hv⟩
theorem own_raw {α : Type} {n : Nat} {c : α → List Value} {lo : Nat} {e : TypeId} {w : World} {gb go len cap : Nat} {l : List α} (h : Own n c lo e w (.slice (some ⟨gb, go, none⟩) len cap) l) (hn : ∀ x, (c x).length = n) (h0 : 0 < l.length) : lo ≤ gb ∧ (∀ j, w.frozen? ⟨gb, j, none⟩ = false) := by
  obtain ⟨_, _, _, hv, _, hr⟩ := Raw.of (h.slw hn) hn h0
  cases hv
  exact ⟨hr.lo, hr.free⟩
theorem Mod.on {lo hi : Nat} {w a a' : World} (h : Mod lo hi w a) (hb : Below w.heap.size a a') : Mod lo hi w a' :=
  ⟨hb.os.trans h.os, hb.tape.trans h.tape, hb.output.trans h.output, Nat.le_trans h.size hb.size, fun k hk ho => (hb.block k hk).trans (h.block k hk ho)⟩
def FndsOut (b A B : Nat) (w : World) (e : Ending) (w' : World) : Prop :=
  ∃ v l, e = .returned v ∧ Slw 4 Fnd.cells B w'.heap.size w' v l ∧ (∀ f ∈ l, f.wf) ∧ l.length ≤ 61 ∧ Src b (A + 100) w' ∧ Mod b (b + 1) w w'
theorem wf_push {l : List Fnd} {x : Fnd} (h : ∀ f ∈ l, f.wf) (hx : x.wf) : ∀ f ∈ l ++ [x], f.wf := by
  intro f hf
  rcases List.mem_append.1 hf with hf | hf
  · exact h f hf
  · rw [List.mem_singleton.1 hf]; exact hx
theorem wf_set {l : List Fnd} {x : Fnd} {k : Nat} (h : ∀ f ∈ l, f.wf) (hx : x.wf) : ∀ f ∈ l.set k x, f.wf := by
  intro f hf
  rcases List.mem_or_eq_of_mem_set hf with hf | hf
  · exact h f hf
  · rw [hf]; exact hx
set_option maxRecDepth 100000 in
set_option maxHeartbeats 8000000 in
theorem draw_Findings (b A : Nat) (w : World) (h : Src b A w) (hA : A ≤ 100000) : Calls Try.prog 46 #[.pointer (some ⟨b, 0, none⟩)] w (FndsOut b A w.heap.size w) := by
  have hp := Lib.hid (fun A w' h hA n hn => src_pick b A n w' h hA hn)
  have ho := Lib.hid (fun A w' h hA n hn => src_one b A n w' h hA hn)
  have hbl := h.lt
  have hS1 := Lib.hid (h.below ((Below.refl w.heap.size w).alloc (Nat.le_refl _) (.cells #[] 43 (0, 0))))
  have hM1 := Lib.hid (Mod.of_below (lo := b) (hi := b + 1) ((Below.refl w.heap.size w).alloc (Nat.le_refl _) (.cells #[] 43 (0, 0))))
  have hO1 : Hid (Own 4 Fnd.cells w.heap.size 43 (w.alloc (.cells #[] 43 (0, 0))) (.slice (some ⟨w.heap.size, 0, none⟩) 0 0) ([] : List Fnd)) := Lib.hid (own_empty w 43 w.heap.size (Nat.le_refl _))
  clear h
  go_enter Try.func46, Try.ntmps46
  go_wp2_with fail
  refine (hp.out A _ hS1.out (by omega) 8 (by omega)).mono ?_
  rintro e w2 ⟨k0, rfl, ⟨_, hk0⟩, hs2, hm2⟩
  have hk0 := hk0 (by omega)
  have hS2 := Lib.hid hs2
  have hM2 := Lib.hid (hM1.out.trans hm2)
  have hO2 := Lib.hid (hO1.out.mod hm2 (by omega))
  clear hS1 hM1 hO1 hs2 hm2
  go_wp2_with fail
  go_loopw [3, 4] (fun o i wr => ∃ (k : Nat) (acc : List Fnd), i = .int .i64 k ∧ acc.length + k ≤ 7 ∧ Hid (∀ f ∈ acc, f.wf) ∧ Hid (Own 4 Fnd.cells w.heap.size 43 wr o acc) ∧ Hid (Src b (A + 2 + 10 * acc.length) wr) ∧ Hid (Mod b (b + 1) w wr)) (fun _ i _ => (intOf i).toNat)
  case atStart => exact ⟨k0, [], rfl, by simp; omega, Lib.hid (by simp), hO2, hS2, hM2⟩
  case round =>
    clear hO2 hS2 hM2
    obtain ⟨k, acc, rfl, hlen, hwf, hO, hS, hM⟩ := hrel
    have hszr := hM.out.size
    by_cases hk : 0 < k
    · go_wp2_with fail
      refine (hp.out _ _ hS.out (by omega) 2 (by omega)).mono ?_
      rintro e w3 ⟨cr, rfl, ⟨hcr, _⟩, hs3, hm3⟩
      have hS3 := Lib.hid hs3
      have hM3 := Lib.hid (hM.out.trans hm3)
      have hO3 := Lib.hid (hO.out.mod hm3 (by omega))
      clear hs3 hm3 hS hM hO
      go_wp2_with fail
      refine (hp.out _ _ hS3.out (by omega) 80 (by omega)).mono ?_
      rintro e w4 ⟨dy, rfl, ⟨hdy, _⟩, hs4, hm4⟩
      have hS4 := Lib.hid hs4
      have hM4 := Lib.hid (hM3.out.trans hm4)
      have hO4 := Lib.hid (hO3.out.mod hm4 (by omega))
      have hlt4 := hs4.lt
      have hba := (Below.refl w4.heap.size w4).alloc (Nat.le_refl _) (.cells #[.int .i64 1, .int .i64 1, .int .i64 1, .int .i64 2, .int .i64 2, .int .i64 3] 2)
      have hal := Lib.hid (src_among b _ (.slice (some ⟨w4.heap.size, 0, none⟩) 6 6) [1, 1, 1, 2, 2, 3] _ _ _ (hS4.out.below hba) (by omega) (by simp) (sl_lit intCells_len _ w4 2 (cs := #[.int .i64 1, .int .i64 1, .int .i64 1, .int .i64 2, .int .i64 2, .int .i64 3]) rfl (m := 6) rfl (by simp)) (.inr hlt4) (by simp))
      have hM4 := Lib.hid (hM4.out.then hba)
      have hO4 := Lib.hid (hO4.out.below hba)
      clear hs4 hm4 hS3 hM3 hO3
      go_wp2_with fail
      refine hal.out.mono ?_
      rintro e w5 ⟨gr, hgr, rfl, hs5, hm5⟩
      have hgr2 : 0 ≤ gr ∧ gr ≤ 3 := by simp at hgr; omega
      have hS5 := Lib.hid hs5
      have hM5 := Lib.hid (hM4.out.trans hm5)
      have hO5 := Lib.hid (hO4.out.mod hm5 (by omega))
      have hlt5 := hs5.lt
      have hsz5 := hM5.out.size
      clear hs5 hm5 hS4 hM4 hO4 hal hba hgr
      have hb6 := (Below.refl w5.heap.size w5).alloc (Nat.le_refl _) (.cells #[.int .i64 cr, .int .i64 dy, .int .i64 gr, .int .i64 (-1)] 43 (0, 0))
      have hX6 : Hid ((w5.alloc (.cells #[.int .i64 cr, .int .i64 dy, .int .i64 gr, .int .i64 (-1)] 43 (0, 0))).heap[w5.heap.size]? = some (.cells #[.int .i64 cr, .int .i64 dy, .int .i64 gr, .int .i64 (-1)] 43 (0, 0))) := Lib.hid Array.getElem?_push_size
      have hS6 := Lib.hid (hS5.out.below hb6)
      have hM6 := Lib.hid (hM5.out.then hb6)
      have hO6 := Lib.hid (hO5.out.below hb6)
      have hz6 : (w5.alloc (.cells #[.int .i64 cr, .int .i64 dy, .int .i64 gr, .int .i64 (-1)] 43 (0, 0))).heap.size = w5.heap.size + 1 := by simp
      have hgo := Lib.hid (World.ownsRow.lt hO5.out)
      clear hb6 hS5 hM5 hO5
      go_wp2_with fail
      refine (ho.out _ _ hS6.out (by omega) 2 (by omega)).mono ?_
      rintro e w7 ⟨yes, rfl, hs7, hm7⟩
      have hS7 := Lib.hid hs7
      have hM7 := Lib.hid (hM6.out.trans hm7)
      have hO7 := Lib.hid (hO6.out.mod hm7 (by omega))
      have hX7 := (hm7.block w5.heap.size (by omega) (by omega)).trans hX6.out
      have hz7 := hm7.size
      clear hs7 hm7 hS6 hM6 hO6 hX6
      have x1 : w7.cell? ⟨w5.heap.size, 1, none⟩ = some (.int .i64 dy) := (Lib.cell_of_heap hX7 1).trans rfl
      have x3 : w7.cell? ⟨w5.heap.size, 3, none⟩ = some (.int .i64 (-1)) := (Lib.cell_of_heap hX7 3).trans rfl
      have f3 : w7.frozen? ⟨w5.heap.size, 3, none⟩ = false := Lib.frozen_of_heap hX7 3
      have hX7 := Lib.hid hX7
      cases yes with
      | true =>
        go_wp2_with fail
        go_region_held3 (fun w' => w'.cell? ⟨w5.heap.size, 1, none⟩ = some (.int .i64 dy)) (first | exact x1 | exact y1 | (rw [World.cell?_setCell_other _ _ _ _ (by simp)]; exact y1))
          (first | (go_at_call 53; refine (hp.out _ _ (hS7.out.below ?hb) (by omega) 30 (by omega)).mono ?_; (case hb => go_grown); rintro e w8 ⟨dk, rfl, ⟨hdk, _⟩, hs8, hm8⟩; have X8 := (hm8.block w5.heap.size (show w5.heap.size < w7.heap.size by omega) (by omega)).trans hX7.out; have y1 : w8.cell? ⟨w5.heap.size, 1, none⟩ = some (.int .i64 dy) := (Lib.cell_of_heap X8 1).trans rfl; have y3 : w8.cell? ⟨w5.heap.size, 3, none⟩ = some (.int .i64 (-1)) := (Lib.cell_of_heap X8 3).trans rfl; have g3 : w8.frozen? ⟨w5.heap.size, 3, none⟩ = false := Lib.frozen_of_heap X8 3; have hwr : IntKind.i64.wrap ((dy : Int) + dk) = (dy : Int) + dk := IntWalk.i64_in _ (by omega)))
        rename_i hHeld
        clear hHeld
        have hS8 := Lib.hid (hs8.lo ((Below.refl (b + 1) w8).setCell (p := ⟨w5.heap.size, 3, none⟩) (show b + 1 ≤ w5.heap.size by omega) (.int .i64 ((dy : Int) + dk))) (Nat.le_refl _))
        have hM8 := Lib.hid (((hM7.out.then (Below.refl _ _).drew).trans hm8).on ((Below.refl w.heap.size w8).setCell (p := ⟨w5.heap.size, 3, none⟩) (show w.heap.size ≤ w5.heap.size by omega) (.int .i64 ((dy : Int) + dk))))
        have hO8 := Lib.hid (own_stayF (hO7.out.drew.mod hm8 (by omega)) (fun g hg => Below.heap_setCell w8 ⟨w5.heap.size, 3, none⟩ (.int .i64 ((dy : Int) + dk)) g (show g ≠ w5.heap.size from by have := (hgo.out g hg).2; omega)))
        have hX8 : Hid ((w8.setCell ⟨w5.heap.size, 3, none⟩ (.int .i64 ((dy : Int) + dk))).heap[w5.heap.size]? = some (.cells #[.int .i64 cr, .int .i64 dy, .int .i64 gr, .int .i64 ((dy : Int) + dk)] 43 (0, 0))) := Lib.hid (by simp [World.setCell, Array.getElem?_modify, X8])
        clear X8 hs8 hm8 y1 y3 g3 x1 x3 f3 hX7 hO7 hM7 hS7
        generalize w8.setCell ⟨w5.heap.size, 3, none⟩ (.int .i64 ((dy : Int) + dk)) = w8s at *
        have y0 : (w8s).cell? ⟨w5.heap.size, 0, none⟩ = some (.int .i64 cr) := (Lib.cell_of_heap hX8.out 0).trans rfl
        have y1 : (w8s).cell? ⟨w5.heap.size, 1, none⟩ = some (.int .i64 dy) := (Lib.cell_of_heap hX8.out 1).trans rfl
        have y2 : (w8s).cell? ⟨w5.heap.size, 2, none⟩ = some (.int .i64 gr) := (Lib.cell_of_heap hX8.out 2).trans rfl
        have y3 : (w8s).cell? ⟨w5.heap.size, 3, none⟩ = some (.int .i64 ((dy : Int) + dk)) := (Lib.cell_of_heap hX8.out 3).trans rfl
        have hszW := Mod.size hM8.out
        have hbw := hS8.out.lt
        have hwf9 := Lib.hid (wf_push (x := ⟨cr, dy, gr, ((dy : Int) + dk)⟩) hwf.out (wf_mk ⟨⟨by omega, by omega⟩, ⟨by omega, by omega⟩, ⟨by omega, by omega⟩, ⟨by omega, by omega⟩⟩))
        go_wp2_with (at_builtin; refine wpList_app1 (c := Fnd.cells) (bytes := 32) rfl _ _ 25 43 rfl Try.underlying25 info_impl_Finding (by omega) Fnd.len Fnd.one w.heap.size acc ⟨cr, dy, gr, ((dy : Int) + dk)⟩ _ rfl (w8s) rfl hO8.out rfl (by omega) (by omega) (by omega) ?_; intro v9 w9 hown9 hg9; have hB9 := hO8.out.app (Below.refl w.heap.size (w8s)) (Nat.le_refl _) hszW hg9; have hO9 := Lib.hid hown9; have hS9 := Lib.hid (hS8.out.lo hB9 (by omega)); have hM9 := Lib.hid (hM8.out.on hB9); clear hown9 hg9 hB9)
        go_roundw
        case rel => exact ⟨k - 1, acc ++ [⟨cr, dy, gr, ((dy : Int) + dk)⟩], congrArg (Value.int .i64) (by omega), by simp; omega, hwf9, hO9, Lib.hid (hS9.out.mono (by simp; omega)), hM9⟩
        case measure => simp [intOf]; omega
      | false =>
        have y0 : (w7).cell? ⟨w5.heap.size, 0, none⟩ = some (.int .i64 cr) := (Lib.cell_of_heap hX7.out 0).trans rfl
        have y1 : (w7).cell? ⟨w5.heap.size, 1, none⟩ = some (.int .i64 dy) := (Lib.cell_of_heap hX7.out 1).trans rfl
        have y2 : (w7).cell? ⟨w5.heap.size, 2, none⟩ = some (.int .i64 gr) := (Lib.cell_of_heap hX7.out 2).trans rfl
        have y3 : (w7).cell? ⟨w5.heap.size, 3, none⟩ = some (.int .i64 (-1)) := (Lib.cell_of_heap hX7.out 3).trans rfl
        have hszW := Mod.size hM7.out
        have hbw := hS7.out.lt
        have hwf9 := Lib.hid (wf_push (x := ⟨cr, dy, gr, (-1)⟩) hwf.out (wf_mk ⟨⟨by omega, by omega⟩, ⟨by omega, by omega⟩, ⟨by omega, by omega⟩, ⟨by omega, by omega⟩⟩))
        go_wp2_with (at_builtin; refine wpList_app1 (c := Fnd.cells) (bytes := 32) rfl _ _ 25 43 rfl Try.underlying25 info_impl_Finding (by omega) Fnd.len Fnd.one w.heap.size acc ⟨cr, dy, gr, (-1)⟩ _ rfl (w7) rfl hO7.out rfl (by omega) (by omega) (by omega) ?_; intro v9 w9 hown9 hg9; have hB9 := hO7.out.app (Below.refl w.heap.size (w7)) (Nat.le_refl _) hszW hg9; have hO9 := Lib.hid hown9; have hS9 := Lib.hid (hS7.out.lo hB9 (by omega)); have hM9 := Lib.hid (hM7.out.on hB9); clear hown9 hg9 hB9)
        go_roundw
        case rel => exact ⟨k - 1, acc ++ [⟨cr, dy, gr, (-1)⟩], congrArg (Value.int .i64) (by omega), by simp; omega, hwf9, hO9, Lib.hid (hS9.out.mono (by simp; omega)), hM9⟩
        case measure => simp [intOf]; omega
    · have hka : acc.length ≤ 7 := by omega
      have hlt := hS.out.lt
      go_wp2_with fail
      refine (ho.out _ _ hS.out (by omega) 24 (by omega)).mono ?_
      rintro e w10 ⟨yes, rfl, hs10, hm10⟩
      have hS10 := Lib.hid (hs10.mono (A' := A + 80) (by omega))
      have hM10 := Lib.hid (hM.out.trans hm10)
      have hO10 := Lib.hid (hO.out.mod hm10 (by omega))
      have hsz10 := hM10.out.size
      have hlt10 := hs10.lt
      clear hs10 hm10 hS hM hO
      cases yes with
      | true =>
        have hbe := (Below.refl w10.heap.size w10).alloc (Nat.le_refl _) (.cells #[] 43 (0, 0))
        have hS11 := Lib.hid (hS10.out.below hbe)
        have hM11 := Lib.hid (hM10.out.then hbe)
        have hO11 : Hid (Own 4 Fnd.cells w.heap.size 43 (w10.alloc (.cells #[] 43 (0, 0))) (.slice (some ⟨w10.heap.size, 0, none⟩) 0 0) ([] : List Fnd)) := Lib.hid (own_empty w10 43 w.heap.size hsz10)
        clear hO10 hM10 hS10 hbe hwf
        go_wp2_with fail
        refine (hp.out _ _ hS11.out (by omega) 2 (by omega)).mono ?_
        rintro e w12 ⟨k6, rfl, ⟨_, hk6⟩, hs12, hm12⟩
        have hk6 := hk6 (by omega)
        have hS12 := Lib.hid hs12
        have hM12 := Lib.hid (hM11.out.trans hm12)
        have hO12 := Lib.hid (hO11.out.mod hm12 (by omega))
        clear hs12 hm12 hS11 hM11 hO11
        go_wp2_with fail
        go_loopw [3, 6] (fun o i wr => ∃ (k : Nat) (acc : List Fnd), i = .int .i64 k ∧ acc.length + k ≤ 61 ∧ Hid (∀ f ∈ acc, f.wf) ∧ Hid (Own 4 Fnd.cells w.heap.size 43 wr o acc) ∧ Hid (Src b (A + 90) wr) ∧ Hid (Mod b (b + 1) w wr)) (fun _ i _ => (intOf i).toNat)
        case atStart => exact ⟨60 + k6, [], congrArg (Value.int .i64) (by omega), by simp; omega, Lib.hid (by simp), hO12, Lib.hid (hS12.out.mono (by omega)), hM12⟩
        case round =>
          clear hO12 hS12 hM12
          obtain ⟨k, acc, rfl, hlen, hwf, hO, hS, hM⟩ := hrel
          have hszr := hM.out.size
          have hltr := hS.out.lt
          by_cases hk : 0 < k
          · have hwf9 := Lib.hid (wf_push (x := ⟨0, 0, 1, -1⟩) hwf.out (wf_mk ⟨⟨by omega, by omega⟩, ⟨by omega, by omega⟩, ⟨by omega, by omega⟩, ⟨by omega, by omega⟩⟩))
            go_wp2_with (at_builtin; refine wpList_app1 (c := Fnd.cells) (bytes := 32) rfl _ _ 25 43 rfl Try.underlying25 info_impl_Finding (by omega) Fnd.len Fnd.one w.heap.size acc ⟨0, 0, 1, -1⟩ _ rfl wr rfl hO.out rfl (by omega) (by omega) (by omega) ?_; intro v9 w9 hown9 hg9; have hB9 := hO.out.app (Below.refl w.heap.size wr) (Nat.le_refl _) hszr hg9; have hO9 := Lib.hid hown9; have hS9 := Lib.hid (hS.out.lo hB9 (by omega)); have hM9 := Lib.hid (hM.out.on hB9); clear hown9 hg9 hB9)
            go_roundw
            case rel => exact ⟨k - 1, acc ++ [⟨0, 0, 1, -1⟩], congrArg (Value.int .i64) (by omega), by simp; omega, hwf9, hO9, hS9, hM9⟩
            case measure => simp [intOf]; omega
          · have hka : acc.length ≤ 61 := by omega
            obtain ⟨ga, gc, rfl⟩ := own_valF hO.out
            by_cases h0 : 0 < acc.length
            · obtain ⟨gb, go, rfl⟩ := Sl.addr (hO.out.slw Fnd.len).1 h0
              have hgb := (own_raw hO.out Fnd.len h0).1
              obtain ⟨na, hna⟩ : ∃ na, acc.length = na := ⟨_, rfl⟩
              rw [hna] at hka hO ⊢
              have Hna := Lib.hid hna
              have h0n : 0 < na := by omega
              have h0h := Lib.hid h0
              have hd0 : decide ((na : Int) = 0) = false := decide_eq_false (by omega)
              have hd1 : ((na : Int) == 0) = false := by simp; omega
              clear hna h0
              go_wp2_with fail
              refine (hp.out _ _ hS.out (by omega) na (by omega)).mono ?_
              rintro e w21 ⟨j, rfl, ⟨_, hj⟩, hs21, hm21⟩
              have hj : j < na := by have := hj (by omega); omega
              have hS21 := Lib.hid hs21
              have hM21 := Lib.hid (hM.out.trans hm21)
              have hO21 := Lib.hid (hO.out.mod hm21 (by omega))
              clear hs21 hm21 hS hO hM
              go_wp2_with fail
              refine (hp.out _ _ hS21.out (by omega) 20 (by omega)).mono ?_
              rintro e w22 ⟨q, rfl, ⟨_, hq⟩, hs22, hm22⟩
              have hlt22 := hs22.lt
              have hS22 := Lib.hid hs22
              have hM22 := Lib.hid (hM21.out.trans hm22)
              have hO22 := Lib.hid (hO21.out.mod hm22 (by omega))
              have hjh := Lib.hid (show j < acc.length by rw [Hna.out]; exact hj)
              have hwxx := hwf.out _ (List.getElem_mem hjh.out)
              clear hs22 hm22 hS21 hO21 hM21
              rcases (show q = 0 ∨ q = 1 ∨ q = 2 ∨ q = 3 ∨ 4 ≤ q by omega) with rfl | rfl | rfl | rfl | hq4
              · have hwx := Lib.hid (fun nv (h : I64 nv) => wf_mk (a := nv) ⟨h, hwxx.2.1, hwxx.2.2.1, hwxx.2.2.2⟩)
                clear hwxx
                have hba := (Below.refl w22.heap.size w22).alloc (Nat.le_refl _) (.cells #[.int .i64 (-1), .int .i64 5, .int .i64 6] 2)
                have hal := Lib.hid (src_among b _ (.slice (some ⟨w22.heap.size, 0, none⟩) 3 3) [-1, 5, 6] _ _ _ (hS22.out.below hba) (by omega) (by simp) (sl_lit intCells_len _ w22 2 (cs := #[.int .i64 (-1), .int .i64 5, .int .i64 6]) rfl (m := 3) rfl (by simp)) (.inr hlt22) (by simp))
                have hM22b := Lib.hid (hM22.out.then hba)
                have hO22b := Lib.hid (hO22.out.below hba)
                clear hba hM22 hO22 hS22
                go_wp2_with fail
                refine hal.out.mono ?_
                rintro e w23 ⟨nv, hnv, rfl, hs23, hm23⟩
                have hnv2 : I64 nv := by
                  simp at hnv
                  unfold I64
                  omega
                have hS23 := Lib.hid hs23
                have hM23 := Lib.hid (hM22b.out.trans hm23)
                have hO23 := Lib.hid (hO22b.out.mod hm23 (by omega))
                have hfz := (own_raw hO23.out Fnd.len h0h.out).2
                obtain ⟨c0, c1, c2, c3⟩ := Fnds.at (hO23.out.slw Fnd.len).1.get hjh.out
                clear hs23 hm23 hnv hal hM22b hO22b
                go_wp2
                go_ret
                exact ⟨_, _, rfl, ((hO23.out.slw Fnd.len).store1 (k := j) (j := 0) (x := { acc[j]'hjh.out with crane := nv }) (u := .int .i64 nv) Fnd.len hjh.out (by omega) (by simp [Fnd.cells]) (by simp)).fresh (by simp), wf_set hwf.out (hwx.out _ hnv2), by rw [List.length_set, Hna.out]; omega, (hS23.out.mono (by omega)).lo ((Below.refl (b + 1) w23).setCell (show b + 1 ≤ gb by omega) (.int .i64 nv)) (Nat.le_refl _), hM23.out.on ((Below.refl w.heap.size w23).setCell (show w.heap.size ≤ gb by omega) (.int .i64 nv))⟩
              · have hwx := Lib.hid (fun nv (h : I64 nv) => wf_mk (b := nv) ⟨hwxx.1, h, hwxx.2.2.1, hwxx.2.2.2⟩)
                clear hwxx
                have hba := (Below.refl w22.heap.size w22).alloc (Nat.le_refl _) (.cells #[.int .i64 (-1), .int .i64 0, .int .i64 100000, .int .i64 100001] 2)
                have hal := Lib.hid (src_among b _ (.slice (some ⟨w22.heap.size, 0, none⟩) 4 4) [-1, 0, 100000, 100001] _ _ _ (hS22.out.below hba) (by omega) (by simp) (sl_lit intCells_len _ w22 2 (cs := #[.int .i64 (-1), .int .i64 0, .int .i64 100000, .int .i64 100001]) rfl (m := 4) rfl (by simp)) (.inr hlt22) (by simp))
                have hM22b := Lib.hid (hM22.out.then hba)
                have hO22b := Lib.hid (hO22.out.below hba)
                clear hba hM22 hO22 hS22
                go_wp2_with fail
                refine hal.out.mono ?_
                rintro e w23 ⟨nv, hnv, rfl, hs23, hm23⟩
                have hnv2 : I64 nv := by
                  simp at hnv
                  unfold I64
                  omega
                have hS23 := Lib.hid hs23
                have hM23 := Lib.hid (hM22b.out.trans hm23)
                have hO23 := Lib.hid (hO22b.out.mod hm23 (by omega))
                have hfz := (own_raw hO23.out Fnd.len h0h.out).2
                obtain ⟨c0, c1, c2, c3⟩ := Fnds.at (hO23.out.slw Fnd.len).1.get hjh.out
                clear hs23 hm23 hnv hal hM22b hO22b
                go_wp2
                go_ret
                exact ⟨_, _, rfl, ((hO23.out.slw Fnd.len).store1 (k := j) (j := 1) (x := { acc[j]'hjh.out with day := nv }) (u := .int .i64 nv) Fnd.len hjh.out (by omega) (by simp [Fnd.cells]) (by simp)).fresh (by simp), wf_set hwf.out (hwx.out _ hnv2), by rw [List.length_set, Hna.out]; omega, (hS23.out.mono (by omega)).lo ((Below.refl (b + 1) w23).setCell (show b + 1 ≤ gb by omega) (.int .i64 nv)) (Nat.le_refl _), hM23.out.on ((Below.refl w.heap.size w23).setCell (show w.heap.size ≤ gb by omega) (.int .i64 nv))⟩
              · have hwx := Lib.hid (fun nv (h : I64 nv) => wf_mk (c := nv) ⟨hwxx.1, hwxx.2.1, h, hwxx.2.2.2⟩)
                clear hwxx
                have hba := (Below.refl w22.heap.size w22).alloc (Nat.le_refl _) (.cells #[.int .i64 0, .int .i64 1, .int .i64 3, .int .i64 4] 2)
                have hal := Lib.hid (src_among b _ (.slice (some ⟨w22.heap.size, 0, none⟩) 4 4) [0, 1, 3, 4] _ _ _ (hS22.out.below hba) (by omega) (by simp) (sl_lit intCells_len _ w22 2 (cs := #[.int .i64 0, .int .i64 1, .int .i64 3, .int .i64 4]) rfl (m := 4) rfl (by simp)) (.inr hlt22) (by simp))
                have hM22b := Lib.hid (hM22.out.then hba)
                have hO22b := Lib.hid (hO22.out.below hba)
                clear hba hM22 hO22 hS22
                go_wp2_with fail
                refine hal.out.mono ?_
                rintro e w23 ⟨nv, hnv, rfl, hs23, hm23⟩
                have hnv2 : I64 nv := by
                  simp at hnv
                  unfold I64
                  omega
                have hS23 := Lib.hid hs23
                have hM23 := Lib.hid (hM22b.out.trans hm23)
                have hO23 := Lib.hid (hO22b.out.mod hm23 (by omega))
                have hfz := (own_raw hO23.out Fnd.len h0h.out).2
                obtain ⟨c0, c1, c2, c3⟩ := Fnds.at (hO23.out.slw Fnd.len).1.get hjh.out
                clear hs23 hm23 hnv hal hM22b hO22b
                go_wp2
                go_ret
                exact ⟨_, _, rfl, ((hO23.out.slw Fnd.len).store1 (k := j) (j := 2) (x := { acc[j]'hjh.out with grade := nv }) (u := .int .i64 nv) Fnd.len hjh.out (by omega) (by simp [Fnd.cells]) (by simp)).fresh (by simp), wf_set hwf.out (hwx.out _ hnv2), by rw [List.length_set, Hna.out]; omega, (hS23.out.mono (by omega)).lo ((Below.refl (b + 1) w23).setCell (show b + 1 ≤ gb by omega) (.int .i64 nv)) (Nat.le_refl _), hM23.out.on ((Below.refl w.heap.size w23).setCell (show w.heap.size ≤ gb by omega) (.int .i64 nv))⟩
              · obtain ⟨c0, c1, c2, c3⟩ := Fnds.at (hO22.out.slw Fnd.len).1.get hjh.out
                have hwx := Lib.hid (fun nv (h : I64 nv) => wf_mk (d := nv) ⟨hwxx.1, hwxx.2.1, hwxx.2.2.1, h⟩)
                have hdd := Lib.hid hwxx.2.1
                obtain ⟨dm, hdm⟩ : ∃ dm, IntKind.i64.wrap ((acc[j]'hjh.out).day - 1) = dm := ⟨_, rfl⟩
                have hdm2 : Hid (I64 dm) := Lib.hid (by rw [← hdm, IntKind.wrap_i64]; unfold I64; omega)
                have hgl : gb < w22.heap.size := World.block_lt_of_cell? w22 _ c1
                have hzz : w22.heap.size ≤ w22.heap.size := Nat.le_refl _
                clear hwxx c0 c2 c3
                go_wp2_with fail
                go_region_held3 (fun w' => w'.cell? ⟨gb, go + j * 4 + 1, none⟩ = some (.int .i64 (acc[j]'hjh.out).day)) (first | exact c1 | exact e1 | (rw [World.cell?_setCell_other _ _ _ _ (by simp)]; exact e1) | exact ((show Below w22.heap.size w22 _ by go_grown).cell (p := ⟨gb, _, none⟩) hgl).trans c1)
                  (first | (go_at_call 87; refine (src_among b _ _ [-2, -1, dm, (acc[j]'hjh.out).day, 100000, 100001] w22.heap.size (w22.heap.size + 1) _ (hS22.out.below ?hb) (by omega) (by simp) ?hs (.inr hlt22) ?hh).mono ?_; (case hb => go_grown); (case hs => exact sl_lit intCells_len _ w22.drew 2 rfl rfl (by simp)); (case hh => go_size); rintro e w23 ⟨nv, hnv, rfl, hs23, hm23⟩; have hm : Mod b (b + 1) w22 w23 := (Mod.of_below (by go_grown)).trans hm23; have hO23 := Lib.hid (hO22.out.mod hm (by omega)); have hfz := (own_raw hO23.out Fnd.len h0h.out).2; obtain ⟨_, e1, _, e3⟩ := Fnds.at (hO23.out.slw Fnd.len).1.get hjh.out))
                rename_i hHeld
                clear hHeld
                have hnv2 : I64 nv := by
                  simp at hnv
                  rcases hnv with h | h | h | h | h | h <;> rw [h] <;> first | exact hdm2.out | exact hdd.out | (unfold I64; omega)
                have hS23 := Lib.hid hs23
                have hM23 := Lib.hid (hM22.out.trans hm)
                clear hs23 hm23 hm hnv hdm hO22 hM22 hS22
                go_wp2
                go_ret
                exact ⟨_, _, rfl, ((hO23.out.slw Fnd.len).store1 (k := j) (j := 3) (x := { acc[j]'hjh.out with closed := nv }) (u := .int .i64 nv) Fnd.len hjh.out (by omega) (by simp [Fnd.cells]) (by simp)).fresh (by simp), wf_set hwf.out (hwx.out _ hnv2), by rw [List.length_set, Hna.out]; omega, (hS23.out.mono (by omega)).lo ((Below.refl (b + 1) w23).setCell (show b + 1 ≤ gb by omega) (.int .i64 nv)) (Nat.le_refl _), hM23.out.on ((Below.refl w.heap.size w23).setCell (show w.heap.size ≤ gb by omega) (.int .i64 nv))⟩
              · have hd2 : decide ((q : Int) = 0) = false := decide_eq_false (by omega)
                have hd3 : decide ((q : Int) = 1) = false := decide_eq_false (by omega)
                have hd4 : decide ((q : Int) = 2) = false := decide_eq_false (by omega)
                have hd5 : decide ((q : Int) = 3) = false := decide_eq_false (by omega)
                have hd6 : ((q : Int) == 0) = false := by simp; omega
                have hd7 : ((q : Int) == 1) = false := by simp; omega
                have hd8 : ((q : Int) == 2) = false := by simp; omega
                have hd9 : ((q : Int) == 3) = false := by simp; omega
                clear hq hq4
                go_wp2
                go_ret
                exact ⟨_, _, rfl, hO22.out.slw Fnd.len, hwf.out, by rw [Hna.out]; omega, hS22.out.mono (by omega), hM22.out⟩
            · have he : acc = [] := List.eq_nil_of_length_eq_zero (by omega)
              subst he
              go_wp2
              go_ret
              exact ⟨_, _, rfl, hO.out.slw Fnd.len, hwf.out, by simp, hS.out.mono (by omega), hM.out⟩
      | false =>
            obtain ⟨ga, gc, rfl⟩ := own_valF hO10.out
            by_cases h0 : 0 < acc.length
            · obtain ⟨gb, go, rfl⟩ := Sl.addr (hO10.out.slw Fnd.len).1 h0
              have hgb := (own_raw hO10.out Fnd.len h0).1
              obtain ⟨na, hna⟩ : ∃ na, acc.length = na := ⟨_, rfl⟩
              rw [hna] at hka hO10 ⊢
              have Hna := Lib.hid hna
              have h0n : 0 < na := by omega
              have h0h := Lib.hid h0
              have hd0 : decide ((na : Int) = 0) = false := decide_eq_false (by omega)
              have hd1 : ((na : Int) == 0) = false := by simp; omega
              clear hna h0
              go_wp2_with fail
              refine (hp.out _ _ hS10.out (by omega) na (by omega)).mono ?_
              rintro e w21 ⟨j, rfl, ⟨_, hj⟩, hs21, hm21⟩
              have hj : j < na := by have := hj (by omega); omega
              have hS21 := Lib.hid hs21
              have hM21 := Lib.hid (hM10.out.trans hm21)
              have hO21 := Lib.hid (hO10.out.mod hm21 (by omega))
              clear hs21 hm21 hS10 hO10 hM10
              go_wp2_with fail
              refine (hp.out _ _ hS21.out (by omega) 20 (by omega)).mono ?_
              rintro e w22 ⟨q, rfl, ⟨_, hq⟩, hs22, hm22⟩
              have hlt22 := hs22.lt
              have hS22 := Lib.hid hs22
              have hM22 := Lib.hid (hM21.out.trans hm22)
              have hO22 := Lib.hid (hO21.out.mod hm22 (by omega))
              have hjh := Lib.hid (show j < acc.length by rw [Hna.out]; exact hj)
              have hwxx := hwf.out _ (List.getElem_mem hjh.out)
              clear hs22 hm22 hS21 hO21 hM21
              rcases (show q = 0 ∨ q = 1 ∨ q = 2 ∨ q = 3 ∨ 4 ≤ q by omega) with rfl | rfl | rfl | rfl | hq4
              · have hwx := Lib.hid (fun nv (h : I64 nv) => wf_mk (a := nv) ⟨h, hwxx.2.1, hwxx.2.2.1, hwxx.2.2.2⟩)
                clear hwxx
                have hba := (Below.refl w22.heap.size w22).alloc (Nat.le_refl _) (.cells #[.int .i64 (-1), .int .i64 5, .int .i64 6] 2)
                have hal := Lib.hid (src_among b _ (.slice (some ⟨w22.heap.size, 0, none⟩) 3 3) [-1, 5, 6] _ _ _ (hS22.out.below hba) (by omega) (by simp) (sl_lit intCells_len _ w22 2 (cs := #[.int .i64 (-1), .int .i64 5, .int .i64 6]) rfl (m := 3) rfl (by simp)) (.inr hlt22) (by simp))
                have hM22b := Lib.hid (hM22.out.then hba)
                have hO22b := Lib.hid (hO22.out.below hba)
                clear hba hM22 hO22 hS22
                go_wp2_with fail
                refine hal.out.mono ?_
                rintro e w23 ⟨nv, hnv, rfl, hs23, hm23⟩
                have hnv2 : I64 nv := by
                  simp at hnv
                  unfold I64
                  omega
                have hS23 := Lib.hid hs23
                have hM23 := Lib.hid (hM22b.out.trans hm23)
                have hO23 := Lib.hid (hO22b.out.mod hm23 (by omega))
                have hfz := (own_raw hO23.out Fnd.len h0h.out).2
                obtain ⟨c0, c1, c2, c3⟩ := Fnds.at (hO23.out.slw Fnd.len).1.get hjh.out
                clear hs23 hm23 hnv hal hM22b hO22b
                go_wp2
                go_ret
                exact ⟨_, _, rfl, ((hO23.out.slw Fnd.len).store1 (k := j) (j := 0) (x := { acc[j]'hjh.out with crane := nv }) (u := .int .i64 nv) Fnd.len hjh.out (by omega) (by simp [Fnd.cells]) (by simp)).fresh (by simp), wf_set hwf.out (hwx.out _ hnv2), by rw [List.length_set, Hna.out]; omega, (hS23.out.mono (by omega)).lo ((Below.refl (b + 1) w23).setCell (show b + 1 ≤ gb by omega) (.int .i64 nv)) (Nat.le_refl _), hM23.out.on ((Below.refl w.heap.size w23).setCell (show w.heap.size ≤ gb by omega) (.int .i64 nv))⟩
              · have hwx := Lib.hid (fun nv (h : I64 nv) => wf_mk (b := nv) ⟨hwxx.1, h, hwxx.2.2.1, hwxx.2.2.2⟩)
                clear hwxx
                have hba := (Below.refl w22.heap.size w22).alloc (Nat.le_refl _) (.cells #[.int .i64 (-1), .int .i64 0, .int .i64 100000, .int .i64 100001] 2)
                have hal := Lib.hid (src_among b _ (.slice (some ⟨w22.heap.size, 0, none⟩) 4 4) [-1, 0, 100000, 100001] _ _ _ (hS22.out.below hba) (by omega) (by simp) (sl_lit intCells_len _ w22 2 (cs := #[.int .i64 (-1), .int .i64 0, .int .i64 100000, .int .i64 100001]) rfl (m := 4) rfl (by simp)) (.inr hlt22) (by simp))
                have hM22b := Lib.hid (hM22.out.then hba)
                have hO22b := Lib.hid (hO22.out.below hba)
                clear hba hM22 hO22 hS22
                go_wp2_with fail
                refine hal.out.mono ?_
                rintro e w23 ⟨nv, hnv, rfl, hs23, hm23⟩
                have hnv2 : I64 nv := by
                  simp at hnv
                  unfold I64
                  omega
                have hS23 := Lib.hid hs23
                have hM23 := Lib.hid (hM22b.out.trans hm23)
                have hO23 := Lib.hid (hO22b.out.mod hm23 (by omega))
                have hfz := (own_raw hO23.out Fnd.len h0h.out).2
                obtain ⟨c0, c1, c2, c3⟩ := Fnds.at (hO23.out.slw Fnd.len).1.get hjh.out
                clear hs23 hm23 hnv hal hM22b hO22b
                go_wp2
                go_ret
                exact ⟨_, _, rfl, ((hO23.out.slw Fnd.len).store1 (k := j) (j := 1) (x := { acc[j]'hjh.out with day := nv }) (u := .int .i64 nv) Fnd.len hjh.out (by omega) (by simp [Fnd.cells]) (by simp)).fresh (by simp), wf_set hwf.out (hwx.out _ hnv2), by rw [List.length_set, Hna.out]; omega, (hS23.out.mono (by omega)).lo ((Below.refl (b + 1) w23).setCell (show b + 1 ≤ gb by omega) (.int .i64 nv)) (Nat.le_refl _), hM23.out.on ((Below.refl w.heap.size w23).setCell (show w.heap.size ≤ gb by omega) (.int .i64 nv))⟩
              · have hwx := Lib.hid (fun nv (h : I64 nv) => wf_mk (c := nv) ⟨hwxx.1, hwxx.2.1, h, hwxx.2.2.2⟩)
                clear hwxx
                have hba := (Below.refl w22.heap.size w22).alloc (Nat.le_refl _) (.cells #[.int .i64 0, .int .i64 1, .int .i64 3, .int .i64 4] 2)
                have hal := Lib.hid (src_among b _ (.slice (some ⟨w22.heap.size, 0, none⟩) 4 4) [0, 1, 3, 4] _ _ _ (hS22.out.below hba) (by omega) (by simp) (sl_lit intCells_len _ w22 2 (cs := #[.int .i64 0, .int .i64 1, .int .i64 3, .int .i64 4]) rfl (m := 4) rfl (by simp)) (.inr hlt22) (by simp))
                have hM22b := Lib.hid (hM22.out.then hba)
                have hO22b := Lib.hid (hO22.out.below hba)
                clear hba hM22 hO22 hS22
                go_wp2_with fail
                refine hal.out.mono ?_
                rintro e w23 ⟨nv, hnv, rfl, hs23, hm23⟩
                have hnv2 : I64 nv := by
                  simp at hnv
                  unfold I64
                  omega
                have hS23 := Lib.hid hs23
                have hM23 := Lib.hid (hM22b.out.trans hm23)
                have hO23 := Lib.hid (hO22b.out.mod hm23 (by omega))
                have hfz := (own_raw hO23.out Fnd.len h0h.out).2
                obtain ⟨c0, c1, c2, c3⟩ := Fnds.at (hO23.out.slw Fnd.len).1.get hjh.out
                clear hs23 hm23 hnv hal hM22b hO22b
                go_wp2
                go_ret
                exact ⟨_, _, rfl, ((hO23.out.slw Fnd.len).store1 (k := j) (j := 2) (x := { acc[j]'hjh.out with grade := nv }) (u := .int .i64 nv) Fnd.len hjh.out (by omega) (by simp [Fnd.cells]) (by simp)).fresh (by simp), wf_set hwf.out (hwx.out _ hnv2), by rw [List.length_set, Hna.out]; omega, (hS23.out.mono (by omega)).lo ((Below.refl (b + 1) w23).setCell (show b + 1 ≤ gb by omega) (.int .i64 nv)) (Nat.le_refl _), hM23.out.on ((Below.refl w.heap.size w23).setCell (show w.heap.size ≤ gb by omega) (.int .i64 nv))⟩
              · obtain ⟨c0, c1, c2, c3⟩ := Fnds.at (hO22.out.slw Fnd.len).1.get hjh.out
                have hwx := Lib.hid (fun nv (h : I64 nv) => wf_mk (d := nv) ⟨hwxx.1, hwxx.2.1, hwxx.2.2.1, h⟩)
                have hdd := Lib.hid hwxx.2.1
                obtain ⟨dm, hdm⟩ : ∃ dm, IntKind.i64.wrap ((acc[j]'hjh.out).day - 1) = dm := ⟨_, rfl⟩
                have hdm2 : Hid (I64 dm) := Lib.hid (by rw [← hdm, IntKind.wrap_i64]; unfold I64; omega)
                have hgl : gb < w22.heap.size := World.block_lt_of_cell? w22 _ c1
                have hzz : w22.heap.size ≤ w22.heap.size := Nat.le_refl _
                clear hwxx c0 c2 c3
                go_wp2_with fail
                go_region_held3 (fun w' => w'.cell? ⟨gb, go + j * 4 + 1, none⟩ = some (.int .i64 (acc[j]'hjh.out).day)) (first | exact c1 | exact e1 | (rw [World.cell?_setCell_other _ _ _ _ (by simp)]; exact e1) | exact ((show Below w22.heap.size w22 _ by go_grown).cell (p := ⟨gb, _, none⟩) hgl).trans c1)
                  (first | (go_at_call 87; refine (src_among b _ _ [-2, -1, dm, (acc[j]'hjh.out).day, 100000, 100001] w22.heap.size (w22.heap.size + 1) _ (hS22.out.below ?hb) (by omega) (by simp) ?hs (.inr hlt22) ?hh).mono ?_; (case hb => go_grown); (case hs => exact sl_lit intCells_len _ w22.drew 2 rfl rfl (by simp)); (case hh => go_size); rintro e w23 ⟨nv, hnv, rfl, hs23, hm23⟩; have hm : Mod b (b + 1) w22 w23 := (Mod.of_below (by go_grown)).trans hm23; have hO23 := Lib.hid (hO22.out.mod hm (by omega)); have hfz := (own_raw hO23.out Fnd.len h0h.out).2; obtain ⟨_, e1, _, e3⟩ := Fnds.at (hO23.out.slw Fnd.len).1.get hjh.out))
                rename_i hHeld
                clear hHeld
                have hnv2 : I64 nv := by
                  simp at hnv
                  rcases hnv with h | h | h | h | h | h <;> rw [h] <;> first | exact hdm2.out | exact hdd.out | (unfold I64; omega)
                have hS23 := Lib.hid hs23
                have hM23 := Lib.hid (hM22.out.trans hm)
                clear hs23 hm23 hm hnv hdm hO22 hM22 hS22
                go_wp2
                go_ret
                exact ⟨_, _, rfl, ((hO23.out.slw Fnd.len).store1 (k := j) (j := 3) (x := { acc[j]'hjh.out with closed := nv }) (u := .int .i64 nv) Fnd.len hjh.out (by omega) (by simp [Fnd.cells]) (by simp)).fresh (by simp), wf_set hwf.out (hwx.out _ hnv2), by rw [List.length_set, Hna.out]; omega, (hS23.out.mono (by omega)).lo ((Below.refl (b + 1) w23).setCell (show b + 1 ≤ gb by omega) (.int .i64 nv)) (Nat.le_refl _), hM23.out.on ((Below.refl w.heap.size w23).setCell (show w.heap.size ≤ gb by omega) (.int .i64 nv))⟩
              · have hd2 : decide ((q : Int) = 0) = false := decide_eq_false (by omega)
                have hd3 : decide ((q : Int) = 1) = false := decide_eq_false (by omega)
                have hd4 : decide ((q : Int) = 2) = false := decide_eq_false (by omega)
                have hd5 : decide ((q : Int) = 3) = false := decide_eq_false (by omega)
                have hd6 : ((q : Int) == 0) = false := by simp; omega
                have hd7 : ((q : Int) == 1) = false := by simp; omega
                have hd8 : ((q : Int) == 2) = false := by simp; omega
                have hd9 : ((q : Int) == 3) = false := by simp; omega
                clear hq hq4
                go_wp2
                go_ret
                exact ⟨_, _, rfl, hO22.out.slw Fnd.len, hwf.out, by rw [Hna.out]; omega, hS22.out.mono (by omega), hM22.out⟩
            · have he : acc = [] := List.eq_nil_of_length_eq_zero (by omega)
              subst he
              go_wp2
              go_ret
              exact ⟨_, _, rfl, hO10.out.slw Fnd.len, hwf.out, by simp, hS10.out.mono (by omega), hM10.out⟩
end Go.Proofs.Ytmkhapgkiecmaaa
