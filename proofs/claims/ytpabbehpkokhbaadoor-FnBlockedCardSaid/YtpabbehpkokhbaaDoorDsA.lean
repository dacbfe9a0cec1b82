/- The draws of a site: points, charts, cranes that are valid. -/
import Derived.Test.YtpabbehpkokhbaaDoorTChartStep
import Derived.Test.YtpabbehpkokhbaaDoorDsP
namespace Go.Proofs.YtpabbehpkokhbaaDoor
open Go.RowKit
/-- A chart that is drawn is valid. -/
def stepsOk (l : List Chs) : Prop := ∀ i (h : i < l.length), (1 ≤ l[i].radius ∧ l[i].radius ≤ 1000) ∧ (0 ≤ l[i].load ∧ l[i].load ≤ 50000) ∧ ∀ _ : 0 < i, l[i - 1].radius < l[i].radius ∧ l[i].load ≤ l[i - 1].load
structure ChInv (jib R L : Int) (l : List Chs) : Prop where
  ok : stepsOk l
  last : ∀ h : 0 < l.length, l[l.length - 1].radius = R ∧ L ≤ l[l.length - 1].load
  jib : ∀ i (h : i < l.length), l[i].radius ≤ jib
  start : l.length = 0 → R = 20
theorem ChInv.push {jib R L R2 L2 : Int} {l : List Chs} (h : ChInv jib R L l) (h1 : R < R2) (h0 : 0 ≤ R) (h2 : R2 ≤ jib) (hj : jib ≤ 1000) (hL : 0 ≤ L ∧ L ≤ 50000) (hL2 : L2 ≤ L) : ChInv jib R2 L2 (l ++ [⟨R2, L⟩]) := by
  have hlen : (l ++ [(⟨R2, L⟩ : Chs)]).length = l.length + 1 := by simp
  refine ⟨fun i hi => ?_, fun h0 => ?_, fun i hi => ?_, fun h0 => ?_⟩
  · by_cases hl : i < l.length
    · obtain ⟨k1, k2, k3⟩ := h.ok i hl
      rw [List.getElem_append_left hl]
      refine ⟨k1, k2, fun hi0 => ?_⟩
      rw [List.getElem_append_left (by omega)]
      exact k3 hi0
    · have e : i = l.length := by omega
      subst e
      rw [List.getElem_append_right (Nat.le_refl _)]
      simp only [Nat.sub_self, List.getElem_singleton]
      refine ⟨⟨by omega, by omega⟩, hL, fun hi0 => ?_⟩
      rw [List.getElem_append_left (by omega)]
      have := h.last hi0
      omega
  · simp only [hlen, Nat.add_sub_cancel]
    rw [List.getElem_append_right (Nat.le_refl _)]
    simp only [Nat.sub_self, List.getElem_singleton]
    exact ⟨trivial, hL2⟩
  · by_cases hl : i < l.length
    · rw [List.getElem_append_left hl]; exact h.jib i hl
    · rw [List.getElem_append_right (by omega)]
      simpa using h2
  · rw [hlen] at h0; omega
def ChtOutV (b A : Nat) (jib : Int) (w : World) (e : Ending) (w' : World) : Prop := ∃ v l, e = .returned v ∧ Slw 2 Chs.cells w.heap.size w'.heap.size w' v l ∧ stepsOk l ∧ (1 ≤ l.length ∧ l.length ≤ 5) ∧ (∀ i (h : i < l.length), l[i].radius ≤ jib) ∧ Src b A w' ∧ Mod b (b + 1) w w'
theorem info_stepV : (Tryd.prog.info? 95).map (fun i => (i.zero.map (·.cells.size), i.size, i.bytes)) = some (some 2, 2, 16) := by kernel_rfl
theorem Chs.oneV (x : Chs) : ∀ u ∈ x.cells, u.oneCell' = true := by intro u hu; simp [Chs.cells] at hu; rcases hu with rfl | rfl <;> rfl
theorem own_valV {α : Type} {n : Nat} {c : α → List Value} {lo : Nat} {e : TypeId} {w : World} {v : Value} {l : List α} (h : Own n c lo e w v l) : ∃ a cap, v = .slice a l.length cap := by
  rcases h.2 with ⟨h0, h1⟩ | ⟨g, cap, cur, hv, _⟩
  · exact ⟨_, _, by rw [h1]; exact h0⟩
  · exact ⟨_, _, hv⟩
theorem draw_minV (a b : Int) (w : World) : Calls Tryd.prog 93 #[.int .i64 a, .int .i64 b] w fun e w' => (∃ m, e = .returned (.int .i64 m) ∧ (m = a ∨ m = b) ∧ m ≤ a) ∧ w = w' := by
  by_cases h : a < b
  · go_enter Tryd.func93, Tryd.ntmps93
    go_wp2
    go_ret
    exact ⟨⟨_, rfl, .inl rfl, Int.le_refl _⟩, rfl⟩
  · go_enter Tryd.func93, Tryd.ntmps93
    go_wp2
    go_ret
    exact ⟨⟨_, rfl, .inr rfl, by omega⟩, rfl⟩
theorem draw_maxV (a b : Int) (w : World) : Calls Tryd.prog 94 #[.int .i64 a, .int .i64 b] w fun e w' => (∃ m, e = .returned (.int .i64 m) ∧ (m = a ∨ m = b) ∧ a ≤ m) ∧ w = w' := by
  by_cases h : b < a
  · go_enter Tryd.func94, Tryd.ntmps94
    go_wp2
    go_ret
    exact ⟨⟨_, rfl, .inl rfl, Int.le_refl _⟩, rfl⟩
  · go_enter Tryd.func94, Tryd.ntmps94
    go_wp2
    go_ret
    exact ⟨⟨_, rfl, .inr rfl, by omega⟩, rfl⟩
set_option maxRecDepth 100000 in
set_option maxHeartbeats 4000000 in
theorem draw_ChartV (b A : Nat) (jib : Int) (w : World) (h : Src b A w) (hA : A ≤ 100000) (hj : 100 ≤ jib ∧ jib ≤ 1000) : Calls Tryd.prog 86 #[.pointer (some ⟨b, 0, none⟩), .int .i64 jib] w (ChtOutV b (A + 30) jib w) := by
  have hp := Lib.hid (fun A w' h hA n hn => src_pick b A n w' h hA hn)
  have hbl := h.lt
  have hb0 := (Below.refl w.heap.size w).alloc (Nat.le_refl _) (.cells #[] 95 (0, 0))
  have hS1 := Lib.hid (h.below hb0)
  have hM1 := Lib.hid (Mod.of_below (lo := b) (hi := b + 1) hb0)
  have hO1 : Hid (Own 2 Chs.cells w.heap.size 95 (w.alloc (.cells #[] 95 (0, 0))) (.slice (some ⟨w.heap.size, 0, none⟩) 0 0) ([] : List Chs)) := Lib.hid (own_empty w 95 w.heap.size (Nat.le_refl _))
  obtain ⟨hj0, hj1⟩ := hj
  clear h hb0
  go_enter Tryd.func86, Tryd.ntmps86
  go_wp2_with fail
  refine (hp.out A _ hS1.out (by omega) 9000 (by omega)).mono ?_
  rintro e w2 ⟨ld, rfl, ⟨_, hld⟩, hs2, hm2⟩
  have hld := hld (by omega)
  have hS2 := Lib.hid hs2
  have hM2 := Lib.hid (hM1.out.trans hm2)
  have hO2 := Lib.hid (hO1.out.mod hm2 (by omega))
  clear hs2 hm2 hS1 hM1 hO1
  go_wp2_with fail
  refine (hp.out _ _ hS2.out (by omega) 5 (by omega)).mono ?_
  rintro e w3 ⟨k0, rfl, ⟨_, hk0⟩, hs3, hm3⟩
  have hk0 := hk0 (by omega)
  have hS3 := Lib.hid hs3
  have hM3 := Lib.hid (hM2.out.trans hm3)
  have hO3 := Lib.hid (hO2.out.mod hm3 (by omega))
  clear hs3 hm3 hS2 hM2 hO2
  go_wp2_with fail
  go_loopw [5, 6, 7, 8] (fun o r l i wr => ∃ (k : Nat) (R L : Int) (acc : List Chs), i = .int .i64 k ∧ r = .int .i64 R ∧ l = .int .i64 L ∧ k ≤ 5 ∧ Hid (acc.length + k ≤ 5 ∧ 1 ≤ acc.length + k) ∧ (0 ≤ R ∧ R ≤ 1000) ∧ (0 ≤ L ∧ L ≤ 20000) ∧ Hid (ChInv jib R L acc) ∧ Hid (Own 2 Chs.cells w.heap.size 95 wr o acc) ∧ Hid (Src b (A + 4 + 4 * (5 - k)) wr) ∧ Hid (Mod b (b + 1) w wr)) (fun _ _ _ i _ => (intOf i).toNat)
  case atStart => exact ⟨1 + k0, 20, _, [], congrArg (Value.int .i64) (by omega), rfl, rfl, by omega, Lib.hid (by simp; omega), by omega, by omega, Lib.hid ⟨fun i h => by simp at h, fun h => by simp at h, fun i h => by simp at h, fun _ => rfl⟩, hO3, Lib.hid (hS3.out.mono (by omega)), hM3⟩
  case round =>
    clear hO3 hS3 hM3
    obtain ⟨k, R, L, acc, rfl, rfl, rfl, hk5, hlen, ⟨hR0, hR1⟩, ⟨hL0, hL1⟩, hinv, hO, hS, hM⟩ := hrel
    have hszr := hM.out.size
    have hltr := hS.out.lt
    by_cases hk : 0 < k
    · by_cases hr : R < jib
      · go_wp2_with fail
        refine (hp.out _ _ hS.out (by omega) 150 (by omega)).mono ?_
        rintro e w4 ⟨d, rfl, ⟨_, hd⟩, hs4, hm4⟩
        have hd := hd (by omega)
        have hS4 := Lib.hid hs4
        have hM4 := Lib.hid (hM.out.trans hm4)
        have hO4 := Lib.hid (hO.out.mod hm4 (by omega))
        have hsz4 := hM4.out.size
        have hlt4 := hs4.lt
        clear hs4 hm4 hS hM hO
        go_wp2_with fail
        refine (draw_minV _ _ _).mono ?_
        rintro e w5 ⟨⟨R2, rfl, hR2, hR4⟩, rfl⟩
        have hR3 : 0 ≤ R2 ∧ R2 ≤ 1000 := by omega
        have hR5 : R < R2 := by omega
        clear hR2
        obtain ⟨ga, gc, rfl⟩ := own_valV hO4.out
        obtain ⟨na, hna⟩ : ∃ na, acc.length = na := ⟨_, rfl⟩
        rw [hna] at hlen hO4 ⊢
        have Hna := Lib.hid hna
        clear hna
        go_wp2_with (at_builtin; refine wpList_app1 (c := Chs.cells) (bytes := 16) rfl _ _ 39 95 rfl Tryd.underlying39 info_stepV (by omega) Chs.len Chs.oneV w.heap.size acc ⟨R2, L⟩ _ rfl w4 rfl hO4.out rfl (by rw [Hna.out]; have := hlen.out; omega) (by rw [Hna.out]; have := hlen.out; omega) (by omega) ?_; intro v9 w9 hown9 hg9; have hB9 := hO4.out.app (Below.refl w.heap.size w4) (Nat.le_refl _) hsz4 hg9; have hO9 := Lib.hid hown9; have hS9 := Lib.hid (hS4.out.lo hB9 (by omega)); have hM9 := Lib.hid (hM4.out.onV hB9); clear hown9 hg9 hB9)
        refine (hp.out _ _ hS9.out (by omega) 2500 (by omega)).mono ?_
        rintro e w10 ⟨d2, rfl, ⟨_, hd2⟩, hs10, hm10⟩
        have hd2 := hd2 (by omega)
        have hS10 := Lib.hid hs10
        have hM10 := Lib.hid (hM9.out.trans hm10)
        have hO10 := Lib.hid (hO9.out.mod hm10 (by omega))
        clear hs10 hm10 hS9 hM9 hO9
        go_wp2_with fail
        refine (draw_maxV _ _ _).mono ?_
        rintro e w11 ⟨⟨L2, rfl, hL2, hL3⟩, rfl⟩
        have hL4 : 0 ≤ L2 ∧ L2 ≤ 20000 := by omega
        have hL5 : L2 ≤ L := by omega
        have hinv2 := Lib.hid (hinv.out.push hR5 hR0 hR4 hj1 ⟨hL0, by omega⟩ hL5)
        clear hL2 hL3 hR4 hR5 hL5
        go_wp2_with fail
        go_roundw
        case rel => exact ⟨k - 1, R2, L2, acc ++ [⟨R2, L⟩], congrArg (Value.int .i64) (by omega), rfl, rfl, by omega, Lib.hid (by have := hlen.out; rw [List.length_append, Hna.out, List.length_singleton]; omega), hR3, hL4, hinv2, hO10, Lib.hid (hS10.out.mono (by omega)), hM10⟩
        case measure => simp [intOf]; omega
      · have hn0 : Hid (1 ≤ acc.length ∧ acc.length ≤ 5) := Lib.hid (by
          have h1 := hlen.out
          have h2 : acc.length ≠ 0 := fun h => by have := hinv.out.start h; omega
          omega)
        go_wp2
        go_ret
        exact ⟨_, acc, rfl, hO.out.slw Chs.len, hinv.out.ok, hn0.out, hinv.out.jib, hS.out.mono (by omega), hM.out⟩
    · have hn0 : Hid (1 ≤ acc.length ∧ acc.length ≤ 5) := Lib.hid (by have h1 := hlen.out; omega)
      go_wp2
      go_ret
      exact ⟨_, acc, rfl, hO.out.slw Chs.len, hinv.out.ok, hn0.out, hinv.out.jib, hS.out.mono (by omega), hM.out⟩
end Go.Proofs.YtpabbehpkokhbaaDoor
