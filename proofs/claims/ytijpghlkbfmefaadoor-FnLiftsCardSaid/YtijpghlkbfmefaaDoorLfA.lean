/- AddLift where the name is new. -/
import Derived.Test.YtijpghlkbfmefaaDoorLfC
import Derived.Test.YtijpghlkbfmefaaDoorPh
import Derived.Deep.RegionLawGrows
namespace Go.Proofs.YtijpghlkbfmefaaDoor
open Go.RowKit
def AdOut (L : LiftsL) (w : World) (e : Ending) (w' : World) : Prop :=
  ∃ v' rk, e = .returned (.tuple #[v', .int .i64 0]) ∧ NSw 9 LiftR.cells LiftR.f LiftR.s 1 intCells w.heap.size w'.heap.size w' v' rk L ∧ Below w.heap.size w w'
theorem lifts_push {lo hi lo2 hi2 B H : Nat} {w w2 : World} {v v2 : Value} {rs : List LiftR} {L : LiftsL} {g : LiftF} {sv : SV} {a : List Int} (h : Lifts lo hi w v rs L) (hs : Sl 1 intCells lo2 hi2 w sv.v a) (hb : Below w.heap.size w w2) (ho : Sl 9 LiftR.cells B H w2 v2 (rs ++ [⟨g, sv⟩])) :
    ∃ hi3, Lifts 0 hi3 w2 v2 (rs ++ [⟨g, sv⟩]) (L ++ [(g, a)]) := by
  refine ⟨hi + hi2 + H, ho.mono (Nat.zero_le _) (by omega), by simp [h.len], fun i r x hr hx => ?_⟩
  have h2 := h.ext hb
  by_cases hi' : i < L.length
  · rw [List.getElem?_append_left hi'] at hx
    rw [List.getElem?_append_left (by rw [h.len]; exact hi')] at hr
    exact ⟨(h2.row i r x hr hx).1, (h2.row i r x hr hx).2.mono (Nat.zero_le _) (by omega)⟩
  · rw [List.getElem?_append_right (by omega)] at hx
    rw [List.getElem?_append_right (by rw [h.len]; omega), h.len] at hr
    by_cases h0 : i - L.length = 0
    · rw [h0] at hx hr
      simp at hx hr
      subst hx hr
      exact ⟨rfl, (hs.ext hb).mono (Nat.zero_le _) (by omega)⟩
    · rw [List.getElem?_eq_none (by simp; omega)] at hx; cases hx
theorem sl_flat {α : Type} {c : α → List Value} {n lo hi : Nat} {w : World} {b : Addr} {len cap : Nat} {l : List α} (hc : ∀ x, (c x).length = n) (h : Sl n c lo hi w (.slice (some b) len cap) l) {j : Nat} {u : Value} (hu : (l.flatMap c)[j]? = some u) : w.cell? (b.add j) = some u := by
  obtain ⟨i, jj, hi, rfl, hu'⟩ := flat_at hc l j u hu
  obtain ⟨a, cap', hv, _, hh⟩ := h
  obtain ⟨b', off', ha, _, _, hcc⟩ := hh (by omega)
  simp only [Value.slice.injEq] at hv
  rw [← hv.1] at ha
  cases ha
  have := hcc i hi jj u hu'
  have hadd : (⟨b', off', none⟩ : Addr).add (i * n + jj) = ⟨b', off' + i * n + jj, none⟩ := by
    unfold Addr.add; split
    · rw [show off' + i * n + jj = off' from by omega]
    · simp only [Nat.add_assoc]
  rw [hadd]; exact this
/-- An append to a full slice: a new block. -/
theorem step_appG {α : Type} {c : α → List Value} {n bytes : Nat} {P : Program} {o : Oper} {a : Act} {w : World} {ops : Array Oper} {K : Act → World → Prop} {Q : Exit → Act → World → Prop} {E : Prop} (hgd : o.guard = none) (s x : Operand) (t e : TypeId) (ho : o.op = .call { callee := .builtin .append, args := #[s, x], argTypes := #[t, t] }) (ht : P.underlying t = some (.slice e))
    (hinfo : (P.info? e).map (fun i => (i.zero.map (·.cells.size), i.size, i.bytes)) = some (some n, n, bytes)) (hn0 : 0 < n) (hc : ∀ x, (c x).length = n) (h1 : ∀ x, ∀ u ∈ c x, u.oneCell' = true)
    (l0 l : List α) (ao : Option Addr) (lo1 hi1 : Nat) (hs : a.eval s = .slice ao l0.length l0.length) (hr0 : Sl n c lo1 hi1 w (.slice ao l0.length l0.length) l0) (lo2 hi2 b off cap : Nat) (hx : a.eval x = .slice (some ⟨b, off, none⟩) l.length cap) (hr : Sl n c lo2 hi2 w (.slice (some ⟨b, off, none⟩) l.length cap) l) (hl : 0 < l.length)
    (hb : (l0.length + l.length) * bytes ≤ 140737488355328) (hm : l0.length + l.length ≤ 9223372036854775807)
    (h : ∀ v' w', Own n c w.heap.size e w' v' (l0 ++ l) → w.grownBy w' none → K (a.put o.dst v') w') :
    if Region.wanted o (yielded ops a.tmps) = true then o.wp P a w K Q else E := by
  obtain ⟨i, hi, hzz⟩ := Option.map_eq_some_iff.1 hinfo
  simp only [Prod.mk.injEq] at hzz
  obtain ⟨hz, hsz, hby⟩ := hzz
  obtain ⟨z, hz, hzs⟩ := Option.map_eq_some_iff.1 hz
  refine step_append_grows hgd s x t ho e i z n bytes ht hi hz hsz hby hzs hn0 ao l0.length l0.length (l0.flatMap c) hs (fun e2 => ?_) (flat_len hc l0) (fun b2 e2 j u hu => ?_) ⟨b, off, none⟩ l.length cap (l.flatMap c) hx (flat_len hc l) (fun j u hu => sl_flat hc hr hu) (fun u hu => ?_) (by omega) (by unfold maxLen; omega) hb (fun v' w' h2 h3 => h v' w' ?_ h3)
  · subst e2
    obtain ⟨a2, cap', hv, _, hh⟩ := hr0
    by_cases h0 : 0 < l0.length
    · obtain ⟨b', off', ha, _⟩ := hh h0
      simp only [Value.slice.injEq] at hv
      rw [← hv.1] at ha
      cases ha
    · omega
  · subst e2
    exact sl_flat hc hr0 hu
  · obtain ⟨x, _, hx⟩ := List.mem_flatMap.1 hu
    exact h1 x u hx
  · show w'.ownsRow w.heap.size e n v' (l0 ++ l).length ((l0 ++ l).flatMap c)
    rw [List.length_append, List.flatMap_append]
    exact h2
set_option maxRecDepth 100000 in
set_option maxHeartbeats 8000000 in
theorem impl_AddLift (v : Value) (rs : List LiftR) (L : LiftsL) (lo hi lo2 hi2 : Nat) (g : LiftF) (sv : SV) (aft : List Int) (w : World) (h : Lifts lo hi w v rs L) (hs : Sl 1 intCells lo2 hi2 w sv.v aft) (hok : liftsOk L) (hok2 : liftsOk (L ++ [(g, aft)])) (hlen : L.length ≤ 6) (hsz : ∀ x ∈ L ++ [(g, aft)], x.2.length ≤ 1024) (hno : ∀ i (h : i < L.length), ¬ L[i].1.name = g.name) :
    Calls Tryd.prog 7 #[v, .agg (LiftR.cells ⟨g, sv⟩).toArray] w (AdOut (L ++ [(g, aft)]) w) := by
  obtain ⟨ta, tl, tc⟩ := sv
  have hV := fun W (hb : Below w.heap.size w W) => impl_LiftsOk v rs L lo hi W (h.ext hb) (lifts_nm hok) (by omega)
  rw [liftsB_t hok] at hV
  have hA := fun (q : Nat) W (hb : Below w.heap.size w W) hq => impl_AddHas v rs L lo hi q g.name W (h.ext hb) hq hno
  have Hpush := Lib.hid (fun (w2 : World) v2 B H (hb : Below w.heap.size w w2) ho => lifts_push (w2 := w2) (v2 := v2) (B := B) (H := H) (g := g) h hs hb ho)
  have Hok2 := Lib.hid hok2
  have Hsz := Lib.hid hsz
  clear hsz
  have hl1 := h.len
  have Hh := Lib.hid h
  obtain ⟨⟨a, cap, rfl, _⟩, _, _⟩ := h
  rw [hl1] at hV hA Hh ⊢
  have Hl1 := Lib.hid hl1
  obtain ⟨g0, g1, g2, g3, g4, g5, g6, g7⟩ := g
  simp only [LiftR.cells, SV.v]
  dsimp only at hA
  have HV := Lib.hid hV
  have HA := Lib.hid hA
  have hba : Below w.heap.size w (w.alloc (.cells #[.string g0, .int .i64 g1, .int .i64 g2, .int .i64 g3, .int .i64 g4, .int .i64 g5, .int .i64 g6, .int .i64 g7, .slice ta tl tc] 31 (0, 0))) := (Below.refl _ _).alloc (Nat.le_refl _) _
  have hX := Lib.hid (blkN_new w (.cells #[.string g0, .int .i64 g1, .int .i64 g2, .int .i64 g3, .int .i64 g4, .int .i64 g5, .int .i64 g6, .int .i64 g7, .slice ta tl tc] 31 (0, 0)))
  have hlt10 : ¬ ((10 : Int) ≤ (L.length : Int)) := by omega
  clear hV hA hl1 hno hok hok2 hs
  go_enter Tryd.func7, Tryd.ntmps7
  go_wp2_with (first
    | (go_at_call 21; refine (HV.out _ hba).mono ?_; rintro e w1 ⟨rfl, hb1⟩; have hX1 := Lib.hid (blkN_below hb1 hX.out); have B1 := hba.trans (hb1.mono (by simp)); have q1 : w1.cell? ⟨w.heap.size, 0, none⟩ = some (.string g0) := (Lib.cell_of_heap hX1.out 0).trans rfl; have hA1 := Lib.hid (HA.out w.heap.size w1 B1 q1); clear q1)
    | fail)
  refine hA1.out.mono ?_
  rintro e w2 ⟨rfl, hb2⟩
  have hX2 := Lib.hid (blkN_below hb2 hX1.out)
  have B2 := B1.trans (hb2.mono B1.size)
  clear hX hX1 hb1 hb2 hA1 HA hba
  go_wp2_with fail
  have hcp : L.length ≤ cap ∧ cap ≤ 9223372036854775807 := by
    obtain ⟨_, _, hv, hc, _⟩ := Hh.out.out
    rw [Hl1.out] at hv hc
    cases hv
    exact hc
  have c0 := (Lib.cell_of_heap hX2.out 0).trans rfl
  have c1 := (Lib.cell_of_heap hX2.out 1).trans rfl
  have c2 := (Lib.cell_of_heap hX2.out 2).trans rfl
  have c3 := (Lib.cell_of_heap hX2.out 3).trans rfl
  have c4 := (Lib.cell_of_heap hX2.out 4).trans rfl
  have c5 := (Lib.cell_of_heap hX2.out 5).trans rfl
  have c6 := (Lib.cell_of_heap hX2.out 6).trans rfl
  have c7 := (Lib.cell_of_heap hX2.out 7).trans rfl
  have c8 : w2.cell? ⟨w.heap.size, 8, none⟩ = some (.slice ta tl tc) := (Lib.cell_of_heap hX2.out 8).trans rfl
  refine region_ph 10 (fun w' => ∀ o, w'.cell? ⟨w.heap.size, o, none⟩ = w2.cell? ⟨w.heap.size, o, none⟩) (fun _ => True) (by kernel_rfl) (fun _ => rfl) trivial (fun hp => ?_)
  refine take_ph 19 (i := 0) rfl rfl (by decide) (by kernel_rfl) (by kernel_rfl) (by kernel_rfl) (fun _ _ _ h => h) (by rfl) (fun w hSw => by (try dsimp only at hSw); go_simp; first | done | with_reducible rfl) hp (fun hp => ?_)
  try simp only [Act.put, List.setIfInBounds_toArray, List.set_cons_zero, List.set_cons_succ]
  refine take_ph 20 (i := 1) rfl rfl (by decide) (by kernel_rfl) (by kernel_rfl) (by kernel_rfl) (fun _ _ _ h => h) (by rfl) (fun w hSw => by (try dsimp only at hSw); go_simp; first | done | with_reducible rfl) hp (fun hp => ?_)
  try simp only [Act.put, List.setIfInBounds_toArray, List.set_cons_zero, List.set_cons_succ]
  refine take_ph 21 (i := 2) rfl rfl (by decide) (by kernel_rfl) (by kernel_rfl) (by kernel_rfl) (fun _ _ _ h => h) (by rfl) (fun w hSw => by (try dsimp only at hSw); go_simp; first | done | with_reducible rfl) hp (fun hp => ?_)
  try simp only [Act.put, List.setIfInBounds_toArray, List.set_cons_zero, List.set_cons_succ]
  refine take_ph 22 (i := 3) rfl rfl (by decide) (by kernel_rfl) (by kernel_rfl) (by kernel_rfl) (fun _ _ _ h => h) (by rfl) (fun w hSw => by (try dsimp only at hSw); go_simp; first | done | with_reducible rfl) hp (fun hp => ?_)
  try simp only [Act.put, List.setIfInBounds_toArray, List.set_cons_zero, List.set_cons_succ]
  refine take_ph 23 (i := 4) rfl rfl (by decide) (by kernel_rfl) (by kernel_rfl) (by kernel_rfl) (fun _ _ _ h => h) (by rfl) (fun w hSw => by (try dsimp only at hSw); go_simp; first | done | with_reducible rfl) hp (fun hp => ?_)
  try simp only [Act.put, List.setIfInBounds_toArray, List.set_cons_zero, List.set_cons_succ]
  refine take_ph 25 (i := 6) rfl rfl (by decide) (by kernel_rfl) (by kernel_rfl) (by kernel_rfl) (fun _ _ _ h => h) (by rfl) (fun w hSw => by (try dsimp only at hSw); go_simp; first | done | with_reducible rfl) hp (fun hp => ?_)
  try simp only [Act.put, List.setIfInBounds_toArray, List.set_cons_zero, List.set_cons_succ]
  refine take_ph 24 (i := 5) rfl rfl (by decide) (by kernel_rfl) (by kernel_rfl) (by kernel_rfl) (fun _ _ _ h => h) (by rfl) (fun w hSw => by (try dsimp only at hSw); go_simp; first | done | with_reducible rfl) hp (fun hp => ?_)
  try simp only [Act.put, List.setIfInBounds_toArray, List.set_cons_zero, List.set_cons_succ]
  refine AnyL.one (i := 7) (by kernel_rfl) rfl (fun K hK => ?_)
  go_simp
  have hwl := (Array.getElem?_eq_some_iff.1 hX2.out).1
  have hb3 : Below w2.heap.size w2 (w2.alloc (.cells #[.string g0, .int .i64 g1, .int .i64 g2, .int .i64 g3, .int .i64 g4, .int .i64 g5, .int .i64 g6, .int .i64 g7, .slice ta tl tc] 31 (0, 0))).drew := ((Below.refl _ _).alloc (Nat.le_refl _) _).drew
  have hlit := (sl_lit (c := LiftR.cells) (n := 9) (fun _ => rfl) [(⟨⟨g0, g1, g2, g3, g4, g5, g6, g7⟩, ⟨ta, tl, tc⟩⟩ : LiftR)] w2 31 rfl (m := 1) rfl (by simp)).ext (Below.refl _ _).drew
  have Bw := B2.trans (hb3.mono B2.size)
  have hsrc : Sl 9 LiftR.cells lo hi (w2.alloc (.cells #[.string g0, .int .i64 g1, .int .i64 g2, .int .i64 g3, .int .i64 g4, .int .i64 g5, .int .i64 g6, .int .i64 g7, .slice ta tl tc] 31 (0, 0))).drew (.slice a rs.length rs.length) rs := by
    obtain ⟨a', cap', hv, hc, hh⟩ := (Hh.out.ext Bw).out
    rw [← Hl1.out] at hv
    cases hv
    exact ⟨a, _, rfl, ⟨Nat.le_refl _, by omega⟩, hh⟩
  have hrl := Hl1.out
  refine hK.out _ _ (ph1 (fun o => hb3.cell (p := ⟨w.heap.size, o, none⟩) hwl) trivial) (fun hp => ?_)
  clear hK
  try simp only [Act.put, List.setIfInBounds_toArray, List.set_cons_zero, List.set_cons_succ]
  refine AnyL.one (i := 8) (by kernel_rfl) rfl (fun K hK => ?_)
  refine step_appG (c := LiftR.cells) (bytes := 96) rfl _ _ 24 31 rfl Tryd.underlying24 info_LiftC (by omega) (fun _ => rfl) LiftR.oneD rs [(⟨⟨g0, g1, g2, g3, g4, g5, g6, g7⟩, ⟨ta, tl, tc⟩⟩ : LiftR)] a lo hi (by rw [hrl]; rfl) hsrc _ _ w2.heap.size 0 1 rfl hlit (by simp) (by simp; omega) (by simp; omega) ?_
  intro v3 w3 hown3 hg3
  have hb4 : Below w2.heap.size w2 w3 := hb3.grown hg3 (by simp) (fun k hk => by cases hk)
  have B3 := B2.trans (hb4.mono B2.size)
  obtain ⟨hi3, hl3⟩ := Hpush.out w3 v3 _ _ B3 (hown3.slw (fun _ => rfl)).1
  refine hK.out _ _ (ph1 (fun o => hb4.cell (p := ⟨w.heap.size, o, none⟩) hwl) trivial) (fun hp => ?_)
  clear hK
  try simp only [Act.put, List.setIfInBounds_toArray, List.set_cons_zero, List.set_cons_succ]
  refine AnyL.one (i := 9) (by kernel_rfl) rfl (fun K hK => ?_)
  have hcl := Lib.hid (impl_CloneLifts v3 _ _ 0 hi3 w3 hl3 (by simp; omega) (by simp) Hsz.out)
  clear hl3 hown3 hlit hsrc
  go_simp
  refine hcl.out.mono ?_
  rintro e w4 ⟨v4, rk, rfl, hns, hb34⟩
  have hb5 : Below w2.heap.size w2 w4 := hb4.trans (hb34.mono hb4.size)
  have B4 := B2.trans (hb5.mono B2.size)
  have Hns := Lib.hid hns
  have hV2 := Lib.hid (impl_LiftsOk v4 rk _ _ _ w4 hns.r (lifts_nm Hok2.out) (by simp; omega))
  rw [liftsB_t Hok2.out] at hV2
  refine hK.out _ _ (ph1 (fun o => hb5.cell (p := ⟨w.heap.size, o, none⟩) hwl) trivial) (fun hp => ?_)
  clear hK hcl hns
  try simp only [Act.put, List.setIfInBounds_toArray, List.set_cons_zero, List.set_cons_succ]
  refine AnyL.one (i := 10) (by kernel_rfl) rfl (fun K hK => ?_)
  go_simp
  refine hK.out _ _ (ph1 (fun o => hb5.cell (p := ⟨w.heap.size, o, none⟩) hwl) trivial) (fun hp => ?_)
  clear hK
  try simp only [Act.put, List.setIfInBounds_toArray, List.set_cons_zero, List.set_cons_succ]
  refine AnyL.done (by kernel_rfl) ?_ _
  simp only [Exit.then]
  clear hp
  go_wp2_with fail
  refine hV2.out.mono ?_
  rintro e w5 ⟨rfl, hb6⟩
  have Hns5 := Lib.hid ((Hns.out.ext (Nat.le_refl _) hb6).widen B3.size hb6.size)
  have B5 := B4.trans (hb6.mono B4.size)
  go_wp2
  go_ret2
  exact ⟨_, rk, rfl, Hns5.out, B5⟩
end Go.Proofs.YtijpghlkbfmefaaDoor
