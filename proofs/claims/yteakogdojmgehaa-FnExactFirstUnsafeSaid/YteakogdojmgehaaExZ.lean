/- FirstUnsafe, the program: what it does at each act. -/
import Derived.Test.YteakogdojmgehaaExY
import Derived.Test.YteakogdojmgehaaExQ
namespace Go.Proofs.Yteakogdojmgehaa
open Go.RowKit
section
variable {α : Type} {c : α → List Value} {n bytes : Nat} {P : Program} {o : Oper} {a : Act}
theorem wp_appN {w : World} {K : Act → World → Prop} {Q : Exit → Act → World → Prop} (s x : Operand) (t e : TypeId) (ho : o.op = .call { callee := .builtin .append, args := #[s, x], argTypes := #[t, t] }) (ht : P.underlying t = some (.slice e))
    (hinfo : (P.info? e).map (fun i => (i.zero.map (·.cells.size), i.size, i.bytes)) = some (some n, n, bytes)) (hn0 : 0 < n) (hc : ∀ x, (c x).length = n) (h1 : ∀ x, ∀ u ∈ c x, u.oneCell' = true)
    (lo : Nat) (l0 l : List α) (v : Value) (hs : a.eval s = v) (hown : Own n c lo e w v l0) (lo2 hi2 b off cap : Nat) (hx : a.eval x = .slice (some ⟨b, off, none⟩) l.length cap) (hr : Sl n c lo2 hi2 w (.slice (some ⟨b, off, none⟩) l.length cap) l)
    (hb : (l0.length + l.length) * bytes ≤ 140737488355328) (hm : l0.length + l.length ≤ 9223372036854775807) (hlo : lo ≤ w.heap.size)
    (h : ∀ v' w', Own n c lo e w' v' (l0 ++ l) → w.grownBy w' v.ownBlock → K (a.put o.dst v') w') : o.wp P a w K Q := by
  obtain ⟨i, hi, hzz⟩ := Option.map_eq_some_iff.1 hinfo
  simp only [Prod.mk.injEq] at hzz
  obtain ⟨hz, hsz, hby⟩ := hzz
  obtain ⟨z, hz, hzs⟩ := Option.map_eq_some_iff.1 hz
  refine wp_append_own _ s x t ho lo e i z n bytes ht hi hz hsz hby hzs hn0 v l0.length (l0.flatMap c) hs hown ⟨b, off, none⟩ l.length cap (l.flatMap c) hx (flat_len hc l) ?_ ?_ (by unfold maxLen; omega) hb hlo ?_
  · intro j u hu
    obtain ⟨i, jj, hi, rfl, hu'⟩ := flat_at hc l j u hu
    have := hr.get i hi jj u hu'
    have hadd : (⟨b, off, none⟩ : Addr).add (i * n + jj) = ⟨b, off + i * n + jj, none⟩ := by
      unfold Addr.add; split
      · rw [show off + i * n + jj = off from by omega]
      · simp only [Nat.add_assoc]
    rw [hadd]; exact this
  · intro u hu
    obtain ⟨x, _, hx⟩ := List.mem_flatMap.1 hu
    exact h1 x u hx
  · intro v' w' h2 h3 _
    refine h v' w' ?_ h3
    show w'.ownsRow lo e n v' (l0 ++ l).length ((l0 ++ l).flatMap c)
    rw [List.length_append, List.flatMap_append]
    exact h2
theorem step_appN {w : World} {ops : Array Oper} {K : Act → World → Prop} {Q : Exit → Act → World → Prop} {E : Prop} (hgd : o.guard = none) (s x : Operand) (t e : TypeId) (ho : o.op = .call { callee := .builtin .append, args := #[s, x], argTypes := #[t, t] }) (ht : P.underlying t = some (.slice e))
    (hinfo : (P.info? e).map (fun i => (i.zero.map (·.cells.size), i.size, i.bytes)) = some (some n, n, bytes)) (hn0 : 0 < n) (hc : ∀ x, (c x).length = n) (h1 : ∀ x, ∀ u ∈ c x, u.oneCell' = true)
    (lo : Nat) (l0 l : List α) (v : Value) (hs : a.eval s = v) (hown : Own n c lo e w v l0) (lo2 hi2 b off cap : Nat) (hx : a.eval x = .slice (some ⟨b, off, none⟩) l.length cap) (hr : Sl n c lo2 hi2 w (.slice (some ⟨b, off, none⟩) l.length cap) l)
    (hb : (l0.length + l.length) * bytes ≤ 140737488355328) (hm : l0.length + l.length ≤ 9223372036854775807) (hlo : lo ≤ w.heap.size)
    (h : ∀ v' w', Own n c lo e w' v' (l0 ++ l) → w.grownBy w' v.ownBlock → K (a.put o.dst v') w') :
    if Region.wanted o (yielded ops a.tmps) = true then o.wp P a w K Q else E := by
  rw [if_pos (by simp [Region.wanted, hgd])]
  exact wp_appN s x t e ho ht hinfo hn0 hc h1 lo l0 l v hs hown lo2 hi2 b off cap hx hr hb hm hlo h
end
theorem Vis.at2 {w : World} {b off : Nat} {l : List Vis} (hc : ∀ i (h : i < l.length) j u, (Vis.cells l[i])[j]? = some u → w.cell? ⟨b, off + i * 11 + j, none⟩ = some u) {k : Nat} (hk : k < l.length) :
    w.cell? ⟨b, off + k * 11 + 6, none⟩ = some (.int .i64 l[k].from_) ∧ w.cell? ⟨b, off + k * 11 + 7, none⟩ = some (.int .i64 l[k].act.turnA) ∧ w.cell? ⟨b, off + k * 11 + 8, none⟩ = some (.int .i64 l[k].act.turnB) ∧ w.cell? ⟨b, off + k * 11 + 9, none⟩ = some (.bool l[k].act.loseA) ∧ w.cell? ⟨b, off + k * 11 + 10, none⟩ = some (.bool l[k].act.loseB) :=
  ⟨hc k hk 6 _ rfl, hc k hk 7 _ rfl, hc k hk 8 _ rfl, hc k hk 9 _ rfl, hc k hk 10 _ rfl⟩
/-- What the function answers at an act. -/
def Do2 (T : Tab) (y : Wld) (z : Act1) (pth : List Act1) (p : Nat) (w : World) (e : Ending) (w' : World) : Prop :=
  Mod p (p + 1) w w' ∧ ((unsafeB T y z = false ∧ e = .returned (.bool true) ∧ w'.heap[p]? = some (.cells #[.slice none 0 0] 65 (0, 0))) ∨
    (unsafeB T y z = true ∧ e = .returned (.bool false) ∧ ∃ ov, w'.heap[p]? = some (.cells #[ov] 65 (0, 0)) ∧ Own 4 Act1.cells w.heap.size 69 w' ov (pth ++ [z])))
set_option maxRecDepth 100000 in
set_option maxHeartbeats 16000000 in
theorem impl_do2 {v : Wtc} (av : Value) (L0 Lk : List Vis) (i : Nat) (y : Wld) (z : Act1) (pth : List Act1) (p q : Nat) (tv : Value) (rows : List SV) (T : Tab) (lo hi lo2 hi2 : Nat) (w : World) (hr : Sl 11 Vis.cells lo2 hi2 w av Lk) (hvo : VisOk v L0) (hpre : L0 <+: Lk) (hpth : PathTo L0 i pth) (hi2 : i < Lk.length) (hy : Lk[i].w = y) (hin : y.in_) (hz : Trn z.turnA ∧ Trn z.turnB)
    (hTab : TabR lo hi w tv rows T) (hT : TabOk T) (hp : w.heap[p]? = some (.cells #[.slice none 0 0] 65 (0, 0))) (hq : w.heap[q]? = some (.cells #[tv] 44 (0, 0))) (_ : p ≠ q) (hplo : p < lo2) :
    Calls Try.prog 97 #[av, .int .i64 i, .agg z.cells.toArray, .pointer (some ⟨q, 0, none⟩), .pointer (some ⟨p, 0, none⟩)] w (Do2 T y z pth p w) := by
  have hun := fun w' (hb : Below w.heap.size w w') => impl_unsafe tv rows T lo hi y z w' (hTab.ext hb) hT hin hz.1 hz.2
  have hlr := Lib.hid hr
  have Hvo := Lib.hid hvo
  have Hpre := Lib.hid hpre
  have Hpth := Lib.hid hpth
  have hL20 := hvo.len
  have hpl20 := path_len hvo hpth
  have hil := hpth.lt
  obtain ⟨⟨ta, tc, rfl, -, -⟩, -, -⟩ := hTab
  generalize rows.length = tn at *
  obtain ⟨oa, oc, rfl, -, -⟩ := hr
  obtain ⟨ob, oo, rfl⟩ := Sl.addr hlr.out (by omega)
  have hobp : ob ≠ p := by
    obtain ⟨_, _, hv, _, hh⟩ := hlr.out
    obtain ⟨b', o', he, hl1, _⟩ := hh (by omega)
    cases hv
    cases he
    omega
  obtain ⟨p0, p1, p2, p3, p4, p5⟩ := Vis.at hlr.out.get hi2
  rw [hy] at p0 p1 p2 p3 p4 p5
  have hob := World.block_lt_of_cell? w _ p0
  have hpl := (Array.getElem?_eq_some_iff.1 hp).1
  have t0 : w.cell? ⟨q, 0, none⟩ = some (.slice ta tn tc) := (Lib.cell_of_heap hq 0).trans rfl
  have hql := World.block_lt_of_cell? w _ t0
  have Hp := Lib.hid hp
  simp only [Wld.cells, Act1.cells] at *
  have HU := Lib.hid hun
  clear hun hp hq hy hin hz hvo hpre hpth
  have hx := blk_new w (.cells #[.int .i64 (z).turnA, .int .i64 (z).turnB, .bool (z).loseA, .bool (z).loseB] 69 (0, 0))
  have hba : Below w.heap.size w (w.alloc (.cells #[.int .i64 (z).turnA, .int .i64 (z).turnB, .bool (z).loseA, .bool (z).loseB] 69 (0, 0))) := (Below.refl _ _).alloc (Nat.le_refl _) _
  obtain ⟨h1, h2⟩ := bcell hba
  have e0 := (h1 q 0 hql).trans t0
  have r0 := (h1 ob _ hob).trans p0
  have r1 := (h1 ob _ hob).trans p1
  have r2 := (h1 ob _ hob).trans p2
  have r3 := (h1 ob _ hob).trans p3
  have r4 := (h1 ob _ hob).trans p4
  have r5 := (h1 ob _ hob).trans p5
  have Hba := Lib.hid hba
  clear h1 h2 t0 p0 p1 p2 p3 p4 p5 hba
  unfold Do2
  go_enter Try.func97, Try.ntmps97
  go_wp2_with fail
  obtain ⟨W1, hW1⟩ : ∃ W1, w.alloc (.cells #[.int .i64 (z).turnA, .int .i64 (z).turnB, .bool (z).loseA, .bool (z).loseB] 69 (0, 0)) = W1 := ⟨_, rfl⟩
  have hs1 : W1.heap.size = w.heap.size + 1 := by rw [← hW1]; simp
  rw [hW1] at e0 r0 r1 r2 r3 r4 r5 Hba hx ⊢
  clear hW1
  have hq1 : q < W1.heap.size := by omega
  have hw1 : w.heap.size < W1.heap.size := by omega
  have ho1 : ob < W1.heap.size := by omega
  have x0 : W1.cell? ⟨w.heap.size, 0, none⟩ = some (.int .i64 z.turnA) := (Lib.cell_of_heap hx 0).trans rfl
  have x1 : W1.cell? ⟨w.heap.size, 1, none⟩ = some (.int .i64 z.turnB) := (Lib.cell_of_heap hx 1).trans rfl
  have x2 : W1.cell? ⟨w.heap.size, 2, none⟩ = some (.bool z.loseA) := (Lib.cell_of_heap hx 2).trans rfl
  have x3 : W1.cell? ⟨w.heap.size, 3, none⟩ = some (.bool z.loseB) := (Lib.cell_of_heap hx 3).trans rfl
  have Hx := Lib.hid hx
  clear hx
  go_region_held3 (fun w' => (∀ b' o', b' < W1.heap.size → w'.cell? ⟨b', o', none⟩ = W1.cell? ⟨b', o', none⟩) ∧ Below W1.heap.size W1 w') (first | (refine heldB ?_; exact (Below.refl _ _).drew) | (refine heldB ?_; exact b3))
    (first | (go_at_call 81; refine (HU.out _ Hba.out.drew).mono ?_; rintro e w3 ⟨rfl, hb3⟩; have b3 : Below W1.heap.size W1 w3 := (Below.refl _ _).drew.trans hb3))
  rename_i hHeld
  clear hHeld e0 r0 r1 r2 r3 r4 r5 x0 x1 x2 x3 hb3
  have B3 := Lib.hid (Hba.out.trans (b3.mono (Nat.le_of_lt hw1)))
  have P3 := Lib.hid ((B3.out.block p hpl).trans Hp.out)
  have X3 := (b3.block _ hw1).trans Hx.out
  have y0 : w3.cell? ⟨w.heap.size, 0, none⟩ = some (.int .i64 z.turnA) := (Lib.cell_of_heap X3 0).trans rfl
  have y1 : w3.cell? ⟨w.heap.size, 1, none⟩ = some (.int .i64 z.turnB) := (Lib.cell_of_heap X3 1).trans rfl
  have y2 : w3.cell? ⟨w.heap.size, 2, none⟩ = some (.bool z.loseA) := (Lib.cell_of_heap X3 2).trans rfl
  have y3 : w3.cell? ⟨w.heap.size, 3, none⟩ = some (.bool z.loseB) := (Lib.cell_of_heap X3 3).trans rfl
  have hs3 := B3.out.size
  have hp3 : p < w3.heap.size := Nat.lt_of_lt_of_le hpl hs3
  have m0 : w3.cell? ⟨p, 0, none⟩ = some (.slice none 0 0) := (Lib.cell_of_heap P3.out 0).trans rfl
  have mf : w3.frozen? ⟨p, 0, none⟩ = false := Lib.frozen_of_heap P3.out 0
  clear b3 X3 Hx
  cases hub : unsafeB T y z with
  | false =>
    have hg : (!false) = true := rfl
    go_wp2
    go_ret
    exact ⟨Mod.of_below B3.out, .inl ⟨hub, rfl, P3.out⟩⟩
  | true =>
    obtain ⟨w4, hw4⟩ : ∃ w4, w3.setCell ⟨p, 0, none⟩ (.slice (some ⟨w3.heap.size, 0, none⟩) 1 1) = w4 := ⟨_, rfl⟩
    have hs4 : w4.heap.size = w3.heap.size := by rw [← hw4]; simp
    have P4 : w4.heap[p]? = some (.cells #[.slice (some ⟨w3.heap.size, 0, none⟩) 1 1] 65 (0, 0)) := by rw [← hw4]; simp [World.setCell, Array.getElem?_modify, P3.out]
    have M4 : Mod p (p + 1) w w4 := by rw [← hw4]; exact (Mod.of_below B3.out).setCell (p := ⟨p, 0, none⟩) (Nat.le_refl _) (Nat.lt_succ_self _) _
    have O5 := World.ownsRow_lit (base := w.heap.size) (e := 69) (size := 4) w4 #[.int .i64 z.turnA, .int .i64 z.turnB, .bool z.loseA, .bool z.loseB] 1 (by omega) (by unfold maxLen; omega) rfl
    rw [hs4] at O5
    have O5 : Hid (Own 4 Act1.cells w.heap.size 69 (w4.alloc (.cells #[.int .i64 (z).turnA, .int .i64 (z).turnB, .bool (z).loseA, .bool (z).loseB] 69 (0, 0))) (.slice (some ⟨w3.heap.size, 0, none⟩) 1 1) [z]) := Lib.hid O5
    have P5 : Hid ((w4.alloc (.cells #[.int .i64 (z).turnA, .int .i64 (z).turnB, .bool (z).loseA, .bool (z).loseB] 69 (0, 0))).heap[p]? = some (.cells #[.slice (some ⟨w3.heap.size, 0, none⟩) 1 1] 65 (0, 0))) := Lib.hid ((Below.heap_alloc w4 (.cells #[.int .i64 (z).turnA, .int .i64 (z).turnB, .bool (z).loseA, .bool (z).loseB] 69 (0, 0)) p (by omega)).trans P4)
    have M5 : Mod p (p + 1) w (w4.alloc (.cells #[.int .i64 (z).turnA, .int .i64 (z).turnB, .bool (z).loseA, .bool (z).loseB] 69 (0, 0))) := M4.then ((Below.refl _ _).alloc (Nat.le_refl _) _)
    have Hub := Lib.hid hub
    have Hw4 := Lib.hid hw4
    clear hub hw4 hs4 P4 M4
    go_wp2_with fail
    rw [Hw4.out]
    obtain ⟨w5, hw5⟩ : ∃ w5, w4.alloc (.cells #[.int .i64 (z).turnA, .int .i64 (z).turnB, .bool (z).loseA, .bool (z).loseB] 69 (0, 0)) = w5 := ⟨_, rfl⟩
    rw [hw5] at O5 P5 M5 ⊢
    clear hw5 Hw4 y0 y1 y2 y3 m0 mf hs3 hp3 P3 B3
    go_loopw [9] (fun io wr => ∃ (k : Nat) (acc p' : List Act1) (ov : Value), io = .int .i64 k ∧ Hid (PathTo L0 k p') ∧ Hid (p' ++ acc = pth ++ [z]) ∧ 0 < acc.length ∧ Hid (wr.heap[p]? = some (.cells #[ov] 65 (0, 0))) ∧ Hid (Own 4 Act1.cells w.heap.size 69 wr ov acc) ∧ Mod p (p + 1) w wr) (fun io _ => (intOf io).toNat)
    case atStart => exact ⟨i, [z], pth, _, rfl, Hpth, Lib.hid rfl, by simp, P5, O5, M5⟩
    case round =>
      clear P5 O5 M5
      obtain ⟨k, acc, p', ov, rfl, hpt, heq, hacc, hP, hO, hM⟩ := hrel
      have hkl := hpt.out.lt
      have hk2 := Nat.lt_of_lt_of_le hkl (Hpre.out.length_le)
      have hget : Lk[k] = L0[k] := (pre_get Hpre.out hkl).2
      have hlacc : acc.length ≤ 20737 := by have := congrArg List.length heq.out; simp at this; omega
      have hszr := hM.size
      rcases hpt.out.back Hvo.out hkl with ⟨-, rfl, rfl⟩ | ⟨j, p'', hj, hjk, hpj, rfl⟩
      · have Hacc : Hid (Own 4 Act1.cells w.heap.size 69 wr ov (pth ++ [z])) := Lib.hid (by have h2 := heq.out; rw [List.nil_append] at h2; rw [← h2]; exact hO.out)
        go_wp2
        go_ret
        exact ⟨hM, .inr ⟨Hub.out, rfl, _, hP.out, Hacc.out⟩⟩
      · have hk0 : 0 < k := by omega
        obtain ⟨g6, g7, g8, g9, g10⟩ := Vis.at2 hlr.out.get hk2
        rw [hget] at g6 g7 g8 g9 g10
        rw [hj] at g6
        have kw : ∀ o, wr.cell? ⟨ob, o, none⟩ = w.cell? ⟨ob, o, none⟩ := fun o => World.cell?_of_block (hM.block ob hob (by omega))
        have g6 := (kw _).trans g6
        have g7 := (kw _).trans g7
        have g8 := (kw _).trans g8
        have g9 := (kw _).trans g9
        have g10 := (kw _).trans g10
        have Hpj := Lib.hid hpj
        have Heq : Hid (p'' ++ (L0[k].act :: acc) = pth ++ [z]) := Lib.hid (by have h2 := heq.out; simpa using h2)
        generalize L0[k].act = za at *
        obtain ⟨ga, gc, rfl⟩ := own_val hO.out
        obtain ⟨gb, go, rfl⟩ := Sl.addr (hO.out.slw Act1.len).1 hacc
        have hobr : ob < wr.heap.size := Nat.lt_of_lt_of_le hob hszr
        have hpr : p < wr.heap.size := Nat.lt_of_lt_of_le hpl hszr
        have d0 : wr.cell? ⟨p, 0, none⟩ = some (.slice (some ⟨gb, go, none⟩) acc.length gc) := (Lib.cell_of_heap (w := wr) hP.out 0).trans rfl
        have hoa : Own 4 Act1.cells w.heap.size 69 ((wr.alloc (.cells #[.int .i64 (za).turnA, .int .i64 (za).turnB, .bool (za).loseA, .bool (za).loseB] 69 (0, 0))).drew) (.slice (some ⟨wr.heap.size, 0, none⟩) 1 1) [za] := World.ownsRow_lit wr.drew #[.int .i64 za.turnA, .int .i64 za.turnB, .bool za.loseA, .bool za.loseB] 1 hszr (by unfold maxLen; omega) rfl
        have hrd := (hO.out.slw Act1.len).1.ext (((Below.refl wr.heap.size wr).alloc (Nat.le_refl _) (.cells #[.int .i64 (za).turnA, .int .i64 (za).turnB, .bool (za).loseA, .bool (za).loseB] 69 (0, 0))).drew)
        have Hba : Below w.heap.size wr ((wr.alloc (.cells #[.int .i64 (za).turnA, .int .i64 (za).turnB, .bool (za).loseA, .bool (za).loseB] 69 (0, 0))).drew) := ((Below.refl w.heap.size wr).alloc hszr _).drew
        have Hoa := Lib.hid hoa
        have Hrd := Lib.hid hrd
        have Hba := Lib.hid Hba
        clear hoa hrd
        clear hj hpj kw hget
        go_wp2_with fail
        refine region_ph 7 (fun w' => ∀ o', w'.cell? ⟨ob, o', none⟩ = wr.cell? ⟨ob, o', none⟩) (fun w' => w'.cell? ⟨p, 0, none⟩ = some (.slice (some ⟨gb, go, none⟩) acc.length gc)) (by kernel_rfl) (fun _ => rfl) d0 (fun hp => ?_)
        refine take_ph 29 (i := 0) rfl rfl (by decide) (by kernel_rfl) (by kernel_rfl) (by kernel_rfl) (fun _ _ _ h => h) (by rfl) (fun w hSw => by (try dsimp only at hSw); go_simp; first | done | with_reducible rfl) hp (fun hp => ?_)
        try simp only [Act.put, List.setIfInBounds_toArray, List.set_cons_zero, List.set_cons_succ]
        refine take_ph 30 (i := 1) rfl rfl (by decide) (by kernel_rfl) (by kernel_rfl) (by kernel_rfl) (fun _ _ _ h => h) (by rfl) (fun w hSw => by (try dsimp only at hSw); go_simp; first | done | with_reducible rfl) hp (fun hp => ?_)
        try simp only [Act.put, List.setIfInBounds_toArray, List.set_cons_zero, List.set_cons_succ]
        refine take_ph 31 (i := 2) rfl rfl (by decide) (by kernel_rfl) (by kernel_rfl) (by kernel_rfl) (fun _ _ _ h => h) (by rfl) (fun w hSw => by (try dsimp only at hSw); go_simp; first | done | with_reducible rfl) hp (fun hp => ?_)
        try simp only [Act.put, List.setIfInBounds_toArray, List.set_cons_zero, List.set_cons_succ]
        refine take_ph 32 (i := 3) rfl rfl (by decide) (by kernel_rfl) (by kernel_rfl) (by kernel_rfl) (fun _ _ _ h => h) (by rfl) (fun w hSw => by (try dsimp only at hSw); go_simp; first | done | with_reducible rfl) hp (fun hp => ?_)
        try simp only [Act.put, List.setIfInBounds_toArray, List.set_cons_zero, List.set_cons_succ]
        refine take_ph 33 (i := 4) rfl rfl (by decide) (by kernel_rfl) (by kernel_rfl) (by kernel_rfl) (fun _ _ _ h => h) (by rfl) (fun w hSw => by (try dsimp only at hSw); go_simp; first | done | with_reducible rfl) hp (fun hp => ?_)
        try simp only [Act.put, List.setIfInBounds_toArray, List.set_cons_zero, List.set_cons_succ]
        refine take_ph1 35 (i := 6) rfl rfl (by decide) (by rfl) (by kernel_rfl) (by kernel_rfl) (by kernel_rfl) (by kernel_rfl) (fun _ _ _ h => h) (by rfl) (fun w hSw hBw => by (try dsimp only at hSw hBw); go_simp; first | done | with_reducible rfl) hp (fun hp => ?_)
        try simp only [Act.put, List.setIfInBounds_toArray, List.set_cons_zero, List.set_cons_succ]
        refine AnyL.one (i := 5) (by kernel_rfl) rfl (fun K hK => ?_)
        go_simp
        refine hK.out _ _ (ph1 (fun o' => Hba.out.cell (p := ⟨ob, o', none⟩) hob) ((Hba.out.cell (p := ⟨p, 0, none⟩) hpl).trans d0)) (fun hp => ?_)
        clear hK
        try simp only [Act.put, List.setIfInBounds_toArray, List.set_cons_zero, List.set_cons_succ]
        refine AnyL.one (i := 7) (by kernel_rfl) rfl (fun K hK => ?_)
        refine step_appN (c := Act1.cells) (bytes := 24) rfl _ _ 65 69 rfl Try.underlying65 info_ActA (by omega) Act1.len Act1.one w.heap.size [za] acc (.slice (some ⟨wr.heap.size, 0, none⟩) 1 1) rfl Hoa.out _ _ gb go gc rfl Hrd.out (by simp; omega) (by simp; omega) (by simp; omega) ?_
        intro v8 w8 hown8 hg8
        obtain ⟨g1, n1, c1, rfl⟩ : ∃ g1 n1 c1, v8 = .slice g1 n1 c1 := (own_val hown8).elim fun a h => h.elim fun c h => ⟨_, _, _, h⟩
        have hb8 : Below w.heap.size wr w8 := Hba.out.grown hg8 (by simp; omega) (fun k hk => by simp [Value.ownBlock] at hk; omega)
        have hP8 := (hb8.block p hpl).trans hP.out
        have d0 : w8.cell? ⟨p, 0, none⟩ = some (.slice (some ⟨gb, go, none⟩) acc.length gc) := (Lib.cell_of_heap (w := w8) hP8 0).trans rfl
        have df : w8.frozen? ⟨p, 0, none⟩ = false := Lib.frozen_of_heap hP8 0
        have hg6 : (w8.setCell ⟨p, 0, none⟩ (.slice g1 n1 c1)).cell? ⟨ob, oo + k * 11 + 6, none⟩ = some (.int .i64 j) := by
          rw [World.cell?_setCell_other _ _ _ _ (fun e => hobp (congrArg Addr.block e).symm)]
          exact (hb8.cell (p := ⟨ob, _, none⟩) hob).trans g6
        have hP9 : (w8.setCell ⟨p, 0, none⟩ (.slice g1 n1 c1)).heap[p]? = some (.cells #[.slice g1 n1 c1] 65 (0, 0)) := by simp [World.setCell, Array.getElem?_modify, hP8]
        have hO9 := own_stay hown8 fun g hg => (Below.heap_setCell w8 ⟨p, 0, none⟩ (.slice g1 n1 c1) g (show g ≠ p from by have := (World.ownsRow.lt hown8 g hg).1; omega))
        have hM9 : Mod p (p + 1) w (w8.setCell ⟨p, 0, none⟩ (.slice g1 n1 c1)) := (show Mod p (p + 1) w w8 from ⟨hb8.os.trans hM.os, hb8.tape.trans hM.tape, hb8.output.trans hM.output, Nat.le_trans hM.size hb8.size, fun k hk ho => (hb8.block k hk).trans (hM.block k hk ho)⟩).setCell (p := ⟨p, 0, none⟩) (Nat.le_refl _) (Nat.lt_succ_self _) _
        have Hb8 := Lib.hid hb8
        have HP9 := Lib.hid hP9
        have HO9 := Lib.hid hO9
        have HM9 := Lib.hid hM9
        clear hown8 hg8 hb8 hP9 hO9 hM9 hP8 g6 g7 g8 g9 g10
        refine hK.out _ _ (ph2 rfl (fun o' => Hb8.out.cell (p := ⟨ob, o', none⟩) hob)) (fun hp => ?_)
        clear hK
        simp only [Act.put, List.setIfInBounds_toArray]
        refine AnyL.one (i := 8) (by kernel_rfl) rfl (fun K hK => ?_)
        go_simp
        refine hK.out _ _ (ph2 rfl (fun o' => ?_)) (fun hp => ?_)
        · rw [World.cell?_setCell_other _ _ _ _ (fun e => hobp (congrArg Addr.block e).symm)]
          exact Hb8.out.cell (p := ⟨ob, o', none⟩) hob
        clear hK
        refine AnyL.done (by kernel_rfl) ?_ _
        generalize w8.setCell ⟨p, 0, none⟩ (.slice g1 n1 c1) = w9 at *
        go_wp2_with fail
        go_roundw
        case rel => exact ⟨j, za :: acc, p'', _, rfl, Hpj, Heq, by simp, HP9, HO9, HM9.out⟩
        case measure => simp [intOf]; omega
end Go.Proofs.Yteakogdojmgehaa
