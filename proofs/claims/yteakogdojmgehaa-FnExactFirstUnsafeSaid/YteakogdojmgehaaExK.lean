/- ExploreWorlds, the program: what it does at each act. -/
import Derived.Test.YteakogdojmgehaaExJ
import Derived.Test.YteakogdojmgehaaExU
import Derived.Test.YteakogdojmgehaaPh
import Derived.Handy
namespace Go.Proofs.Yteakogdojmgehaa
open Go.RowKit
theorem callFunc_enter {P : Program} {f : FuncId} {fn : Func} {c : Code} (hf : P.funcs[f]? = some fn) (hname : (fn.name == "runtime.NumGoroutine") = false) (hb : fn.body = some c) (args : Array Value) (w : World) :
    (callFunc f args).run P w = .ok (.enter f args) w := by
  have h1 : fn.name ≠ "runtime.NumGoroutine" := by simpa using hname
  simp [callFunc, hf, h1, hb]
section
variable {P : Program} {ops : Array Oper} {Q : Exit → Act → World → Prop} {md : Region.Mode}
theorem take_phv {k : Nat} {S B : World → Prop} (d : Tmp) {i : Nat} {oi : Oper} {fuel : Nat} {listed : Array Bool} {a : Act} {w : World} (hi : ops[i]? = some oi) (hd : oi.dst = some d) (hik : i ≠ k)
    (hs : Region.noSelect ops = true) (hf : Region.free md ops listed i = true) (hr : (Region.ready md ops listed).contains i = true)
    (hQ : ∀ c a w, Q (.panic c) (a.put (some d) undef) w → Q (.panic c) a w) (hw : Region.wanted oi (yielded ops a.tmps) = false) (hp : Ph k S B listed w)
    (h : Ph k S B (listed.setIfInBounds i true) w → AnyL P md ops Q (Ph k S B) fuel (listed.setIfInBounds i true) (a.put (some d) undef) w) : AnyL P md ops Q (Ph k S B) (fuel + 1) listed a w :=
  AnyL.first (T := S) (I := fun _ => True) hi (Region.noSelect_spec hs) (by rw [hd]; exact hQ) (fun _ _ _ _ _ _ _ => trivial)
    (fun l w _ hp => hp.1) (fun l w => ph_set hik S B l w)
    fuel listed a w trivial (Region.free_spec hi hf) (by simpa using hr) (Or.inr ⟨hw, rfl⟩) hp (by rw [hd]; exact h ((ph_set hik S B listed w).2 hp))
end
set_option maxRecDepth 100000 in
set_option maxHeartbeats 8000000 in
theorem impl_do1 (av : Value) (Lk : List Vis) (i : Nat) (y : Wld) (z : Act1) (p q : Nat) (bad : Bool) (tv : Value) (rows : List SV) (T : Tab) (lo hi lo2 hi2 : Nat) (w : World) (hr : Sl 11 Vis.cells lo2 hi2 w av Lk) (hi2 : i < Lk.length) (hy : Lk[i].w = y) (hin : y.in_) (hz : Trn z.turnA ∧ Trn z.turnB)
    (hTab : TabR lo hi w tv rows T) (hT : TabOk T) (hp : w.heap[p]? = some (.cells #[.bool bad] 4 (0, 0))) (hq : w.heap[q]? = some (.cells #[tv] 44 (0, 0))) (hpq : p ≠ q) (hplo : p < lo2) :
    Calls Try.prog 80 #[av, .int .i64 i, .agg z.cells.toArray, .pointer (some ⟨p, 0, none⟩), .pointer (some ⟨q, 0, none⟩)] w fun e w' => e = .returned (.bool true) ∧ Mod p (p + 1) w w' ∧ w'.heap[p]? = some (.cells #[.bool (bad || unsafeB T y z)] 4 (0, 0)) := by
  have hun := fun w' (hb : Below w.heap.size w w') => impl_unsafe tv rows T lo hi y z w' (hTab.ext hb) hT hin hz.1 hz.2
  have hlr := Lib.hid hr
  obtain ⟨⟨ta, tc, rfl, -, -⟩, -, -⟩ := hTab
  generalize rows.length = tn at *
  obtain ⟨oa, oc, rfl, -, -⟩ := hr
  obtain ⟨ob, oo, rfl⟩ := Sl.addr hlr.out (by omega)
  have hobp : ob ≠ p := by
    obtain ⟨_, _, hv, _, hh⟩ := hlr.out
    obtain ⟨b', o', he, hl1, _⟩ := hh (by omega)
    cases hv
    cases he
    omega
  obtain ⟨p0, p1, p2, p3, p4, p5⟩ := Vis.at hlr.out.get hi2
  rw [hy] at p0 p1 p2 p3 p4 p5
  have hob := World.block_lt_of_cell? w _ p0
  have c0 : w.cell? ⟨p, 0, none⟩ = some (.bool bad) := (Lib.cell_of_heap hp 0).trans rfl
  have cf : w.frozen? ⟨p, 0, none⟩ = false := Lib.frozen_of_heap hp 0
  have t0 : w.cell? ⟨q, 0, none⟩ = some (.slice ta tn tc) := (Lib.cell_of_heap hq 0).trans rfl
  have hpl := World.block_lt_of_cell? w _ c0
  have hql := World.block_lt_of_cell? w _ t0
  have Hp := Lib.hid hp
  have Hq := Lib.hid hq
  simp only [Wld.cells, Act1.cells] at *
  have HU := Lib.hid hun
  clear hun hp hq hy hlr hin hz
  have hx := blk_new w (.cells #[.int .i64 (z).turnA, .int .i64 (z).turnB, .bool (z).loseA, .bool (z).loseB] 69 (0, 0))
  have x0 : (w.alloc (.cells #[.int .i64 (z).turnA, .int .i64 (z).turnB, .bool (z).loseA, .bool (z).loseB] 69 (0, 0))).cell? ⟨w.heap.size, 0, none⟩ = some (.int .i64 z.turnA) := (Lib.cell_of_heap hx 0).trans rfl
  have x1 : (w.alloc (.cells #[.int .i64 (z).turnA, .int .i64 (z).turnB, .bool (z).loseA, .bool (z).loseB] 69 (0, 0))).cell? ⟨w.heap.size, 1, none⟩ = some (.int .i64 z.turnB) := (Lib.cell_of_heap hx 1).trans rfl
  have x2 : (w.alloc (.cells #[.int .i64 (z).turnA, .int .i64 (z).turnB, .bool (z).loseA, .bool (z).loseB] 69 (0, 0))).cell? ⟨w.heap.size, 2, none⟩ = some (.bool z.loseA) := (Lib.cell_of_heap hx 2).trans rfl
  have x3 : (w.alloc (.cells #[.int .i64 (z).turnA, .int .i64 (z).turnB, .bool (z).loseA, .bool (z).loseB] 69 (0, 0))).cell? ⟨w.heap.size, 3, none⟩ = some (.bool z.loseB) := (Lib.cell_of_heap hx 3).trans rfl
  have hba : Below w.heap.size w (w.alloc (.cells #[.int .i64 (z).turnA, .int .i64 (z).turnB, .bool (z).loseA, .bool (z).loseB] 69 (0, 0))) := (Below.refl _ _).alloc (Nat.le_refl _) _
  have Hba := Lib.hid hba
  obtain ⟨h1, h2⟩ := bcell hba
  have d0 := (h1 p 0 hpl).trans c0
  have df := (h2 p 0 hpl).trans cf
  have e0 := (h1 q 0 hql).trans t0
  have r0 := (h1 ob _ hob).trans p0
  have r1 := (h1 ob _ hob).trans p1
  have r2 := (h1 ob _ hob).trans p2
  have r3 := (h1 ob _ hob).trans p3
  have r4 := (h1 ob _ hob).trans p4
  have r5 := (h1 ob _ hob).trans p5
  have hda := (hba.block p hpl).trans Hp.out
  have Hda := Lib.hid hda
  clear h1 h2 c0 cf t0 p0 p1 p2 p3 p4 p5 hx hba hda
  go_enter Try.func80, Try.ntmps80
  go_wp2_with fail
  obtain ⟨W1, hW1⟩ : ∃ W1, w.alloc (.cells #[.int .i64 (z).turnA, .int .i64 (z).turnB, .bool (z).loseA, .bool (z).loseB] 69 (0, 0)) = W1 := ⟨_, rfl⟩
  rw [hW1] at x0 x1 x2 x3 d0 df e0 r0 r1 r2 r3 r4 r5 Hba Hda ⊢
  have hs1 : W1.heap.size = w.heap.size + 1 := by rw [← hW1]; simp
  clear hW1
  cases bad with
  | true =>
    refine region_ph 11 (fun _ => True) (fun w' => w'.cell? ⟨p, 0, none⟩ = some (.bool true)) (by kernel_rfl) trivial d0 (fun hp => ?_)
    refine take_ph1 9 (i := 0) rfl rfl (by decide) (by rfl) (by kernel_rfl) (by kernel_rfl) (by kernel_rfl) (by kernel_rfl) (fun _ _ _ h => h) (by rfl) (fun w hSw hBw => by (try dsimp only at hSw hBw); go_simp; first | done | with_reducible rfl) hp (fun hp => ?_)
    try simp only [Act.put, List.setIfInBounds_toArray, List.set_cons_zero, List.set_cons_succ]
    refine take_ph 10 (i := 1) rfl rfl (by decide) (by kernel_rfl) (by kernel_rfl) (by kernel_rfl) (fun _ _ _ h => h) (by rfl) (fun w hSw => by (try dsimp only at hSw); go_simp; first | done | with_reducible rfl) hp (fun hp => ?_)
    try simp only [Act.put, List.setIfInBounds_toArray, List.set_cons_zero, List.set_cons_succ]
    refine take_phv 11 (i := 2) rfl rfl (by decide) (by kernel_rfl) (by kernel_rfl) (by kernel_rfl) (fun _ _ _ h => h) (by rfl) hp (fun hp => ?_)
    try simp only [Act.put, List.setIfInBounds_toArray, List.set_cons_zero, List.set_cons_succ]
    refine take_phv 12 (i := 3) rfl rfl (by decide) (by kernel_rfl) (by kernel_rfl) (by kernel_rfl) (fun _ _ _ h => h) (by rfl) hp (fun hp => ?_)
    try simp only [Act.put, List.setIfInBounds_toArray, List.set_cons_zero, List.set_cons_succ]
    refine take_phv 13 (i := 4) rfl rfl (by decide) (by kernel_rfl) (by kernel_rfl) (by kernel_rfl) (fun _ _ _ h => h) (by rfl) hp (fun hp => ?_)
    try simp only [Act.put, List.setIfInBounds_toArray, List.set_cons_zero, List.set_cons_succ]
    refine take_phv 14 (i := 5) rfl rfl (by decide) (by kernel_rfl) (by kernel_rfl) (by kernel_rfl) (fun _ _ _ h => h) (by rfl) hp (fun hp => ?_)
    try simp only [Act.put, List.setIfInBounds_toArray, List.set_cons_zero, List.set_cons_succ]
    refine take_phv 15 (i := 6) rfl rfl (by decide) (by kernel_rfl) (by kernel_rfl) (by kernel_rfl) (fun _ _ _ h => h) (by rfl) hp (fun hp => ?_)
    try simp only [Act.put, List.setIfInBounds_toArray, List.set_cons_zero, List.set_cons_succ]
    refine take_phv 16 (i := 7) rfl rfl (by decide) (by kernel_rfl) (by kernel_rfl) (by kernel_rfl) (fun _ _ _ h => h) (by rfl) hp (fun hp => ?_)
    try simp only [Act.put, List.setIfInBounds_toArray, List.set_cons_zero, List.set_cons_succ]
    refine take_phv 17 (i := 8) rfl rfl (by decide) (by kernel_rfl) (by kernel_rfl) (by kernel_rfl) (fun _ _ _ h => h) (by rfl) hp (fun hp => ?_)
    try simp only [Act.put, List.setIfInBounds_toArray, List.set_cons_zero, List.set_cons_succ]
    refine take_phv 18 (i := 9) rfl rfl (by decide) (by kernel_rfl) (by kernel_rfl) (by kernel_rfl) (fun _ _ _ h => h) (by rfl) hp (fun hp => ?_)
    try simp only [Act.put, List.setIfInBounds_toArray, List.set_cons_zero, List.set_cons_succ]
    refine take_ph 19 (i := 10) rfl rfl (by decide) (by kernel_rfl) (by kernel_rfl) (by kernel_rfl) (fun _ _ _ h => h) (by rfl) (fun w hSw => by (try dsimp only at hSw); go_simp; first | done | with_reducible rfl) hp (fun hp => ?_)
    try simp only [Act.put, List.setIfInBounds_toArray, List.set_cons_zero, List.set_cons_succ]
    refine AnyL.one (i := 11) (by kernel_rfl) rfl (fun K hK => ?_)
    go_simp
    refine hK.out _ _ (ph2 rfl trivial) (fun hp => ?_)
    clear hK
    refine AnyL.done (by kernel_rfl) ?_ _
    go_wp2
    go_ret
    refine ⟨rfl, ((Mod.of_below Hba.out).drewN 1).setCell (p := ⟨p, 0, none⟩) (Nat.le_refl _) (Nat.lt_succ_self _) _, ?_⟩
    rw [Bool.true_or]
    show (W1.setCell ⟨p, 0, none⟩ (.bool true)).heap[p]? = _
    simp [World.setCell, Array.getElem?_modify, Hda.out]
  | false =>
    have hqp : q ≠ p := fun e => hpq e.symm
    have hwp : w.heap.size ≠ p := by omega
    have hq1 : q < W1.heap.size := by omega
    have hw1 : w.heap.size < W1.heap.size := by omega
    have ho1 : ob < W1.heap.size := by omega
    have hpl1 : p < W1.heap.size := by omega
    refine region_ph 11 (fun w' => ∀ b' o', b' ≠ p → b' < W1.heap.size → w'.cell? ⟨b', o', none⟩ = W1.cell? ⟨b', o', none⟩) (fun w' => w'.cell? ⟨p, 0, none⟩ = some (.bool false)) (by kernel_rfl) (fun _ _ _ _ => rfl) d0 (fun hp => ?_)
    refine take_ph1 9 (i := 0) rfl rfl (by decide) (by rfl) (by kernel_rfl) (by kernel_rfl) (by kernel_rfl) (by kernel_rfl) (fun _ _ _ h => h) (by rfl) (fun w hSw hBw => by (try dsimp only at hSw hBw); go_simp; first | done | with_reducible rfl) hp (fun hp => ?_)
    try simp only [Act.put, List.setIfInBounds_toArray, List.set_cons_zero, List.set_cons_succ]
    refine take_ph 10 (i := 1) rfl rfl (by decide) (by kernel_rfl) (by kernel_rfl) (by kernel_rfl) (fun _ _ _ h => h) (by rfl) (fun w hSw => by (try dsimp only at hSw); go_simp; first | done | with_reducible rfl) hp (fun hp => ?_)
    try simp only [Act.put, List.setIfInBounds_toArray, List.set_cons_zero, List.set_cons_succ]
    refine take_ph 11 (i := 2) rfl rfl (by decide) (by kernel_rfl) (by kernel_rfl) (by kernel_rfl) (fun _ _ _ h => h) (by rfl) (fun w hSw => by (try dsimp only at hSw); go_simp; first | done | with_reducible rfl) hp (fun hp => ?_)
    try simp only [Act.put, List.setIfInBounds_toArray, List.set_cons_zero, List.set_cons_succ]
    refine take_ph 12 (i := 3) rfl rfl (by decide) (by kernel_rfl) (by kernel_rfl) (by kernel_rfl) (fun _ _ _ h => h) (by rfl) (fun w hSw => by (try dsimp only at hSw); go_simp; first | done | with_reducible rfl) hp (fun hp => ?_)
    try simp only [Act.put, List.setIfInBounds_toArray, List.set_cons_zero, List.set_cons_succ]
    refine take_ph 13 (i := 4) rfl rfl (by decide) (by kernel_rfl) (by kernel_rfl) (by kernel_rfl) (fun _ _ _ h => h) (by rfl) (fun w hSw => by (try dsimp only at hSw); go_simp; first | done | with_reducible rfl) hp (fun hp => ?_)
    try simp only [Act.put, List.setIfInBounds_toArray, List.set_cons_zero, List.set_cons_succ]
    refine take_ph 14 (i := 5) rfl rfl (by decide) (by kernel_rfl) (by kernel_rfl) (by kernel_rfl) (fun _ _ _ h => h) (by rfl) (fun w hSw => by (try dsimp only at hSw); go_simp; first | done | with_reducible rfl) hp (fun hp => ?_)
    try simp only [Act.put, List.setIfInBounds_toArray, List.set_cons_zero, List.set_cons_succ]
    refine take_ph 15 (i := 6) rfl rfl (by decide) (by kernel_rfl) (by kernel_rfl) (by kernel_rfl) (fun _ _ _ h => h) (by rfl) (fun w hSw => by (try dsimp only at hSw); go_simp; first | done | with_reducible rfl) hp (fun hp => ?_)
    try simp only [Act.put, List.setIfInBounds_toArray, List.set_cons_zero, List.set_cons_succ]
    refine take_ph 16 (i := 7) rfl rfl (by decide) (by kernel_rfl) (by kernel_rfl) (by kernel_rfl) (fun _ _ _ h => h) (by rfl) (fun w hSw => by (try dsimp only at hSw); go_simp; first | done | with_reducible rfl) hp (fun hp => ?_)
    try simp only [Act.put, List.setIfInBounds_toArray, List.set_cons_zero, List.set_cons_succ]
    refine take_ph 17 (i := 8) rfl rfl (by decide) (by kernel_rfl) (by kernel_rfl) (by kernel_rfl) (fun _ _ _ h => h) (by rfl) (fun w hSw => by (try dsimp only at hSw); go_simp; first | done | with_reducible rfl) hp (fun hp => ?_)
    try simp only [Act.put, List.setIfInBounds_toArray, List.set_cons_zero, List.set_cons_succ]
    refine AnyL.one (i := 9) (by kernel_rfl) rfl (fun K hK => ?_)
    go_simp
    refine (HU.out _ Hba.out.drew).mono ?_
    rintro e w3 ⟨rfl, hb3⟩
    have b3 : Below W1.heap.size W1 w3 := (Below.refl _ _).drew.trans hb3
    refine hK.out _ _ (ph1 (fun b' o' _ h2 => b3.cell (p := ⟨b', o', none⟩) h2) ((b3.cell (p := ⟨p, 0, none⟩) hpl1).trans d0)) (fun hp => ?_)
    clear hK
    try simp only [Act.put, List.setIfInBounds_toArray, List.set_cons_zero, List.set_cons_succ]
    have m0 := (b3.cell (p := ⟨p, 0, none⟩) hpl1).trans d0
    have mf := (b3.frozen (p := ⟨p, 0, none⟩) hpl1).trans df
    have hd3 := (b3.block p hpl1).trans Hda.out
    have HR := Lib.hid (And.intro (Hba.out.trans (b3.mono (by omega))) hd3)
    have S3 := Lib.hid (fun b' o' (h1 : b' ≠ p) (h2 : b' < W1.heap.size) => b3.cell (p := ⟨b', o', none⟩) h2)
    clear hd3
    refine take_ph 19 (i := 10) rfl rfl (by decide) (by kernel_rfl) (by kernel_rfl) (by kernel_rfl) (fun _ _ _ h => h) (by rfl) (fun w hSw => by (try dsimp only at hSw); go_simp; first | done | with_reducible rfl) hp (fun hp => ?_)
    try simp only [Act.put, List.setIfInBounds_toArray, List.set_cons_zero, List.set_cons_succ]
    refine AnyL.one (i := 11) (by kernel_rfl) rfl (fun K hK => ?_)
    go_simp
    refine hK.out _ _ (ph2 rfl (fun b' o' h1 h2 => ?_)) (fun hp => ?_)
    · rw [World.cell?_setCell_other _ _ _ _ (fun e => h1 (congrArg Addr.block e).symm)]
      exact S3.out b' o' h1 h2
    clear hK
    refine AnyL.done (by kernel_rfl) ?_ _
    go_wp2
    go_ret
    refine ⟨rfl, (Mod.of_below HR.out.1).setCell (p := ⟨p, 0, none⟩) (Nat.le_refl _) (Nat.lt_succ_self _) _, ?_⟩
    rw [Bool.false_or]
    have h3 := HR.out.2
    simp [World.setCell, Array.getElem?_modify, h3]
end Go.Proofs.Yteakogdojmgehaa
