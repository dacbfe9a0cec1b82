/- The program's explorer, whatever it does at each act. ExploreWorlds, the program: what it does at each act. ExploreWorlds, the program. FirstUnsafe, the program: what it does at each act. FirstUnsafe, the program. -/
import Derived.Test.YtmkhapgkiecmaaaExM
import Derived.Test.YtmkhapgkiecmaaaExB
import Derived.Test.YtmkhapgkiecmaaaRunM
import Derived.Handy
import Derived.Test.YtmkhapgkiecmaaaExU
import Derived.Test.YtmkhapgkiecmaaaPh
import Derived.Test.YtmkhapgkiecmaaaExG
import Derived.Test.YtmkhapgkiecmaaaTabG
import Derived.Lib.SliceRun
namespace Go.Proofs.Ytmkhapgkiecmaaa
open Go.RowKit
open Go.RowKit Go.Maps Go.WideMaps
def Vis.cells (x : Vis) : List Value := [.int .i64 x.w.a, .int .i64 x.w.b, .int .i64 x.w.seenA, .int .i64 x.w.seenB, .int .i64 x.w.ageA, .int .i64 x.w.ageB, .int .i64 x.from_, .int .i64 x.act.turnA, .int .i64 x.act.turnB, .bool x.act.loseA, .bool x.act.loseB]
theorem Vis.len (x : Vis) : x.cells.length = 11 := rfl
theorem Vis.one (x : Vis) : ∀ u ∈ x.cells, u.oneCell' = true := by
  intro u hu
  simp [Vis.cells] at hu
  rcases hu with rfl | rfl | rfl | rfl | rfl | rfl | rfl | rfl | rfl | rfl | rfl <;> rfl
theorem info_Vis : (Try.prog.info? 97).map (fun i => (i.zero.map (·.cells.size), i.size, i.bytes)) = some (some 11, 11, 80) := by kernel_rfl
theorem Vis.at {w : World} {b off : Nat} {l : List Vis} (hc : ∀ i (h : i < l.length) j u, (Vis.cells l[i])[j]? = some u → w.cell? ⟨b, off + i * 11 + j, none⟩ = some u) {k : Nat} (hk : k < l.length) :
    w.cell? ⟨b, off + k * 11, none⟩ = some (.int .i64 l[k].w.a) ∧ w.cell? ⟨b, off + k * 11 + 1, none⟩ = some (.int .i64 l[k].w.b) ∧ w.cell? ⟨b, off + k * 11 + 2, none⟩ = some (.int .i64 l[k].w.seenA) ∧ w.cell? ⟨b, off + k * 11 + 3, none⟩ = some (.int .i64 l[k].w.seenB) ∧ w.cell? ⟨b, off + k * 11 + 4, none⟩ = some (.int .i64 l[k].w.ageA) ∧ w.cell? ⟨b, off + k * 11 + 5, none⟩ = some (.int .i64 l[k].w.ageB) :=
  ⟨hc k hk 0 _ rfl, hc k hk 1 _ rfl, hc k hk 2 _ rfl, hc k hk 3 _ rfl, hc k hk 4 _ rfl, hc k hk 5 _ rfl⟩
theorem SeenW.same {b : Nat} {l : List Wld} {w w' : World} (h : SeenW b l w) (he : w'.heap[b]? = w.heap[b]?) : SeenW b l w' := by
  obtain ⟨D, ⟨es, clock, e1, e2, e3, e4⟩, h2⟩ := h
  exact ⟨D, ⟨es, clock, he.trans e1, e2, e3, e4⟩, h2⟩
theorem Own.mapNe {α : Type} {n : Nat} {c : α → List Value} {lo g b : Nat} {e : TypeId} {w : World} {v : Value} {l : List α} {m : List Wld} (h : Own n c lo e w v l) (hg : v.ownBlock = some g) (hm : SeenW b m w) : g ≠ b := by
  obtain ⟨D, ⟨es, clock, e1, -⟩, -⟩ := hm
  obtain ⟨h1, h2⟩ := h
  rcases h2 with ⟨rfl, -⟩ | ⟨g', cap, cur, rfl, hb, hgg, -⟩
  · simp [Value.ownBlock] at hg
  · simp [Value.ownBlock] at hg
    subst hg
    intro e0
    subst e0
    rw [hgg] at e1
    cases e1
theorem wpList_seenW_ins {w : World} {ops : Array Oper} {rest : List Oper} {o : Oper} {a : Act} {Q : Exit → Act → World → Prop} (hg : o.guard = none) (m x v : Operand) (hop : o.op = Op.insert 126 m x v)
    (b : Nat) (l : List Wld) (hm : a.eval m = .map (some b)) (h : SeenW b l w) (hl : l.length < maxLen)
    (y : Wld) (hy : y.in_) (hx : a.eval x = .agg y.cells.toArray) (hv : a.eval v = .bool true)
    (hK : ∀ w', SeenW b (l ++ [y]) w' → w.grownBy w' (some b) → wpList Try.prog ops Q rest (a.put o.dst undef) w') : wpList Try.prog ops Q (o :: rest) a w := by
  obtain ⟨D, h1, h2, h3⟩ := h
  refine wpList_plain hg fun K' hK' => ?_
  obtain ⟨w', hrun, r1, r2⟩ := h1.update world_keyed Try.underlying126 hl (key_lit hy) (plainElem_bool Try.underlying4 true)
  unfold Oper.wp
  simp [execOp, hop, hm, hx, hv, hrun, Result.andThen]
  exact hK' _ _ (hK w' (SeenW.put hy h2 h3 r1) r2)
/-- How exploring ends: all is done, or the function has said no. -/
def ExplOut (T : Tab) (v : Wtc) (x : Wld) (p : Nat) (J : Nat → Nat → World → Prop) (F : World → Prop) (w : World) (e : Ending) (w' : World) : Prop :=
  Mod p (p + 1) w w' ∧ ((∃ n a c, DoneV T v x n ∧ e = .returned (.slice a n c) ∧ J n 0 w') ∨ (∃ av, e = .returned av ∧ F w'))
set_option maxRecDepth 100000 in
set_option maxHeartbeats 16000000 in
theorem impl_explore (g : FuncId) (q1 q2 p : Nat) (J : Nat → Nat → World → Prop) (F : World → Prop) (tv : Value) (rows : List SV) (T : Tab) (lo hi : Nat) (v : Wtc) (x : Wld) (w : World) (h : TabR lo hi w tv rows T) (hT : TabOk T) (hx : x.ok v) (hhi : hi ≤ p) (hp : p < w.heap.size)
    (hgc : ∀ (args : Array Value) (w : World), (callFunc g args).run Try.prog w = .ok (.enter g args) w)
    (hJ0 : J 0 0 w) (hJb : ∀ i j a b, J i j a → Below w.heap.size a b → J i j b) (hJn : ∀ i a (_ : i < (bfs T v x i).length), J i (actsW T v (bfs T v x i)[i].w).length a → J (i + 1) 0 a)
    (hdo : ∀ i j (_ : i < (bfs T v x i).length) (_ : j < (actsW T v (bfs T v x i)[i].w).length) (a : World) (av : Value), w.heap.size ≤ a.heap.size → J i j a → Sl 11 Vis.cells w.heap.size a.heap.size a av (foldV (bfs T v x i)[i].w i (bfs T v x i) ((actsW T v (bfs T v x i)[i].w).take j)) →
      Calls Try.prog g #[av, .int .i64 i, .agg ((actsW T v (bfs T v x i)[i].w)[j]).cells.toArray, .pointer (some ⟨q1, 0, none⟩), .pointer (some ⟨q2, 0, none⟩)] a fun e b => Mod p (p + 1) a b ∧ ((e = .returned (.bool true) ∧ J i (j + 1) b) ∨ (e = .returned (.bool false) ∧ F b))) :
    Calls Try.prog 75 #[tv, .agg v.cells.toArray, .agg x.cells.toArray, .func (.func g) #[] #[.pointer (some ⟨q1, 0, none⟩), .pointer (some ⟨q2, 0, none⟩)]] w (ExplOut T v x p J F w) := by
  have HJ0 := Lib.hid hJ0
  have HJb := Lib.hid hJb
  have HJn := Lib.hid hJn
  have HDo := Lib.hid hdo
  have HT := Lib.hid hT
  have H := Lib.hid h
  have Hx := Lib.hid hx
  obtain ⟨⟨ta, tc, rfl, -, -⟩, -, -⟩ := h
  generalize htn : rows.length = tn at *
  clear htn hJ0 hJb hJn hdo hT hx
  simp only [Wtc.cells, Wld.cells]
  have hmm := @run_makeMap Try.prog
  go_enter Try.func75, Try.ntmps75
  have hM0 := SeenW.made (((w.alloc (.cells #[.int .i64 v.margin, .int .i64 v.lost] 49 (0, 0))).alloc (.cells #[.int .i64 (x).a, .int .i64 (x).b, .int .i64 (x).seenA, .int .i64 (x).seenB, .int .i64 (x).ageA, .int .i64 (x).ageB] 51 (0, 0))).alloc (.cells #[.int .i64 x.a, .int .i64 x.b, .int .i64 x.seenA, .int .i64 x.seenB, .int .i64 x.ageA, .int .i64 x.ageB, .int .i64 (-1), .int .i64 0, .int .i64 0, .bool false, .bool false] 97 (0, 0)))
  have hO0 : Own 11 Vis.cells w.heap.size 97 (((w.alloc (.cells #[.int .i64 v.margin, .int .i64 v.lost] 49 (0, 0))).alloc (.cells #[.int .i64 (x).a, .int .i64 (x).b, .int .i64 (x).seenA, .int .i64 (x).seenB, .int .i64 (x).ageA, .int .i64 (x).ageB] 51 (0, 0))).alloc (.cells #[.int .i64 x.a, .int .i64 x.b, .int .i64 x.seenA, .int .i64 x.seenB, .int .i64 x.ageA, .int .i64 x.ageB, .int .i64 (-1), .int .i64 0, .int .i64 0, .bool false, .bool false] 97 (0, 0))) _ [⟨x, -1, zeroA⟩] := World.ownsRow_lit ((w.alloc (.cells #[.int .i64 v.margin, .int .i64 v.lost] 49 (0, 0))).alloc (.cells #[.int .i64 (x).a, .int .i64 (x).b, .int .i64 (x).seenA, .int .i64 (x).seenB, .int .i64 (x).ageA, .int .i64 (x).ageB] 51 (0, 0))) #[.int .i64 x.a, .int .i64 x.b, .int .i64 x.seenA, .int .i64 x.seenB, .int .i64 x.ageA, .int .i64 x.ageB, .int .i64 (-1), .int .i64 0, .int .i64 0, .bool false, .bool false] 1 (by simp; omega) (by unfold maxLen; omega) rfl
  have hV0 : (((w.alloc (.cells #[.int .i64 v.margin, .int .i64 v.lost] 49 (0, 0))).alloc (.cells #[.int .i64 (x).a, .int .i64 (x).b, .int .i64 (x).seenA, .int .i64 (x).seenB, .int .i64 (x).ageA, .int .i64 (x).ageB] 51 (0, 0))).alloc (.cells #[.int .i64 x.a, .int .i64 x.b, .int .i64 x.seenA, .int .i64 x.seenB, .int .i64 x.ageA, .int .i64 x.ageB, .int .i64 (-1), .int .i64 0, .int .i64 0, .bool false, .bool false] 97 (0, 0))).heap[w.heap.size]? = some (.cells #[.int .i64 v.margin, .int .i64 v.lost] 49 (0, 0)) := blk_below' ((Below.refl _ _).alloc (Nat.le_refl _) _) (blk_below' ((Below.refl _ _).alloc (Nat.le_refl _) _) (blk_new w (.cells #[.int .i64 v.margin, .int .i64 v.lost] 49 (0, 0))))
  have hB0 : Below w.heap.size w (((w.alloc (.cells #[.int .i64 v.margin, .int .i64 v.lost] 49 (0, 0))).alloc (.cells #[.int .i64 (x).a, .int .i64 (x).b, .int .i64 (x).seenA, .int .i64 (x).seenB, .int .i64 (x).ageA, .int .i64 (x).ageB] 51 (0, 0))).alloc (.cells #[.int .i64 x.a, .int .i64 x.b, .int .i64 x.seenA, .int .i64 x.seenB, .int .i64 x.ageA, .int .i64 x.ageB, .int .i64 (-1), .int .i64 0, .int .i64 0, .bool false, .bool false] 97 (0, 0))) := (((Below.refl _ _).alloc (Nat.le_refl _) _).alloc (by simp) _).alloc (by simp; omega) _
  have hs0 : (((w.alloc (.cells #[.int .i64 v.margin, .int .i64 v.lost] 49 (0, 0))).alloc (.cells #[.int .i64 (x).a, .int .i64 (x).b, .int .i64 (x).seenA, .int .i64 (x).seenB, .int .i64 (x).ageA, .int .i64 (x).ageB] 51 (0, 0))).alloc (.cells #[.int .i64 x.a, .int .i64 x.b, .int .i64 x.seenA, .int .i64 x.seenB, .int .i64 x.ageA, .int .i64 x.ageB, .int .i64 (-1), .int .i64 0, .int .i64 0, .bool false, .bool false] 97 (0, 0))).heap.size = w.heap.size + 1 + 1 + 1 := by simp only [World.size_alloc]
  simp only [World.size_alloc] at hM0 hO0
  have hO0 := Lib.hid hO0
  have hV0 := Lib.hid hV0
  have hB0 := Lib.hid hB0
  have hs0 := Lib.hid hs0
  have hM0 := Lib.hid hM0
  go_wp2_with (first | (refine wpList_seenW_ins rfl _ _ _ rfl _ [] rfl hM0.out (by unfold maxLen; simp) x Hx.out.in_ rfl rfl ?_; intro w5 hM5 hg5))
  have hO5 : Own 11 Vis.cells w.heap.size 97 w5 _ [⟨x, -1, zeroA⟩] := own_stay hO0.out fun g hg => (hg5.block g (by have := (World.ownsRow.lt hO0.out g hg).2; simp; omega) (by simp [Value.ownBlock] at hg; simp; omega)).trans (((Below.refl _ _).alloc (Nat.le_refl _) _).block g (World.ownsRow.lt hO0.out g hg).2)
  have hV5 : w5.heap[w.heap.size]? = some (.cells #[.int .i64 v.margin, .int .i64 v.lost] 49 (0, 0)) := (hg5.block _ (by simp; omega) (by simp; omega)).trans (((Below.refl _ _).alloc (Nat.le_refl _) _).block _ (by rw [hs0.out]; omega) |>.trans hV0.out)
  have hB5 : Below w.heap.size w w5 := (hB0.out.alloc (by rw [hs0.out]; omega) _).grown hg5 (by simp; omega) (fun k hk => by cases hk; omega)
  have hO5 := Lib.hid hO5
  have hV5 := Lib.hid hV5
  have hM5 := Lib.hid (show SeenW (w.heap.size + 1 + 1 + 1) (worldsV (bfs T v x 0)) w5 from hM5)
  have hJ5 := Lib.hid (HJb.out _ _ _ _ HJ0.out hB5)
  clear hM0 hO0 hV0 hB0 hs0 hg5 hmm HJ0
  go_loopw [9, 11] (fun o io wr => ∃ i : Nat, io = .int .i64 i ∧ i ≤ (bfs T v x i).length ∧ Hid (Own 11 Vis.cells w.heap.size 97 wr o (bfs T v x i)) ∧ Hid (SeenW (w.heap.size + 1 + 1 + 1) (worldsV (bfs T v x i)) wr) ∧ Mod p (p + 1) w wr ∧ Hid (wr.heap[w.heap.size]? = some (.cells #[.int .i64 v.margin, .int .i64 v.lost] 49 (0, 0))) ∧ Hid (J i 0 wr)) (fun _ io _ => 20737 - (intOf io).toNat)
  case atStart => exact ⟨0, rfl, Nat.zero_le _, hO5, hM5, Mod.of_below hB5, hV5, hJ5⟩
  case round =>
    clear hO5 hM5 hV5 hJ5 hB5
    obtain ⟨wo, hwo⟩ : ∃ wo, wo = wr := ⟨wr, rfl⟩
    subst hwo
    obtain ⟨i, rfl, hle, hown, hseen, hM, hV, hJ⟩ := hrel
    have hl20 := (bfs_ok (T := T) Hx.out i).len
    have hsz := hM.size
    by_cases hlt : i < (bfs T v x i).length
    · have Hgo := Lib.hid (bfs_go hlt)
      have hok := (bfs_ok (T := T) Hx.out i).ok i hlt
      have Hvo := Lib.hid (bfs_ok (T := T) Hx.out i)
      have Hpre := Lib.hid (fun (ys : List Act1) => foldV_pre (bfs T v x i)[i].w i ys (bfs T v x i))
      have HJn2 := Lib.hid (fun a => HJn.out i a hlt)
      have HDo2 := Lib.hid (fun j hj => HDo.out i j hlt hj)
      obtain ⟨oa, oc, rfl⟩ := own_val hown.out
      obtain ⟨ob, oo, rfl⟩ := Sl.addr (hown.out.slw Vis.len).1 (by omega)
      obtain ⟨p0, p1, p2, p3, p4, p5⟩ := Vis.at (hown.out.slw Vis.len).1.get hlt
      have hob := World.block_lt_of_cell? wo _ p0
      have hTr := Lib.hid (H.out.keep (hM.same (Nat.le_trans hhi (Nat.le_of_lt hp)) (.inl hhi)))
      have v0 : wo.cell? ⟨w.heap.size, 0, none⟩ = some (.int .i64 v.margin) := (Lib.cell_of_heap hV.out 0).trans rfl
      have v1 : wo.cell? ⟨w.heap.size, 1, none⟩ = some (.int .i64 v.lost) := (Lib.cell_of_heap hV.out 1).trans rfl
      have hvl := World.block_lt_of_cell? wo _ v0
      generalize hy : (bfs T v x i)[i].w = y at *
      have Hy := Lib.hid hy
      clear hy
      generalize hL : bfs T v x i = L at *
      have HL := Lib.hid hL
      clear hL
      have hacts := (fun w' (hb : Below wo.heap.size wo w') => impl_Acts _ rows T lo hi v y w' (hTr.out.ext hb) HT.out Hx.out.1 hok.in_)
      simp only [Wtc.cells, Wld.cells] at hacts
      have hacts := Lib.hid hacts
      go_wp2_with fail
      go_region_held3 (fun w' => (∀ b' o', b' < wo.heap.size → w'.cell? ⟨b', o', none⟩ = wo.cell? ⟨b', o', none⟩) ∧ Below wo.heap.size wo w') (first | (refine heldB ?_; exact (Below.refl _ _).drew) | (refine heldB ?_; exact b2))
        (first | (go_at_call 64; refine (hacts.out _ (Below.refl _ _).drew).mono ?_; rintro e w2 ⟨lv, rfl, hownA, hb2⟩; have b2 : Below wo.heap.size wo w2 := (Below.refl _ _).drew.trans hb2; obtain ⟨la, lc, rfl⟩ := own_val hownA))
      rename_i hHeld
      clear hHeld
      have hownA : Own 4 Act1.cells wo.heap.size 59 w2 (.slice la (actsW T v y).length lc) (actsW T v y) := hownA
      have hO2 := Lib.hid (hown.out.below b2)
      have hS2 := Lib.hid (hseen.out.below b2)
      have hM2 := hM.then b2
      have hV2 := Lib.hid ((b2.block _ hvl).trans hV.out)
      have hJ2 := Lib.hid (HJb.out _ _ _ _ hJ.out (b2.mono hsz))
      have hA2 := Lib.hid hownA
      have HcA := Lib.hid (fun a (ha : a ∈ actsW T v y) => acts_can ha)
      have hA36 : (actsW T v y).length ≤ 36 := actsN_len T v y 36
      have hb2s := b2.size
      generalize hA : actsW T v y = A at *
      clear hA hacts hTr hownA b2 hb2 hown hseen hM hV hJ v0 v1 p0 p1 p2 p3 p4 p5 hvl
      go_wp2_with fail
      go_loopw [9, 36] (fun o io wr => ∃ k : Nat, io = .int .i64 k ∧ k ≤ A.length ∧ Hid (Own 11 Vis.cells w.heap.size 97 wr o (foldV y i L (A.take k))) ∧ Hid (SeenW (w.heap.size + 1 + 1 + 1) (worldsV (foldV y i L (A.take k))) wr) ∧ Mod p (p + 1) w wr ∧ Hid (wr.heap[w.heap.size]? = some (.cells #[.int .i64 v.margin, .int .i64 v.lost] 49 (0, 0))) ∧ Hid (J i k wr) ∧ Hid (Own 4 Act1.cells wo.heap.size 59 wr (.slice la A.length lc) A) ∧ wo.heap.size ≤ wr.heap.size) (fun _ io _ => A.length - (intOf io).toNat)
      case atStart => exact ⟨0, rfl, Nat.zero_le _, hO2, hS2, hM2, hV2, hJ2, hA2, hb2s⟩
      case round =>
        clear hO2 hS2 hM2 hV2 hJ2 hA2
        obtain ⟨k, rfl, hk, hown, hseen, hM, hV, hJ, hownA, hwo⟩ := hrel
        by_cases hlk : k < A.length
        · obtain ⟨lb, lo2, rfl⟩ := Sl.addr (hownA.out.slw Act1.len).1 (by omega)
          obtain ⟨l0, l1, l2, l3⟩ := Act1s.at (hownA.out.slw Act1.len).1.get hlk
          have hlb := World.block_lt_of_cell? wr _ l0
          have Hzc := Lib.hid (HcA.out _ (List.getElem_mem hlk))
          have Hft := Lib.hid (foldV_take (x := y) (i := i) (l := L) hlk)
          have HDo3 := Lib.hid (HDo2.out k hlk)
          have Hvk := Lib.hid (foldV_ok (T := T) hok (A.take k) L (fun a ha => HcA.out a (List.mem_of_mem_take ha)) Hvo.out hlt).1
          have hwk : ∃ hi2 : i < (foldV y i L (A.take k)).length, (foldV y i L (A.take k))[i] = L[i] := pre_get (Hpre.out (A.take k)) hlt
          have Hok2 := Lib.hid (ok_do hok Hzc.out.1.1 Hzc.out.1.2 Hzc.out.2)
          have hdof := (fun w' => impl_after y A[k] w' hok.in_ Hzc.out.1.1 Hzc.out.1.2)
          have Hwi := Lib.hid (show ∃ hi2 : i < (foldV y i L (A.take k)).length, (foldV y i L (A.take k))[i].w = y from ⟨hwk.1, by rw [hwk.2]; exact Hy.out⟩)
          clear hwk
          have Hk := Lib.hid (p := A[k] = A[k]) rfl
          generalize hk0 : A[k] = zk at *
          clear hk0 Hk
          generalize hLk : foldV y i L (A.take k) = Lk at *
          clear hLk
          generalize hd0 : doW y zk = y2 at *
          clear hd0
          simp only [Wld.cells, Act1.cells] at hdof
          have HAf := Lib.hid hdof
          clear hdof
          go_wp2_with fail
          have hba : Below wr.heap.size wr (wr.alloc (.cells #[.int .i64 (zk).turnA, .int .i64 (zk).turnB, .bool (zk).loseA, .bool (zk).loseB] 59 (0, 0))) := (Below.refl _ _).alloc (Nat.le_refl _) _
          have hszr := hM.size
          have hp2 : p < wr.heap.size := Nat.lt_of_lt_of_le hp hszr
          refine (HDo3.out _ _ (Nat.le_trans hszr hba.size) (HJb.out _ _ _ _ hJ.out (hba.mono hszr)) ((hown.out.slw Vis.len).1.ext hba |>.mono (Nat.le_refl _) hba.size)).mono ?_
          rintro e w4 ⟨hm4, (⟨rfl, hJ4⟩ | ⟨rfl, hF4⟩)⟩
          · have hmA : Mod p (p + 1) wr w4 := (Mod.of_below hba).trans hm4
            have hO4 := Lib.hid (Own.mod hown.out hmA (by omega))
            have hS4 := Lib.hid (hseen.out.mod hmA (.inr (by omega)))
            have hM4 := hM.trans hmA
            have hmb := hseen.out.lt
            have hvr := (Array.getElem?_eq_some_iff.1 hV.out).1
            have hV4 := Lib.hid ((hmA.block _ hvr (.inr (by omega))).trans hV.out)
            have hA4 := Lib.hid (Own.mod hownA.out hmA (by omega))
            have hX4 := (hm4.block wr.heap.size (by simp) (.inr (by omega))).trans (blk_new wr (.cells #[.int .i64 (zk).turnA, .int .i64 (zk).turnB, .bool (zk).loseA, .bool (zk).loseB] 59 (0, 0)))
            have hJ4 := Lib.hid hJ4
            have hs4 : wr.heap.size + 1 ≤ w4.heap.size := by have := hm4.size; simpa using this
            have x0 : w4.cell? ⟨wr.heap.size, 0, none⟩ = some (.int .i64 zk.turnA) := (Lib.cell_of_heap hX4 0).trans rfl
            have x1 : w4.cell? ⟨wr.heap.size, 1, none⟩ = some (.int .i64 zk.turnB) := (Lib.cell_of_heap hX4 1).trans rfl
            have x2 : w4.cell? ⟨wr.heap.size, 2, none⟩ = some (.bool zk.loseA) := (Lib.cell_of_heap hX4 2).trans rfl
            have x3 : w4.cell? ⟨wr.heap.size, 3, none⟩ = some (.bool zk.loseB) := (Lib.cell_of_heap hX4 3).trans rfl
            have HX4 := Lib.hid hX4
            have hx4 := (Array.getElem?_eq_some_iff.1 hX4).1
            obtain ⟨hi2, hwi⟩ := Hwi.out
            obtain ⟨oa4, oc4, rfl⟩ := own_val hO4.out
            obtain ⟨ob4, oo4, rfl⟩ := Sl.addr (hO4.out.slw Vis.len).1 (by omega)
            obtain ⟨p0, p1, p2, p3, p4, p5⟩ := Vis.at (hO4.out.slw Vis.len).1.get hi2
            rw [hwi] at p0 p1 p2 p3 p4 p5
            have hob4 := World.block_lt_of_cell? w4 _ p0
            have hi3 : i < Lk.length := hi2
            clear hwi hown hseen hM hV hownA hm4 hmA hba hX4 hJ l0 l1 l2 l3
            have z4 : w4.heap.size ≤ w4.heap.size := Nat.le_refl _
            go_wp2_with fail
            go_region_held3 (fun w' => (∀ b' o', b' < w4.heap.size → w'.cell? ⟨b', o', none⟩ = w4.cell? ⟨b', o', none⟩) ∧ Below w4.heap.size w4 w') (first | (refine heldB ?_; go_grown; done))
              (first | (go_at_call 67; refine (HAf.out _).mono ?_; rintro e w6 ⟨rfl, hb6⟩; have b6 : Below w4.heap.size w4 w6 := Below.trans (by go_grown) (hb6.mono (by go_size)); have z6 := b6.size; have q6 := (bcell hb6).1; have f6 := (bcell hb6).2; have hz6 := fun (k : Nat) (h : k < _) => Nat.lt_of_lt_of_le h hb6.size))
            · rename_i hHeld
              clear hHeld
              have ez := blk_new w6 (.cells #[.int .i64 (y2).a, .int .i64 (y2).b, .int .i64 (y2).seenA, .int .i64 (y2).seenB, .int .i64 (y2).ageA, .int .i64 (y2).ageB] 51 (0, 0))
              have bz : Below w4.heap.size w4 (w6.alloc (.cells #[.int .i64 (y2).a, .int .i64 (y2).b, .int .i64 (y2).seenA, .int .i64 (y2).seenB, .int .i64 (y2).ageA, .int .i64 (y2).ageB] 51 (0, 0))) := b6.alloc b6.size _
              obtain ⟨wz, hwz⟩ : ∃ wz, w6.alloc (.cells #[.int .i64 (y2).a, .int .i64 (y2).b, .int .i64 (y2).seenA, .int .i64 (y2).seenB, .int .i64 (y2).ageA, .int .i64 (y2).ageB] 51 (0, 0)) = wz := ⟨_, rfl⟩
              rw [hwz] at ez bz ⊢
              have hqz : wr.heap.size < w6.heap.size := Nat.lt_of_lt_of_le (by omega) b6.size
              generalize w6.heap.size = qz at *
              clear hb6 q6 f6 hz6 z6 hwz
              have hbw : wr.heap.size < w4.heap.size := hx4
              have hOz := Lib.hid (hO4.out.below bz)
              have hSz := Lib.hid (hS4.out.below bz)
              have hMz := hM4.then bz
              have hVz := Lib.hid ((bz.block _ (by omega)).trans hV4.out)
              have hJz := Lib.hid (HJb.out _ _ _ _ hJ4.out (bz.mono (by omega)))
              have hAz := Lib.hid (hA4.out.below bz)
              have hXz := (bz.block _ hbw).trans HX4.out
              have hqlt := (Array.getElem?_eq_some_iff.1 ez).1
              have hrlt := (Array.getElem?_eq_some_iff.1 hXz).1
              have hzsz : w4.heap.size ≤ wz.heap.size := bz.size
              have c0 : wz.cell? ⟨qz, 0, none⟩ = some (.int .i64 y2.a) := (Lib.cell_of_heap ez 0).trans rfl
              have c1 : wz.cell? ⟨qz, 1, none⟩ = some (.int .i64 y2.b) := (Lib.cell_of_heap ez 1).trans rfl
              have c2 : wz.cell? ⟨qz, 2, none⟩ = some (.int .i64 y2.seenA) := (Lib.cell_of_heap ez 2).trans rfl
              have c3 : wz.cell? ⟨qz, 3, none⟩ = some (.int .i64 y2.seenB) := (Lib.cell_of_heap ez 3).trans rfl
              have c4 : wz.cell? ⟨qz, 4, none⟩ = some (.int .i64 y2.ageA) := (Lib.cell_of_heap ez 4).trans rfl
              have c5 : wz.cell? ⟨qz, 5, none⟩ = some (.int .i64 y2.ageB) := (Lib.cell_of_heap ez 5).trans rfl
              have Ez := Lib.hid ez
              have HXz := Lib.hid hXz
              clear ez hXz bz b6 hO4 hS4 hM4 hV4 hJ4 hA4 HX4 x0 x1 x2 x3 p0 p1 p2 p3 p4 p5
              have hin2 := Lib.hid Hok2.out.in_
              have hlk20 := Hvk.out.len
              have hlk2 : (worldsV Lk).length < maxLen := by rw [show (worldsV Lk).length = Lk.length by simp [worldsV]]; unfold maxLen; omega
              by_cases hmem : y2 ∈ worldsV Lk
              · have hlook := hSz.out.look hin2.out
                rw [decide_eq_true hmem] at hlook
                simp only [Wld.cells] at hlook
                have Hold := Lib.hid (addV_old (x := ⟨y2, i, zk⟩) hmem)
                clear hmem
                go_wp2
                go_roundw
                case rel => exact ⟨k + 1, by go_num, by omega, Lib.hid (by rw [Hft.out, Hold.out]; exact hOz.out), Lib.hid (by rw [Hft.out, Hold.out]; exact hSz.out), hMz, hVz, hJz, hAz, by omega⟩
                case measure => simp [intOf]; omega
              · have hlook := hSz.out.look hin2.out
                rw [decide_eq_false hmem] at hlook
                simp only [Wld.cells] at hlook
                have Hnew := Lib.hid (addV_new (x := ⟨y2, i, zk⟩) hmem)
                clear hmem
                go_wp2_with (first
                  | (at_mapUpdate; refine wpList_seenW_put rfl _ _ _ rfl _ (worldsV Lk) rfl hSz.out hlk2 y2 hin2.out rfl rfl ?_; intro w7 hS7 hg7; have gk7 : ∀ k, k < wz.heap.size → k ≠ w.heap.size + 1 + 1 + 1 → w7.heap[k]? = wz.heap[k]? := fun k h1 h2 => hg7.block k h1 (fun e => h2 (by simpa using e)); have E7 := (gk7 _ hqlt (by omega)).trans Ez.out; have X7 := (gk7 _ hrlt (by omega)).trans HXz.out; have hO7 := Lib.hid (own_stay hOz.out fun g hg => gk7 g (World.ownsRow.lt hOz.out g hg).2 (Own.mapNe hOz.out hg hSz.out)); have a0 : w7.cell? ⟨qz, 0, none⟩ = some (.int .i64 y2.a) := (Lib.cell_of_heap E7 0).trans rfl; have a1 : w7.cell? ⟨qz, 1, none⟩ = some (.int .i64 y2.b) := (Lib.cell_of_heap E7 1).trans rfl; have a2 : w7.cell? ⟨qz, 2, none⟩ = some (.int .i64 y2.seenA) := (Lib.cell_of_heap E7 2).trans rfl; have a3 : w7.cell? ⟨qz, 3, none⟩ = some (.int .i64 y2.seenB) := (Lib.cell_of_heap E7 3).trans rfl; have a4 : w7.cell? ⟨qz, 4, none⟩ = some (.int .i64 y2.ageA) := (Lib.cell_of_heap E7 4).trans rfl; have a5 : w7.cell? ⟨qz, 5, none⟩ = some (.int .i64 y2.ageB) := (Lib.cell_of_heap E7 5).trans rfl; have g0 : w7.cell? ⟨wr.heap.size, 0, none⟩ = some (.int .i64 zk.turnA) := (Lib.cell_of_heap X7 0).trans rfl; have g1 : w7.cell? ⟨wr.heap.size, 1, none⟩ = some (.int .i64 zk.turnB) := (Lib.cell_of_heap X7 1).trans rfl; have g2 : w7.cell? ⟨wr.heap.size, 2, none⟩ = some (.bool zk.loseA) := (Lib.cell_of_heap X7 2).trans rfl; have g3 : w7.cell? ⟨wr.heap.size, 3, none⟩ = some (.bool zk.loseB) := (Lib.cell_of_heap X7 3).trans rfl; clear E7 X7; have hs7 : wz.heap.size ≤ w7.heap.size := hg7.size)
                  | (at_builtin; refine wpList_app1 (c := Vis.cells) (bytes := 80) rfl _ _ 94 97 rfl Try.underlying94 info_Vis (by omega) Vis.len Vis.one w.heap.size Lk ⟨y2, i, zk⟩ _ rfl w7 rfl hO7.out rfl (by omega) (by omega) (by omega) ?_; intro v8 w8 hown8 hg8))
                have gk8 : ∀ k, k < w7.heap.size → ¬ (Value.slice (some ⟨ob4, oo4, none⟩) Lk.length oc4).ownBlock = some k → w8.heap[k]? = w7.heap[k]? := fun k h1 h2 => (hg8.block k (by simp; omega) (fun e => h2 e.symm)).trans (((Below.refl _ _).alloc (Nat.le_refl _) _).block k h1)
                have gk9 : ∀ k, k < wz.heap.size → k ≠ w.heap.size + 1 + 1 + 1 → ¬ (Value.slice (some ⟨ob4, oo4, none⟩) Lk.length oc4).ownBlock = some k → w8.heap[k]? = wz.heap[k]? := fun k h1 h2 h3 => (gk8 k (by omega) h3).trans (gk7 k h1 h2)
                have hs8 : w7.heap.size ≤ w8.heap.size := Nat.le_trans (by simp) hg8.size
                have hbz8 : Below w.heap.size wz w8 := (Below.grown (Below.refl _ _) hg7 (by omega) (fun k hk => by cases hk; omega)).trans (hO7.out.app (Below.refl _ _) (Nat.le_refl _) (by omega) hg8)
                have hw1 : worldsV (Lk ++ [⟨y2, (i : Int), zk⟩]) = worldsV Lk ++ [y2] := by simp [worldsV]
                have hS8 : SeenW (w.heap.size + 1 + 1 + 1) (worldsV Lk ++ [y2]) w8 := SeenW.same hS7 (gk8 _ hS7.lt (fun e => Own.mapNe hO7.out e hS7 rfl))
                have hM8 : Mod p (p + 1) w w8 := ⟨hbz8.os.trans hMz.os, hbz8.tape.trans hMz.tape, hbz8.output.trans hMz.output, Nat.le_trans hMz.size hbz8.size, fun k h1 h2 => (hbz8.block k h1).trans (hMz.block k h1 h2)⟩
                have hV8 : w8.heap[w.heap.size]? = some (.cells #[.int .i64 v.margin, .int .i64 v.lost] 49 (0, 0)) := (gk9 _ (by omega) (by omega) (own_ne hOz.out hVz.out (by decide))).trans hVz.out
                have hJ8 := HJb.out _ _ _ _ hJz.out hbz8
                have hA8 : Own 4 Act1.cells wo.heap.size 59 w8 (.slice (some ⟨lb, lo2, none⟩) A.length lc) A := own_stay hAz.out fun g hg => gk9 g (World.ownsRow.lt hAz.out g hg).2 (Own.mapNe hAz.out hg hSz.out) (own_apart hOz.out hAz.out (by decide) hg)
                have hR := Lib.hid (And.intro hown8 (And.intro hS8 (And.intro hM8 (And.intro hV8 (And.intro hJ8 hA8)))))
                have Hw1 := Lib.hid hw1
                clear hown8 hS8 hM8 hV8 hJ8 hA8 gk8 gk9 gk7 hbz8 hg7 hg8 hS7 hw1 a0 a1 a2 a3 a4 a5 g0 g1 g2 g3 hO7
                go_wp2
                go_roundw
                case rel => exact ⟨k + 1, by go_num, by omega, Lib.hid (by rw [Hft.out, Hnew.out]; exact hR.out.1), Lib.hid (by rw [Hft.out, Hnew.out, Hw1.out]; exact hR.out.2.1), hR.out.2.2.1, Lib.hid hR.out.2.2.2.1, Lib.hid hR.out.2.2.2.2.1, Lib.hid hR.out.2.2.2.2.2, by omega⟩
                case measure => simp [intOf]; omega
            · rename_i hHeld
              clear hHeld
              have ez := six' rfl (blk_below' hb6 (blk_new w4.drew (.cells #[.int .i64 0, .int .i64 0, .int .i64 0, .int .i64 0, .int .i64 0, .int .i64 0] 51))) (a1 := .int .i64 y2.a) (a2 := .int .i64 y2.b) (a3 := .int .i64 y2.seenA) (a4 := .int .i64 y2.seenB) (a5 := .int .i64 y2.ageA) (a6 := .int .i64 y2.ageB)
              have bz := b6.trans (six_below w6 (p := w4.heap.size) (Nat.le_refl _) (a1 := .int .i64 y2.a) (a2 := .int .i64 y2.b) (a3 := .int .i64 y2.seenA) (a4 := .int .i64 y2.seenB) (a5 := .int .i64 y2.ageA) (a6 := .int .i64 y2.ageB))
              change (((((((w6.setCell ⟨w4.heap.size, 0, none⟩ _).setCell ⟨w4.heap.size, 1, none⟩ _).setCell ⟨w4.heap.size, 2, none⟩ _).setCell ⟨w4.heap.size, 3, none⟩ _).setCell ⟨w4.heap.size, 4, none⟩ _).setCell ⟨w4.heap.size, 5, none⟩ _)).heap[w4.heap.size]? = _ at ez
              obtain ⟨wz, hwz⟩ : ∃ wz, ((((((w6.setCell ⟨w4.heap.size, 0, none⟩ (.int .i64 y2.a)).setCell ⟨w4.heap.size, 1, none⟩ (.int .i64 y2.b)).setCell ⟨w4.heap.size, 2, none⟩ (.int .i64 y2.seenA)).setCell ⟨w4.heap.size, 3, none⟩ (.int .i64 y2.seenB)).setCell ⟨w4.heap.size, 4, none⟩ (.int .i64 y2.ageA)).setCell ⟨w4.heap.size, 5, none⟩ (.int .i64 y2.ageB)) = wz := ⟨_, rfl⟩
              rw [hwz] at ez bz ⊢
              have hqz : wr.heap.size < w4.heap.size := by omega
              obtain ⟨qz, hq⟩ : ∃ qz, w4.heap.size = qz := ⟨_, rfl⟩
              rw [hq] at ez hqz ⊢
              clear hq
              clear hb6 q6 f6 hz6 z6 hwz
              have hbw : wr.heap.size < w4.heap.size := hx4
              have hOz := Lib.hid (hO4.out.below bz)
              have hSz := Lib.hid (hS4.out.below bz)
              have hMz := hM4.then bz
              have hVz := Lib.hid ((bz.block _ (by omega)).trans hV4.out)
              have hJz := Lib.hid (HJb.out _ _ _ _ hJ4.out (bz.mono (by omega)))
              have hAz := Lib.hid (hA4.out.below bz)
              have hXz := (bz.block _ hbw).trans HX4.out
              have hqlt := (Array.getElem?_eq_some_iff.1 ez).1
              have hrlt := (Array.getElem?_eq_some_iff.1 hXz).1
              have hzsz : w4.heap.size ≤ wz.heap.size := bz.size
              have c0 : wz.cell? ⟨qz, 0, none⟩ = some (.int .i64 y2.a) := (Lib.cell_of_heap ez 0).trans rfl
              have c1 : wz.cell? ⟨qz, 1, none⟩ = some (.int .i64 y2.b) := (Lib.cell_of_heap ez 1).trans rfl
              have c2 : wz.cell? ⟨qz, 2, none⟩ = some (.int .i64 y2.seenA) := (Lib.cell_of_heap ez 2).trans rfl
              have c3 : wz.cell? ⟨qz, 3, none⟩ = some (.int .i64 y2.seenB) := (Lib.cell_of_heap ez 3).trans rfl
              have c4 : wz.cell? ⟨qz, 4, none⟩ = some (.int .i64 y2.ageA) := (Lib.cell_of_heap ez 4).trans rfl
              have c5 : wz.cell? ⟨qz, 5, none⟩ = some (.int .i64 y2.ageB) := (Lib.cell_of_heap ez 5).trans rfl
              have Ez := Lib.hid ez
              have HXz := Lib.hid hXz
              clear ez hXz bz b6 hO4 hS4 hM4 hV4 hJ4 hA4 HX4 x0 x1 x2 x3 p0 p1 p2 p3 p4 p5
              have hin2 := Lib.hid Hok2.out.in_
              have hlk20 := Hvk.out.len
              have hlk2 : (worldsV Lk).length < maxLen := by rw [show (worldsV Lk).length = Lk.length by simp [worldsV]]; unfold maxLen; omega
              by_cases hmem : y2 ∈ worldsV Lk
              · have hlook := hSz.out.look hin2.out
                rw [decide_eq_true hmem] at hlook
                simp only [Wld.cells] at hlook
                have Hold := Lib.hid (addV_old (x := ⟨y2, i, zk⟩) hmem)
                clear hmem
                go_wp2
                go_roundw
                case rel => exact ⟨k + 1, by go_num, by omega, Lib.hid (by rw [Hft.out, Hold.out]; exact hOz.out), Lib.hid (by rw [Hft.out, Hold.out]; exact hSz.out), hMz, hVz, hJz, hAz, by omega⟩
                case measure => simp [intOf]; omega
              · have hlook := hSz.out.look hin2.out
                rw [decide_eq_false hmem] at hlook
                simp only [Wld.cells] at hlook
                have Hnew := Lib.hid (addV_new (x := ⟨y2, i, zk⟩) hmem)
                clear hmem
                go_wp2_with (first
                  | (at_mapUpdate; refine wpList_seenW_put rfl _ _ _ rfl _ (worldsV Lk) rfl hSz.out hlk2 y2 hin2.out rfl rfl ?_; intro w7 hS7 hg7; have gk7 : ∀ k, k < wz.heap.size → k ≠ w.heap.size + 1 + 1 + 1 → w7.heap[k]? = wz.heap[k]? := fun k h1 h2 => hg7.block k h1 (fun e => h2 (by simpa using e)); have E7 := (gk7 _ hqlt (by omega)).trans Ez.out; have X7 := (gk7 _ hrlt (by omega)).trans HXz.out; have hO7 := Lib.hid (own_stay hOz.out fun g hg => gk7 g (World.ownsRow.lt hOz.out g hg).2 (Own.mapNe hOz.out hg hSz.out)); have a0 : w7.cell? ⟨qz, 0, none⟩ = some (.int .i64 y2.a) := (Lib.cell_of_heap E7 0).trans rfl; have a1 : w7.cell? ⟨qz, 1, none⟩ = some (.int .i64 y2.b) := (Lib.cell_of_heap E7 1).trans rfl; have a2 : w7.cell? ⟨qz, 2, none⟩ = some (.int .i64 y2.seenA) := (Lib.cell_of_heap E7 2).trans rfl; have a3 : w7.cell? ⟨qz, 3, none⟩ = some (.int .i64 y2.seenB) := (Lib.cell_of_heap E7 3).trans rfl; have a4 : w7.cell? ⟨qz, 4, none⟩ = some (.int .i64 y2.ageA) := (Lib.cell_of_heap E7 4).trans rfl; have a5 : w7.cell? ⟨qz, 5, none⟩ = some (.int .i64 y2.ageB) := (Lib.cell_of_heap E7 5).trans rfl; have g0 : w7.cell? ⟨wr.heap.size, 0, none⟩ = some (.int .i64 zk.turnA) := (Lib.cell_of_heap X7 0).trans rfl; have g1 : w7.cell? ⟨wr.heap.size, 1, none⟩ = some (.int .i64 zk.turnB) := (Lib.cell_of_heap X7 1).trans rfl; have g2 : w7.cell? ⟨wr.heap.size, 2, none⟩ = some (.bool zk.loseA) := (Lib.cell_of_heap X7 2).trans rfl; have g3 : w7.cell? ⟨wr.heap.size, 3, none⟩ = some (.bool zk.loseB) := (Lib.cell_of_heap X7 3).trans rfl; clear E7 X7; have hs7 : wz.heap.size ≤ w7.heap.size := hg7.size)
                  | (at_builtin; refine wpList_app1 (c := Vis.cells) (bytes := 80) rfl _ _ 94 97 rfl Try.underlying94 info_Vis (by omega) Vis.len Vis.one w.heap.size Lk ⟨y2, i, zk⟩ _ rfl w7 rfl hO7.out rfl (by omega) (by omega) (by omega) ?_; intro v8 w8 hown8 hg8))
                have gk8 : ∀ k, k < w7.heap.size → ¬ (Value.slice (some ⟨ob4, oo4, none⟩) Lk.length oc4).ownBlock = some k → w8.heap[k]? = w7.heap[k]? := fun k h1 h2 => (hg8.block k (by simp; omega) (fun e => h2 e.symm)).trans (((Below.refl _ _).alloc (Nat.le_refl _) _).block k h1)
                have gk9 : ∀ k, k < wz.heap.size → k ≠ w.heap.size + 1 + 1 + 1 → ¬ (Value.slice (some ⟨ob4, oo4, none⟩) Lk.length oc4).ownBlock = some k → w8.heap[k]? = wz.heap[k]? := fun k h1 h2 h3 => (gk8 k (by omega) h3).trans (gk7 k h1 h2)
                have hs8 : w7.heap.size ≤ w8.heap.size := Nat.le_trans (by simp) hg8.size
                have hbz8 : Below w.heap.size wz w8 := (Below.grown (Below.refl _ _) hg7 (by omega) (fun k hk => by cases hk; omega)).trans (hO7.out.app (Below.refl _ _) (Nat.le_refl _) (by omega) hg8)
                have hw1 : worldsV (Lk ++ [⟨y2, (i : Int), zk⟩]) = worldsV Lk ++ [y2] := by simp [worldsV]
                have hS8 : SeenW (w.heap.size + 1 + 1 + 1) (worldsV Lk ++ [y2]) w8 := SeenW.same hS7 (gk8 _ hS7.lt (fun e => Own.mapNe hO7.out e hS7 rfl))
                have hM8 : Mod p (p + 1) w w8 := ⟨hbz8.os.trans hMz.os, hbz8.tape.trans hMz.tape, hbz8.output.trans hMz.output, Nat.le_trans hMz.size hbz8.size, fun k h1 h2 => (hbz8.block k h1).trans (hMz.block k h1 h2)⟩
                have hV8 : w8.heap[w.heap.size]? = some (.cells #[.int .i64 v.margin, .int .i64 v.lost] 49 (0, 0)) := (gk9 _ (by omega) (by omega) (own_ne hOz.out hVz.out (by decide))).trans hVz.out
                have hJ8 := HJb.out _ _ _ _ hJz.out hbz8
                have hA8 : Own 4 Act1.cells wo.heap.size 59 w8 (.slice (some ⟨lb, lo2, none⟩) A.length lc) A := own_stay hAz.out fun g hg => gk9 g (World.ownsRow.lt hAz.out g hg).2 (Own.mapNe hAz.out hg hSz.out) (own_apart hOz.out hAz.out (by decide) hg)
                have hR := Lib.hid (And.intro hown8 (And.intro hS8 (And.intro hM8 (And.intro hV8 (And.intro hJ8 hA8)))))
                have Hw1 := Lib.hid hw1
                clear hown8 hS8 hM8 hV8 hJ8 hA8 gk8 gk9 gk7 hbz8 hg7 hg8 hS7 hw1 a0 a1 a2 a3 a4 a5 g0 g1 g2 g3 hO7
                go_wp2
                go_roundw
                case rel => exact ⟨k + 1, by go_num, by omega, Lib.hid (by rw [Hft.out, Hnew.out]; exact hR.out.1), Lib.hid (by rw [Hft.out, Hnew.out, Hw1.out]; exact hR.out.2.1), hR.out.2.2.1, Lib.hid hR.out.2.2.2.1, Lib.hid hR.out.2.2.2.2.1, Lib.hid hR.out.2.2.2.2.2, by omega⟩
                case measure => simp [intOf]; omega
          · have Hout := Lib.hid (show Mod p (p + 1) w w4 ∧ F w4 from ⟨(hM.then hba).trans hm4, hF4⟩)
            clear hm4 hF4 hba
            go_wp2
            go_ret
            exact ⟨Hout.out.1, .inr ⟨_, rfl, Hout.out.2⟩⟩
        · obtain rfl : k = A.length := by omega
          have hO9 := hown.out
          rw [List.take_length, ← Hgo.out] at hO9
          have hS9 := hseen.out
          rw [List.take_length, ← Hgo.out] at hS9
          have Hle : Hid (i + 1 ≤ (bfs T v x (i + 1)).length) := Lib.hid (by rw [Hgo.out]; have := (Hpre.out A).length_le; omega)
          have hJ9 := Lib.hid (HJn2.out wr hJ.out)
          have hO9 := Lib.hid hO9
          have hS9 := Lib.hid hS9
          go_wp2
          go_roundw
          case rel => exact ⟨i + 1, by go_num, Hle.out, hO9, hS9, hM, hV, hJ9⟩
          case measure => simp [intOf]; omega
    · have hie : i = (bfs T v x i).length := by omega
      have Hend := Lib.hid (show DoneV T v x i from hie)
      obtain ⟨oa, oc, rfl⟩ := own_val hown.out
      have hlt' : ¬ ((i : Int) < ((bfs T v x i).length : Int)) := by omega
      generalize hn : (bfs T v x i).length = n at *
      obtain rfl : i = n := hie
      clear hn hle hl20 hlt hown hseen hV
      go_wp2
      go_ret
      exact ⟨hM, .inl ⟨_, _, _, Hend.out, rfl, hJ.out⟩⟩
theorem callFunc_enter {P : Program} {f : FuncId} {fn : Func} {c : Code} (hf : P.funcs[f]? = some fn) (hname : (fn.name == "runtime.NumGoroutine") = false) (hb : fn.body = some c) (args : Array Value) (w : World) :
    (callFunc f args).run P w = .ok (.enter f args) w := by
  have h1 : fn.name ≠ "runtime.NumGoroutine" := by simpa using hname
  simp [callFunc, hf, h1, hb]
section
variable {P : Program} {ops : Array Oper} {Q : Exit → Act → World → Prop} {md : Region.Mode}
theorem take_phv {k : Nat} {S B : World → Prop} (d : Tmp) {i : Nat} {oi : Oper} {fuel : Nat} {listed : Array Bool} {a : Act} {w : World} (hi : ops[i]? = some oi) (hd : oi.dst = some d) (hik : i ≠ k)
    (hs : Region.noSelect ops = true) (hf : Region.free md ops listed i = true) (hr : (Region.ready md ops listed).contains i = true)
    (hQ : ∀ c a w, Q (.panic c) (a.put (some d) undef) w → Q (.panic c) a w) (hw : Region.wanted oi (yielded ops a.tmps) = false) (hp : Ph k S B listed w)
    (h : Ph k S B (listed.setIfInBounds i true) w → AnyL P md ops Q (Ph k S B) fuel (listed.setIfInBounds i true) (a.put (some d) undef) w) : AnyL P md ops Q (Ph k S B) (fuel + 1) listed a w :=
  AnyL.first (T := S) (I := fun _ => True) hi (Region.noSelect_spec hs) (by rw [hd]; exact hQ) (fun _ _ _ _ _ _ _ => trivial)
    (fun l w _ hp => hp.1) (fun l w => ph_set hik S B l w)
    fuel listed a w trivial (Region.free_spec hi hf) (by simpa using hr) (Or.inr ⟨hw, rfl⟩) hp (by rw [hd]; exact h ((ph_set hik S B listed w).2 hp))
end
set_option maxRecDepth 100000 in
set_option maxHeartbeats 8000000 in
theorem impl_do1 (av : Value) (Lk : List Vis) (i : Nat) (y : Wld) (z : Act1) (p q : Nat) (bad : Bool) (tv : Value) (rows : List SV) (T : Tab) (lo hi lo2 hi2 : Nat) (w : World) (hr : Sl 11 Vis.cells lo2 hi2 w av Lk) (hi2 : i < Lk.length) (hy : Lk[i].w = y) (hin : y.in_) (hz : Trn z.turnA ∧ Trn z.turnB)
    (hTab : TabR lo hi w tv rows T) (hT : TabOk T) (hp : w.heap[p]? = some (.cells #[.bool bad] 4 (0, 0))) (hq : w.heap[q]? = some (.cells #[tv] 45 (0, 0))) (hpq : p ≠ q) (hplo : p < lo2) :
    Calls Try.prog 76 #[av, .int .i64 i, .agg z.cells.toArray, .pointer (some ⟨p, 0, none⟩), .pointer (some ⟨q, 0, none⟩)] w fun e w' => e = .returned (.bool true) ∧ Mod p (p + 1) w w' ∧ w'.heap[p]? = some (.cells #[.bool (bad || unsafeB T y z)] 4 (0, 0)) := by
  have hun := fun w' (hb : Below w.heap.size w w') => impl_unsafe tv rows T lo hi y z w' (hTab.ext hb) hT hin hz.1 hz.2
  have hlr := Lib.hid hr
  obtain ⟨⟨ta, tc, rfl, -, -⟩, -, -⟩ := hTab
  generalize rows.length = tn at *
  obtain ⟨oa, oc, rfl, -, -⟩ := hr
  obtain ⟨ob, oo, rfl⟩ := Sl.addr hlr.out (by omega)
  have hobp : ob ≠ p := by
    obtain ⟨_, _, hv, _, hh⟩ := hlr.out
    obtain ⟨b', o', he, hl1, _⟩ := hh (by omega)
    cases hv
    cases he
    omega
  obtain ⟨p0, p1, p2, p3, p4, p5⟩ := Vis.at hlr.out.get hi2
  rw [hy] at p0 p1 p2 p3 p4 p5
  have hob := World.block_lt_of_cell? w _ p0
  have c0 : w.cell? ⟨p, 0, none⟩ = some (.bool bad) := (Lib.cell_of_heap hp 0).trans rfl
  have cf : w.frozen? ⟨p, 0, none⟩ = false := Lib.frozen_of_heap hp 0
  have t0 : w.cell? ⟨q, 0, none⟩ = some (.slice ta tn tc) := (Lib.cell_of_heap hq 0).trans rfl
  have hpl := World.block_lt_of_cell? w _ c0
  have hql := World.block_lt_of_cell? w _ t0
  have Hp := Lib.hid hp
  have Hq := Lib.hid hq
  simp only [Wld.cells, Act1.cells] at *
  have HU := Lib.hid hun
  clear hun hp hq hy hlr hin hz
  have hx := blk_new w (.cells #[.int .i64 (z).turnA, .int .i64 (z).turnB, .bool (z).loseA, .bool (z).loseB] 59 (0, 0))
  have x0 : (w.alloc (.cells #[.int .i64 (z).turnA, .int .i64 (z).turnB, .bool (z).loseA, .bool (z).loseB] 59 (0, 0))).cell? ⟨w.heap.size, 0, none⟩ = some (.int .i64 z.turnA) := (Lib.cell_of_heap hx 0).trans rfl
  have x1 : (w.alloc (.cells #[.int .i64 (z).turnA, .int .i64 (z).turnB, .bool (z).loseA, .bool (z).loseB] 59 (0, 0))).cell? ⟨w.heap.size, 1, none⟩ = some (.int .i64 z.turnB) := (Lib.cell_of_heap hx 1).trans rfl
  have x2 : (w.alloc (.cells #[.int .i64 (z).turnA, .int .i64 (z).turnB, .bool (z).loseA, .bool (z).loseB] 59 (0, 0))).cell? ⟨w.heap.size, 2, none⟩ = some (.bool z.loseA) := (Lib.cell_of_heap hx 2).trans rfl
  have x3 : (w.alloc (.cells #[.int .i64 (z).turnA, .int .i64 (z).turnB, .bool (z).loseA, .bool (z).loseB] 59 (0, 0))).cell? ⟨w.heap.size, 3, none⟩ = some (.bool z.loseB) := (Lib.cell_of_heap hx 3).trans rfl
  have hba : Below w.heap.size w (w.alloc (.cells #[.int .i64 (z).turnA, .int .i64 (z).turnB, .bool (z).loseA, .bool (z).loseB] 59 (0, 0))) := (Below.refl _ _).alloc (Nat.le_refl _) _
  have Hba := Lib.hid hba
  obtain ⟨h1, h2⟩ := bcell hba
  have d0 := (h1 p 0 hpl).trans c0
  have df := (h2 p 0 hpl).trans cf
  have e0 := (h1 q 0 hql).trans t0
  have r0 := (h1 ob _ hob).trans p0
  have r1 := (h1 ob _ hob).trans p1
  have r2 := (h1 ob _ hob).trans p2
  have r3 := (h1 ob _ hob).trans p3
  have r4 := (h1 ob _ hob).trans p4
  have r5 := (h1 ob _ hob).trans p5
  have hda := (hba.block p hpl).trans Hp.out
  have Hda := Lib.hid hda
  clear h1 h2 c0 cf t0 p0 p1 p2 p3 p4 p5 hx hba hda
  go_enter Try.func76, Try.ntmps76
  go_wp2_with fail
  obtain ⟨W1, hW1⟩ : ∃ W1, w.alloc (.cells #[.int .i64 (z).turnA, .int .i64 (z).turnB, .bool (z).loseA, .bool (z).loseB] 59 (0, 0)) = W1 := ⟨_, rfl⟩
  rw [hW1] at x0 x1 x2 x3 d0 df e0 r0 r1 r2 r3 r4 r5 Hba Hda ⊢
  have hs1 : W1.heap.size = w.heap.size + 1 := by rw [← hW1]; simp
  clear hW1
  cases bad with
  | true =>
    refine region_ph 11 (fun _ => True) (fun w' => w'.cell? ⟨p, 0, none⟩ = some (.bool true)) (by kernel_rfl) trivial d0 (fun hp => ?_)
    refine take_ph1 9 (i := 0) rfl rfl (by decide) (by rfl) (by kernel_rfl) (by kernel_rfl) (by kernel_rfl) (by kernel_rfl) (fun _ _ _ h => h) (by rfl) (fun w hSw hBw => by (try dsimp only at hSw hBw); go_simp; first | done | with_reducible rfl) hp (fun hp => ?_)
    try simp only [Act.put, List.setIfInBounds_toArray, List.set_cons_zero, List.set_cons_succ]
    refine take_ph 10 (i := 1) rfl rfl (by decide) (by kernel_rfl) (by kernel_rfl) (by kernel_rfl) (fun _ _ _ h => h) (by rfl) (fun w hSw => by (try dsimp only at hSw); go_simp; first | done | with_reducible rfl) hp (fun hp => ?_)
    try simp only [Act.put, List.setIfInBounds_toArray, List.set_cons_zero, List.set_cons_succ]
    refine take_phv 11 (i := 2) rfl rfl (by decide) (by kernel_rfl) (by kernel_rfl) (by kernel_rfl) (fun _ _ _ h => h) (by rfl) hp (fun hp => ?_)
    try simp only [Act.put, List.setIfInBounds_toArray, List.set_cons_zero, List.set_cons_succ]
    refine take_phv 12 (i := 3) rfl rfl (by decide) (by kernel_rfl) (by kernel_rfl) (by kernel_rfl) (fun _ _ _ h => h) (by rfl) hp (fun hp => ?_)
    try simp only [Act.put, List.setIfInBounds_toArray, List.set_cons_zero, List.set_cons_succ]
    refine take_phv 13 (i := 4) rfl rfl (by decide) (by kernel_rfl) (by kernel_rfl) (by kernel_rfl) (fun _ _ _ h => h) (by rfl) hp (fun hp => ?_)
    try simp only [Act.put, List.setIfInBounds_toArray, List.set_cons_zero, List.set_cons_succ]
    refine take_phv 14 (i := 5) rfl rfl (by decide) (by kernel_rfl) (by kernel_rfl) (by kernel_rfl) (fun _ _ _ h => h) (by rfl) hp (fun hp => ?_)
    try simp only [Act.put, List.setIfInBounds_toArray, List.set_cons_zero, List.set_cons_succ]
    refine take_phv 15 (i := 6) rfl rfl (by decide) (by kernel_rfl) (by kernel_rfl) (by kernel_rfl) (fun _ _ _ h => h) (by rfl) hp (fun hp => ?_)
    try simp only [Act.put, List.setIfInBounds_toArray, List.set_cons_zero, List.set_cons_succ]
    refine take_phv 16 (i := 7) rfl rfl (by decide) (by kernel_rfl) (by kernel_rfl) (by kernel_rfl) (fun _ _ _ h => h) (by rfl) hp (fun hp => ?_)
    try simp only [Act.put, List.setIfInBounds_toArray, List.set_cons_zero, List.set_cons_succ]
    refine take_phv 17 (i := 8) rfl rfl (by decide) (by kernel_rfl) (by kernel_rfl) (by kernel_rfl) (fun _ _ _ h => h) (by rfl) hp (fun hp => ?_)
    try simp only [Act.put, List.setIfInBounds_toArray, List.set_cons_zero, List.set_cons_succ]
    refine take_phv 18 (i := 9) rfl rfl (by decide) (by kernel_rfl) (by kernel_rfl) (by kernel_rfl) (fun _ _ _ h => h) (by rfl) hp (fun hp => ?_)
    try simp only [Act.put, List.setIfInBounds_toArray, List.set_cons_zero, List.set_cons_succ]
    refine take_ph 19 (i := 10) rfl rfl (by decide) (by kernel_rfl) (by kernel_rfl) (by kernel_rfl) (fun _ _ _ h => h) (by rfl) (fun w hSw => by (try dsimp only at hSw); go_simp; first | done | with_reducible rfl) hp (fun hp => ?_)
    try simp only [Act.put, List.setIfInBounds_toArray, List.set_cons_zero, List.set_cons_succ]
    refine AnyL.one (i := 11) (by kernel_rfl) rfl (fun K hK => ?_)
    go_simp
    refine hK.out _ _ (ph2 rfl trivial) (fun hp => ?_)
    clear hK
    refine AnyL.done (by kernel_rfl) ?_ _
    go_wp2
    go_ret
    refine ⟨rfl, ((Mod.of_below Hba.out).drewN 1).setCell (p := ⟨p, 0, none⟩) (Nat.le_refl _) (Nat.lt_succ_self _) _, ?_⟩
    rw [Bool.true_or]
    show (W1.setCell ⟨p, 0, none⟩ (.bool true)).heap[p]? = _
    simp [World.setCell, Array.getElem?_modify, Hda.out]
  | false =>
    have hqp : q ≠ p := fun e => hpq e.symm
    have hwp : w.heap.size ≠ p := by omega
    have hq1 : q < W1.heap.size := by omega
    have hw1 : w.heap.size < W1.heap.size := by omega
    have ho1 : ob < W1.heap.size := by omega
    have hpl1 : p < W1.heap.size := by omega
    refine region_ph 11 (fun w' => ∀ b' o', b' ≠ p → b' < W1.heap.size → w'.cell? ⟨b', o', none⟩ = W1.cell? ⟨b', o', none⟩) (fun w' => w'.cell? ⟨p, 0, none⟩ = some (.bool false)) (by kernel_rfl) (fun _ _ _ _ => rfl) d0 (fun hp => ?_)
    refine take_ph1 9 (i := 0) rfl rfl (by decide) (by rfl) (by kernel_rfl) (by kernel_rfl) (by kernel_rfl) (by kernel_rfl) (fun _ _ _ h => h) (by rfl) (fun w hSw hBw => by (try dsimp only at hSw hBw); go_simp; first | done | with_reducible rfl) hp (fun hp => ?_)
    try simp only [Act.put, List.setIfInBounds_toArray, List.set_cons_zero, List.set_cons_succ]
    refine take_ph 10 (i := 1) rfl rfl (by decide) (by kernel_rfl) (by kernel_rfl) (by kernel_rfl) (fun _ _ _ h => h) (by rfl) (fun w hSw => by (try dsimp only at hSw); go_simp; first | done | with_reducible rfl) hp (fun hp => ?_)
    try simp only [Act.put, List.setIfInBounds_toArray, List.set_cons_zero, List.set_cons_succ]
    refine take_ph 11 (i := 2) rfl rfl (by decide) (by kernel_rfl) (by kernel_rfl) (by kernel_rfl) (fun _ _ _ h => h) (by rfl) (fun w hSw => by (try dsimp only at hSw); go_simp; first | done | with_reducible rfl) hp (fun hp => ?_)
    try simp only [Act.put, List.setIfInBounds_toArray, List.set_cons_zero, List.set_cons_succ]
    refine take_ph 12 (i := 3) rfl rfl (by decide) (by kernel_rfl) (by kernel_rfl) (by kernel_rfl) (fun _ _ _ h => h) (by rfl) (fun w hSw => by (try dsimp only at hSw); go_simp; first | done | with_reducible rfl) hp (fun hp => ?_)
    try simp only [Act.put, List.setIfInBounds_toArray, List.set_cons_zero, List.set_cons_succ]
    refine take_ph 13 (i := 4) rfl rfl (by decide) (by kernel_rfl) (by kernel_rfl) (by kernel_rfl) (fun _ _ _ h => h) (by rfl) (fun w hSw => by (try dsimp only at hSw); go_simp; first | done | with_reducible rfl) hp (fun hp => ?_)
    try simp only [Act.put, List.setIfInBounds_toArray, List.set_cons_zero, List.set_cons_succ]
    refine take_ph 14 (i := 5) rfl rfl (by decide) (by kernel_rfl) (by kernel_rfl) (by kernel_rfl) (fun _ _ _ h => h) (by rfl) (fun w hSw => by (try dsimp only at hSw); go_simp; first | done | with_reducible rfl) hp (fun hp => ?_)
    try simp only [Act.put, List.setIfInBounds_toArray, List.set_cons_zero, List.set_cons_succ]
    refine take_ph 15 (i := 6) rfl rfl (by decide) (by kernel_rfl) (by kernel_rfl) (by kernel_rfl) (fun _ _ _ h => h) (by rfl) (fun w hSw => by (try dsimp only at hSw); go_simp; first | done | with_reducible rfl) hp (fun hp => ?_)
    try simp only [Act.put, List.setIfInBounds_toArray, List.set_cons_zero, List.set_cons_succ]
    refine take_ph 16 (i := 7) rfl rfl (by decide) (by kernel_rfl) (by kernel_rfl) (by kernel_rfl) (fun _ _ _ h => h) (by rfl) (fun w hSw => by (try dsimp only at hSw); go_simp; first | done | with_reducible rfl) hp (fun hp => ?_)
    try simp only [Act.put, List.setIfInBounds_toArray, List.set_cons_zero, List.set_cons_succ]
    refine take_ph 17 (i := 8) rfl rfl (by decide) (by kernel_rfl) (by kernel_rfl) (by kernel_rfl) (fun _ _ _ h => h) (by rfl) (fun w hSw => by (try dsimp only at hSw); go_simp; first | done | with_reducible rfl) hp (fun hp => ?_)
    try simp only [Act.put, List.setIfInBounds_toArray, List.set_cons_zero, List.set_cons_succ]
    refine AnyL.one (i := 9) (by kernel_rfl) rfl (fun K hK => ?_)
    go_simp
    refine (HU.out _ Hba.out.drew).mono ?_
    rintro e w3 ⟨rfl, hb3⟩
    have b3 : Below W1.heap.size W1 w3 := (Below.refl _ _).drew.trans hb3
    refine hK.out _ _ (ph1 (fun b' o' _ h2 => b3.cell (p := ⟨b', o', none⟩) h2) ((b3.cell (p := ⟨p, 0, none⟩) hpl1).trans d0)) (fun hp => ?_)
    clear hK
    try simp only [Act.put, List.setIfInBounds_toArray, List.set_cons_zero, List.set_cons_succ]
    have m0 := (b3.cell (p := ⟨p, 0, none⟩) hpl1).trans d0
    have mf := (b3.frozen (p := ⟨p, 0, none⟩) hpl1).trans df
    have hd3 := (b3.block p hpl1).trans Hda.out
    have HR := Lib.hid (And.intro (Hba.out.trans (b3.mono (by omega))) hd3)
    have S3 := Lib.hid (fun b' o' (h1 : b' ≠ p) (h2 : b' < W1.heap.size) => b3.cell (p := ⟨b', o', none⟩) h2)
    clear hd3
    refine take_ph 19 (i := 10) rfl rfl (by decide) (by kernel_rfl) (by kernel_rfl) (by kernel_rfl) (fun _ _ _ h => h) (by rfl) (fun w hSw => by (try dsimp only at hSw); go_simp; first | done | with_reducible rfl) hp (fun hp => ?_)
    try simp only [Act.put, List.setIfInBounds_toArray, List.set_cons_zero, List.set_cons_succ]
    refine AnyL.one (i := 11) (by kernel_rfl) rfl (fun K hK => ?_)
    go_simp
    refine hK.out _ _ (ph2 rfl (fun b' o' h1 h2 => ?_)) (fun hp => ?_)
    · rw [World.cell?_setCell_other _ _ _ _ (fun e => h1 (congrArg Addr.block e).symm)]
      exact S3.out b' o' h1 h2
    clear hK
    refine AnyL.done (by kernel_rfl) ?_ _
    go_wp2
    go_ret
    refine ⟨rfl, (Mod.of_below HR.out.1).setCell (p := ⟨p, 0, none⟩) (Nat.le_refl _) (Nat.lt_succ_self _) _, ?_⟩
    rw [Bool.false_or]
    have h3 := HR.out.2
    simp [World.setCell, Array.getElem?_modify, h3]
/-- Whether something unsafe has been found when the first worlds are done, and the first acts of the next one. -/
noncomputable def badJ (T : Tab) (v : Wtc) (x : Wld) (i j : Nat) : Bool :=
  badN T v x i || (match (bfs T v x i)[i]? with | some y => ((actsW T v y.w).take j).any (unsafeB T y.w) | none => false)
theorem badJ_go {T : Tab} {v : Wtc} {x : Wld} {i j : Nat} (h : i < (bfs T v x i).length) : badJ T v x i j = (badN T v x i || ((actsW T v (bfs T v x i)[i].w).take j).any (unsafeB T (bfs T v x i)[i].w)) := by
  unfold badJ
  rw [List.getElem?_eq_getElem h]
theorem badJ_0 (T : Tab) (v : Wtc) (x : Wld) (i : Nat) : badJ T v x i 0 = badN T v x i := by
  unfold badJ
  split <;> simp
theorem badJ_end {T : Tab} {v : Wtc} {x : Wld} {i : Nat} (h : i < (bfs T v x i).length) : badJ T v x i (actsW T v (bfs T v x i)[i].w).length = badN T v x (i + 1) := by
  rw [badJ_go h, badN_go h, List.take_length]
theorem badJ_step {T : Tab} {v : Wtc} {x : Wld} {i j : Nat} (h : i < (bfs T v x i).length) (hj : j < (actsW T v (bfs T v x i)[i].w).length) : badJ T v x i (j + 1) = (badJ T v x i j || unsafeB T (bfs T v x i)[i].w (actsW T v (bfs T v x i)[i].w)[j]) := by
  rw [badJ_go h, badJ_go h, any_take hj, Bool.or_assoc]
/-- What holds while the program explores. -/
structure ExJ (T : Tab) (v : Wtc) (x : Wld) (p q : Nat) (tv : Value) (rows : List SV) (lo hi : Nat) (i j : Nat) (w : World) : Prop where
  bad : w.heap[p]? = some (.cells #[.bool (badJ T v x i j)] 4 (0, 0))
  tab : w.heap[q]? = some (.cells #[tv] 45 (0, 0))
  rd : TabR lo hi w tv rows T
theorem enter80 (args : Array Value) (w : World) : (callFunc 76 args).run Try.prog w = .ok (.enter 76 args) w :=
  callFunc_enter Try.func76 (by kernel_rfl) rfl args w
set_option maxRecDepth 100000 in
set_option maxHeartbeats 8000000 in
theorem impl_explore1 (tv : Value) (rows : List SV) (T : Tab) (lo hi : Nat) (v : Wtc) (x : Wld) (p q : Nat) (w : World) (h : TabR lo hi w tv rows T) (hT : TabOk T) (hx : x.ok v) (hhi : hi ≤ q) (hqp : q < p) (hp : w.heap[p]? = some (.cells #[.bool false] 4 (0, 0))) (hq : w.heap[q]? = some (.cells #[tv] 45 (0, 0))) :
    Calls Try.prog 75 #[tv, .agg v.cells.toArray, .agg x.cells.toArray, .func (.func 76) #[] #[.pointer (some ⟨p, 0, none⟩), .pointer (some ⟨q, 0, none⟩)]] w (ExplOut T v x p (ExJ T v x p q tv rows lo hi) (fun _ => False) w) := by
  have hpl := (Array.getElem?_eq_some_iff.1 hp).1
  refine impl_explore 76 p q p (ExJ T v x p q tv rows lo hi) (fun _ => False) tv rows T lo hi v x w h hT hx (by omega) hpl enter80 ⟨by rw [badJ_0]; exact hp, hq, h⟩ ?_ ?_ ?_
  · intro i j a b hJ hb
    refine ⟨(hb.block p (by omega)).trans hJ.bad, (hb.block q (by omega)).trans hJ.tab, hJ.rd.below hb (by omega)⟩
  · intro i a hi2 hJ
    refine ⟨?_, hJ.tab, hJ.rd⟩
    rw [badJ_0, ← badJ_end hi2]
    exact hJ.bad
  · intro i j hi2 hj a av hsz hJ hrd
    obtain ⟨h2, h3⟩ := pre_get (foldV_pre (bfs T v x i)[i].w i ((actsW T v (bfs T v x i)[i].w).take j) (bfs T v x i)) hi2
    have hok := (bfs_ok (T := T) hx i).ok i hi2
    have hz := acts_can (List.getElem_mem hj)
    refine (impl_do1 av _ i (bfs T v x i)[i].w (actsW T v (bfs T v x i)[i].w)[j] p q (badJ T v x i j) tv rows T lo hi _ _ a hrd h2 (by rw [h3]) hok.in_ hz.1 hJ.rd hT hJ.bad hJ.tab (by omega) hpl).mono ?_
    rintro e b ⟨rfl, hm, hb⟩
    refine ⟨hm, .inl ⟨rfl, ⟨?_, (hm.block q (by omega) (.inl hqp)).trans hJ.tab, hJ.rd.keep (hm.same (by omega) (.inl (by omega)))⟩⟩⟩
    rw [badJ_step hi2 hj]
    exact hb
set_option maxRecDepth 100000 in
set_option maxHeartbeats 16000000 in
theorem impl_Explore (tv : Value) (rows : List SV) (T : Tab) (lo hi : Nat) (v : Wtc) (x : Wld) (w : World) (h : TabR lo hi w tv rows T) (hhi : hi ≤ w.heap.size) :
    Calls Try.prog 33 #[tv, .agg v.cells.toArray, .agg x.cells.toArray] w (fun e w' => ∃ (ra : Int) (rb : Bool) (rc : Int), e = .returned (.tuple #[.int .i64 ra, .bool rb, .int .i64 rc]) ∧ ExpRes T v x ra rb rc ∧ Below (w).heap.size w w') := by
  have hC := fun w' (hb : Below w.heap.size w w') => impl_Code tv rows T lo hi v x w' (h.ext hb)
  have hB0 : ∀ A B C : Obj, Below w.heap.size w (((w.alloc A).alloc B).alloc C) := fun A B C => (((Below.refl _ w).alloc (Nat.le_refl _) _).alloc (by simp) _).alloc (by simp; omega) _
  have HB0 := Lib.hid hB0
  have H := Lib.hid h
  clear hB0
  obtain ⟨⟨ta, tc, rfl, -, -⟩, -, -⟩ := h
  generalize htn : rows.length = tn at *
  clear htn
  have a0 := Lib.hid (alloc3 w (.cells #[.slice ta tn tc] 45 (0, 0)) (.cells #[.int .i64 v.margin, .int .i64 v.lost] 49 (0, 0)) (.cells #[.int .i64 x.a, .int .i64 x.b, .int .i64 x.seenA, .int .i64 x.seenB, .int .i64 x.ageA, .int .i64 x.ageB] 51 (0, 0)))
  rcases codeW_cases T v x with hc | hc | ⟨hc, hT, hx⟩
  · have Hr := Lib.hid (show ExpRes T v x 0 false 8 from .inl ⟨by omega, rfl, rfl, hc.symm⟩)
    rw [hc] at hC
    clear hc
    simp only [Wtc.cells, Wld.cells] at *
    have HC := Lib.hid hC
    clear hC
    go_enter Try.func33, Try.ntmps33
    go_wp2_with (first | (go_at_call 63; refine (HC.out _ (HB0.out _ _ _)).mono ?_; rintro e w2 ⟨rfl, hb2⟩))
    exact bodyPost_ret (v := .tuple #[.int .i64 0, .bool false, .int .i64 8]) (by simp [results, Try.results33, go_sem]) rfl ⟨0, false, 8, rfl, Hr.out, (HB0.out _ _ _).trans (hb2.mono (by simp <;> omega))⟩
  · have Hr := Lib.hid (show ExpRes T v x 0 false 1 from .inl ⟨by omega, rfl, rfl, hc.symm⟩)
    rw [hc] at hC
    clear hc
    simp only [Wtc.cells, Wld.cells] at *
    have HC := Lib.hid hC
    clear hC
    go_enter Try.func33, Try.ntmps33
    go_wp2_with (first | (go_at_call 63; refine (HC.out _ (HB0.out _ _ _)).mono ?_; rintro e w2 ⟨rfl, hb2⟩))
    exact bodyPost_ret (v := .tuple #[.int .i64 0, .bool false, .int .i64 1]) (by simp [results, Try.results33, go_sem]) rfl ⟨0, false, 1, rfl, Hr.out, (HB0.out _ _ _).trans (hb2.mono (by simp <;> omega))⟩
  · have Hc := Lib.hid hc
    rw [hc] at hC
    have HX := (fun p q w' (h : TabR lo hi w' (.slice ta tn tc) rows T) hhi hqp hp hq => impl_explore1 (.slice ta tn tc) rows T lo hi v x p q w' h hT hx hhi hqp hp hq)
    clear hc hT hx
    simp only [Wtc.cells, Wld.cells] at hC HX ⊢
    have HC := Lib.hid hC
    have HX := Lib.hid HX
    clear hC
    go_enter Try.func33, Try.ntmps33
    go_wp2_with fail
    refine (HC.out _ (HB0.out _ _ _)).mono ?_
    rintro e w2 ⟨rfl, hb2⟩
    have B2 := (HB0.out _ _ _).trans (hb2.mono (by simp <;> omega))
    have e0 := blk_below' hb2 a0.out.1
    have e1 := blk_below' hb2 a0.out.2.1
    have e2 := blk_below' hb2 a0.out.2.2
    have hs3 : w.heap.size + 1 + 1 < w2.heap.size := (Array.getElem?_eq_some_iff.1 e2).1
    have hs1 : w.heap.size < w2.heap.size := by omega
    have hs2 : w.heap.size + 1 < w2.heap.size := by omega
    have t0 : w2.cell? ⟨w.heap.size, 0, none⟩ = some _ := (Lib.cell_of_heap e0 0).trans rfl
    have c0 : w2.cell? ⟨w.heap.size + 1, 0, none⟩ = some _ := (Lib.cell_of_heap e1 0).trans rfl
    have c1 : w2.cell? ⟨w.heap.size + 1, 1, none⟩ = some _ := (Lib.cell_of_heap e1 1).trans rfl
    have d0 : w2.cell? ⟨w.heap.size + 1 + 1, 0, none⟩ = some _ := (Lib.cell_of_heap e2 0).trans rfl
    have d1 : w2.cell? ⟨w.heap.size + 1 + 1, 1, none⟩ = some _ := (Lib.cell_of_heap e2 1).trans rfl
    have d2 : w2.cell? ⟨w.heap.size + 1 + 1, 2, none⟩ = some _ := (Lib.cell_of_heap e2 2).trans rfl
    have d3 : w2.cell? ⟨w.heap.size + 1 + 1, 3, none⟩ = some _ := (Lib.cell_of_heap e2 3).trans rfl
    have d4 : w2.cell? ⟨w.heap.size + 1 + 1, 4, none⟩ = some _ := (Lib.cell_of_heap e2 4).trans rfl
    have d5 : w2.cell? ⟨w.heap.size + 1 + 1, 5, none⟩ = some _ := (Lib.cell_of_heap e2 5).trans rfl
    have E0 := Lib.hid e0
    clear e0 e1 e2 a0 hb2
    go_wp2_with fail
    have hba : Below w2.heap.size w2 (w2.alloc (.cells #[.bool false] 4 (0, 0))) := (Below.refl _ _).alloc (Nat.le_refl _) _
    refine (HX.out w2.heap.size w.heap.size _ (H.out.ext (B2.alloc B2.size _)) hhi (by omega) (blk_new _ _) ((hba.block _ (by omega)).trans E0.out)).mono ?_
    rintro e w4 ⟨hm, (⟨n, a, c, hn, rfl, hJ⟩ | ⟨_, _, hF⟩)⟩
    · have B4 := Lib.hid (B2.trans ((show Below w2.heap.size w2 w4 from ⟨hm.os.trans hba.os, hm.tape.trans hba.tape, hm.output.trans hba.output, Nat.le_trans hba.size hm.size, fun k hk => (hm.block k (Nat.lt_of_lt_of_le hk hba.size) (.inl hk)).trans (hba.block k hk)⟩).mono B2.size))
      have hb := hJ.bad
      rw [badJ_0] at hb
      have m0 : w4.cell? ⟨w2.heap.size, 0, none⟩ = some (.bool (badN T v x n)) := (Lib.cell_of_heap hb 0).trans rfl
      have Hr := Lib.hid (show ExpRes T v x (n : Int) (badN T v x n) 0 from .inr ⟨Hc.out, rfl, n, rfl, hn, rfl⟩)
      clear hm hJ hb hn hba
      go_wp2_with fail
      go_quiet (fail)
      go_wp2
      exact bodyPost_ret (v := .tuple #[.int .i64 n, .bool (badN T v x n), .int .i64 0]) (by simp [results, Try.results33, go_sem]) rfl ⟨_, _, _, rfl, Hr.out, below_dN B4.out _⟩
    · exact hF.elim
section
variable {α : Type} {c : α → List Value} {n bytes : Nat} {P : Program} {o : Oper} {a : Act}
theorem wp_appN {w : World} {K : Act → World → Prop} {Q : Exit → Act → World → Prop} (s x : Operand) (t e : TypeId) (ho : o.op = .call { callee := .builtin .append, args := #[s, x], argTypes := #[t, t] }) (ht : P.underlying t = some (.slice e))
    (hinfo : (P.info? e).map (fun i => (i.zero.map (·.cells.size), i.size, i.bytes)) = some (some n, n, bytes)) (hn0 : 0 < n) (hc : ∀ x, (c x).length = n) (h1 : ∀ x, ∀ u ∈ c x, u.oneCell' = true)
    (lo : Nat) (l0 l : List α) (v : Value) (hs : a.eval s = v) (hown : Own n c lo e w v l0) (lo2 hi2 b off cap : Nat) (hx : a.eval x = .slice (some ⟨b, off, none⟩) l.length cap) (hr : Sl n c lo2 hi2 w (.slice (some ⟨b, off, none⟩) l.length cap) l)
    (hb : (l0.length + l.length) * bytes ≤ 140737488355328) (hm : l0.length + l.length ≤ 9223372036854775807) (hlo : lo ≤ w.heap.size)
    (h : ∀ v' w', Own n c lo e w' v' (l0 ++ l) → w.grownBy w' v.ownBlock → K (a.put o.dst v') w') : o.wp P a w K Q := by
  obtain ⟨i, hi, hzz⟩ := Option.map_eq_some_iff.1 hinfo
  simp only [Prod.mk.injEq] at hzz
  obtain ⟨hz, hsz, hby⟩ := hzz
  obtain ⟨z, hz, hzs⟩ := Option.map_eq_some_iff.1 hz
  refine wp_append_own _ s x t ho lo e i z n bytes ht hi hz hsz hby hzs hn0 v l0.length (l0.flatMap c) hs hown ⟨b, off, none⟩ l.length cap (l.flatMap c) hx (flat_len hc l) ?_ ?_ (by unfold maxLen; omega) hb hlo ?_
  · intro j u hu
    obtain ⟨i, jj, hi, rfl, hu'⟩ := flat_at hc l j u hu
    have := hr.get i hi jj u hu'
    have hadd : (⟨b, off, none⟩ : Addr).add (i * n + jj) = ⟨b, off + i * n + jj, none⟩ := by
      unfold Addr.add; split
      · rw [show off + i * n + jj = off from by omega]
      · simp only [Nat.add_assoc]
    rw [hadd]; exact this
  · intro u hu
    obtain ⟨x, _, hx⟩ := List.mem_flatMap.1 hu
    exact h1 x u hx
  · intro v' w' h2 h3 _
    refine h v' w' ?_ h3
    show w'.ownsRow lo e n v' (l0 ++ l).length ((l0 ++ l).flatMap c)
    rw [List.length_append, List.flatMap_append]
    exact h2
theorem step_appN {w : World} {ops : Array Oper} {K : Act → World → Prop} {Q : Exit → Act → World → Prop} {E : Prop} (hgd : o.guard = none) (s x : Operand) (t e : TypeId) (ho : o.op = .call { callee := .builtin .append, args := #[s, x], argTypes := #[t, t] }) (ht : P.underlying t = some (.slice e))
    (hinfo : (P.info? e).map (fun i => (i.zero.map (·.cells.size), i.size, i.bytes)) = some (some n, n, bytes)) (hn0 : 0 < n) (hc : ∀ x, (c x).length = n) (h1 : ∀ x, ∀ u ∈ c x, u.oneCell' = true)
    (lo : Nat) (l0 l : List α) (v : Value) (hs : a.eval s = v) (hown : Own n c lo e w v l0) (lo2 hi2 b off cap : Nat) (hx : a.eval x = .slice (some ⟨b, off, none⟩) l.length cap) (hr : Sl n c lo2 hi2 w (.slice (some ⟨b, off, none⟩) l.length cap) l)
    (hb : (l0.length + l.length) * bytes ≤ 140737488355328) (hm : l0.length + l.length ≤ 9223372036854775807) (hlo : lo ≤ w.heap.size)
    (h : ∀ v' w', Own n c lo e w' v' (l0 ++ l) → w.grownBy w' v.ownBlock → K (a.put o.dst v') w') :
    if Region.wanted o (yielded ops a.tmps) = true then o.wp P a w K Q else E := by
  rw [if_pos (by simp [Region.wanted, hgd])]
  exact wp_appN s x t e ho ht hinfo hn0 hc h1 lo l0 l v hs hown lo2 hi2 b off cap hx hr hb hm hlo h
end
theorem Vis.at2 {w : World} {b off : Nat} {l : List Vis} (hc : ∀ i (h : i < l.length) j u, (Vis.cells l[i])[j]? = some u → w.cell? ⟨b, off + i * 11 + j, none⟩ = some u) {k : Nat} (hk : k < l.length) :
    w.cell? ⟨b, off + k * 11 + 6, none⟩ = some (.int .i64 l[k].from_) ∧ w.cell? ⟨b, off + k * 11 + 7, none⟩ = some (.int .i64 l[k].act.turnA) ∧ w.cell? ⟨b, off + k * 11 + 8, none⟩ = some (.int .i64 l[k].act.turnB) ∧ w.cell? ⟨b, off + k * 11 + 9, none⟩ = some (.bool l[k].act.loseA) ∧ w.cell? ⟨b, off + k * 11 + 10, none⟩ = some (.bool l[k].act.loseB) :=
  ⟨hc k hk 6 _ rfl, hc k hk 7 _ rfl, hc k hk 8 _ rfl, hc k hk 9 _ rfl, hc k hk 10 _ rfl⟩
/-- What the function answers at an act. -/
def Do2 (T : Tab) (y : Wld) (z : Act1) (pth : List Act1) (p : Nat) (w : World) (e : Ending) (w' : World) : Prop :=
  Mod p (p + 1) w w' ∧ ((unsafeB T y z = false ∧ e = .returned (.bool true) ∧ w'.heap[p]? = some (.cells #[.slice none 0 0] 55 (0, 0))) ∨
    (unsafeB T y z = true ∧ e = .returned (.bool false) ∧ ∃ ov, w'.heap[p]? = some (.cells #[ov] 55 (0, 0)) ∧ Own 4 Act1.cells w.heap.size 59 w' ov (pth ++ [z])))
set_option maxRecDepth 100000 in
set_option maxHeartbeats 16000000 in
theorem impl_do2 {v : Wtc} (av : Value) (L0 Lk : List Vis) (i : Nat) (y : Wld) (z : Act1) (pth : List Act1) (p q : Nat) (tv : Value) (rows : List SV) (T : Tab) (lo hi lo2 hi2 : Nat) (w : World) (hr : Sl 11 Vis.cells lo2 hi2 w av Lk) (hvo : VisOk v L0) (hpre : L0 <+: Lk) (hpth : PathTo L0 i pth) (hi2 : i < Lk.length) (hy : Lk[i].w = y) (hin : y.in_) (hz : Trn z.turnA ∧ Trn z.turnB)
    (hTab : TabR lo hi w tv rows T) (hT : TabOk T) (hp : w.heap[p]? = some (.cells #[.slice none 0 0] 55 (0, 0))) (hq : w.heap[q]? = some (.cells #[tv] 45 (0, 0))) (_ : p ≠ q) (hplo : p < lo2) :
    Calls Try.prog 78 #[av, .int .i64 i, .agg z.cells.toArray, .pointer (some ⟨q, 0, none⟩), .pointer (some ⟨p, 0, none⟩)] w (Do2 T y z pth p w) := by
  have hun := fun w' (hb : Below w.heap.size w w') => impl_unsafe tv rows T lo hi y z w' (hTab.ext hb) hT hin hz.1 hz.2
  have hlr := Lib.hid hr
  have Hvo := Lib.hid hvo
  have Hpre := Lib.hid hpre
  have Hpth := Lib.hid hpth
  have hL20 := hvo.len
  have hpl20 := path_len hvo hpth
  have hil := hpth.lt
  obtain ⟨⟨ta, tc, rfl, -, -⟩, -, -⟩ := hTab
  generalize rows.length = tn at *
  obtain ⟨oa, oc, rfl, -, -⟩ := hr
  obtain ⟨ob, oo, rfl⟩ := Sl.addr hlr.out (by omega)
  have hobp : ob ≠ p := by
    obtain ⟨_, _, hv, _, hh⟩ := hlr.out
    obtain ⟨b', o', he, hl1, _⟩ := hh (by omega)
    cases hv
    cases he
    omega
  obtain ⟨p0, p1, p2, p3, p4, p5⟩ := Vis.at hlr.out.get hi2
  rw [hy] at p0 p1 p2 p3 p4 p5
  have hob := World.block_lt_of_cell? w _ p0
  have hpl := (Array.getElem?_eq_some_iff.1 hp).1
  have t0 : w.cell? ⟨q, 0, none⟩ = some (.slice ta tn tc) := (Lib.cell_of_heap hq 0).trans rfl
  have hql := World.block_lt_of_cell? w _ t0
  have Hp := Lib.hid hp
  simp only [Wld.cells, Act1.cells] at *
  have HU := Lib.hid hun
  clear hun hp hq hy hin hz hvo hpre hpth
  have hx := blk_new w (.cells #[.int .i64 (z).turnA, .int .i64 (z).turnB, .bool (z).loseA, .bool (z).loseB] 59 (0, 0))
  have hba : Below w.heap.size w (w.alloc (.cells #[.int .i64 (z).turnA, .int .i64 (z).turnB, .bool (z).loseA, .bool (z).loseB] 59 (0, 0))) := (Below.refl _ _).alloc (Nat.le_refl _) _
  obtain ⟨h1, h2⟩ := bcell hba
  have e0 := (h1 q 0 hql).trans t0
  have r0 := (h1 ob _ hob).trans p0
  have r1 := (h1 ob _ hob).trans p1
  have r2 := (h1 ob _ hob).trans p2
  have r3 := (h1 ob _ hob).trans p3
  have r4 := (h1 ob _ hob).trans p4
  have r5 := (h1 ob _ hob).trans p5
  have Hba := Lib.hid hba
  clear h1 h2 t0 p0 p1 p2 p3 p4 p5 hba
  unfold Do2
  go_enter Try.func78, Try.ntmps78
  go_wp2_with fail
  obtain ⟨W1, hW1⟩ : ∃ W1, w.alloc (.cells #[.int .i64 (z).turnA, .int .i64 (z).turnB, .bool (z).loseA, .bool (z).loseB] 59 (0, 0)) = W1 := ⟨_, rfl⟩
  have hs1 : W1.heap.size = w.heap.size + 1 := by rw [← hW1]; simp
  rw [hW1] at e0 r0 r1 r2 r3 r4 r5 Hba hx ⊢
  clear hW1
  have hq1 : q < W1.heap.size := by omega
  have hw1 : w.heap.size < W1.heap.size := by omega
  have ho1 : ob < W1.heap.size := by omega
  have x0 : W1.cell? ⟨w.heap.size, 0, none⟩ = some (.int .i64 z.turnA) := (Lib.cell_of_heap hx 0).trans rfl
  have x1 : W1.cell? ⟨w.heap.size, 1, none⟩ = some (.int .i64 z.turnB) := (Lib.cell_of_heap hx 1).trans rfl
  have x2 : W1.cell? ⟨w.heap.size, 2, none⟩ = some (.bool z.loseA) := (Lib.cell_of_heap hx 2).trans rfl
  have x3 : W1.cell? ⟨w.heap.size, 3, none⟩ = some (.bool z.loseB) := (Lib.cell_of_heap hx 3).trans rfl
  have Hx := Lib.hid hx
  clear hx
  go_region_held3 (fun w' => (∀ b' o', b' < W1.heap.size → w'.cell? ⟨b', o', none⟩ = W1.cell? ⟨b', o', none⟩) ∧ Below W1.heap.size W1 w') (first | (refine heldB ?_; exact (Below.refl _ _).drew) | (refine heldB ?_; exact b3))
    (first | (go_at_call 77; refine (HU.out _ Hba.out.drew).mono ?_; rintro e w3 ⟨rfl, hb3⟩; have b3 : Below W1.heap.size W1 w3 := (Below.refl _ _).drew.trans hb3))
  rename_i hHeld
  clear hHeld e0 r0 r1 r2 r3 r4 r5 x0 x1 x2 x3 hb3
  have B3 := Lib.hid (Hba.out.trans (b3.mono (Nat.le_of_lt hw1)))
  have P3 := Lib.hid ((B3.out.block p hpl).trans Hp.out)
  have X3 := (b3.block _ hw1).trans Hx.out
  have y0 : w3.cell? ⟨w.heap.size, 0, none⟩ = some (.int .i64 z.turnA) := (Lib.cell_of_heap X3 0).trans rfl
  have y1 : w3.cell? ⟨w.heap.size, 1, none⟩ = some (.int .i64 z.turnB) := (Lib.cell_of_heap X3 1).trans rfl
  have y2 : w3.cell? ⟨w.heap.size, 2, none⟩ = some (.bool z.loseA) := (Lib.cell_of_heap X3 2).trans rfl
  have y3 : w3.cell? ⟨w.heap.size, 3, none⟩ = some (.bool z.loseB) := (Lib.cell_of_heap X3 3).trans rfl
  have hs3 := B3.out.size
  have hp3 : p < w3.heap.size := Nat.lt_of_lt_of_le hpl hs3
  have m0 : w3.cell? ⟨p, 0, none⟩ = some (.slice none 0 0) := (Lib.cell_of_heap P3.out 0).trans rfl
  have mf : w3.frozen? ⟨p, 0, none⟩ = false := Lib.frozen_of_heap P3.out 0
  clear b3 X3 Hx
  cases hub : unsafeB T y z with
  | false =>
    have hg : (!false) = true := rfl
    go_wp2
    go_ret
    exact ⟨Mod.of_below B3.out, .inl ⟨hub, rfl, P3.out⟩⟩
  | true =>
    obtain ⟨w4, hw4⟩ : ∃ w4, w3.setCell ⟨p, 0, none⟩ (.slice (some ⟨w3.heap.size, 0, none⟩) 1 1) = w4 := ⟨_, rfl⟩
    have hs4 : w4.heap.size = w3.heap.size := by rw [← hw4]; simp
    have P4 : w4.heap[p]? = some (.cells #[.slice (some ⟨w3.heap.size, 0, none⟩) 1 1] 55 (0, 0)) := by rw [← hw4]; simp [World.setCell, Array.getElem?_modify, P3.out]
    have M4 : Mod p (p + 1) w w4 := by rw [← hw4]; exact (Mod.of_below B3.out).setCell (p := ⟨p, 0, none⟩) (Nat.le_refl _) (Nat.lt_succ_self _) _
    have O5 := World.ownsRow_lit (base := w.heap.size) (e := 59) (size := 4) w4 #[.int .i64 z.turnA, .int .i64 z.turnB, .bool z.loseA, .bool z.loseB] 1 (by omega) (by unfold maxLen; omega) rfl
    rw [hs4] at O5
    have O5 : Hid (Own 4 Act1.cells w.heap.size 59 (w4.alloc (.cells #[.int .i64 (z).turnA, .int .i64 (z).turnB, .bool (z).loseA, .bool (z).loseB] 59 (0, 0))) (.slice (some ⟨w3.heap.size, 0, none⟩) 1 1) [z]) := Lib.hid O5
    have P5 : Hid ((w4.alloc (.cells #[.int .i64 (z).turnA, .int .i64 (z).turnB, .bool (z).loseA, .bool (z).loseB] 59 (0, 0))).heap[p]? = some (.cells #[.slice (some ⟨w3.heap.size, 0, none⟩) 1 1] 55 (0, 0))) := Lib.hid ((Below.heap_alloc w4 (.cells #[.int .i64 (z).turnA, .int .i64 (z).turnB, .bool (z).loseA, .bool (z).loseB] 59 (0, 0)) p (by omega)).trans P4)
    have M5 : Mod p (p + 1) w (w4.alloc (.cells #[.int .i64 (z).turnA, .int .i64 (z).turnB, .bool (z).loseA, .bool (z).loseB] 59 (0, 0))) := M4.then ((Below.refl _ _).alloc (Nat.le_refl _) _)
    have Hub := Lib.hid hub
    have Hw4 := Lib.hid hw4
    clear hub hw4 hs4 P4 M4
    go_wp2_with fail
    rw [Hw4.out]
    obtain ⟨w5, hw5⟩ : ∃ w5, w4.alloc (.cells #[.int .i64 (z).turnA, .int .i64 (z).turnB, .bool (z).loseA, .bool (z).loseB] 59 (0, 0)) = w5 := ⟨_, rfl⟩
    rw [hw5] at O5 P5 M5 ⊢
    clear hw5 Hw4 y0 y1 y2 y3 m0 mf hs3 hp3 P3 B3
    go_loopw [9] (fun io wr => ∃ (k : Nat) (acc p' : List Act1) (ov : Value), io = .int .i64 k ∧ Hid (PathTo L0 k p') ∧ Hid (p' ++ acc = pth ++ [z]) ∧ 0 < acc.length ∧ Hid (wr.heap[p]? = some (.cells #[ov] 55 (0, 0))) ∧ Hid (Own 4 Act1.cells w.heap.size 59 wr ov acc) ∧ Mod p (p + 1) w wr) (fun io _ => (intOf io).toNat)
    case atStart => exact ⟨i, [z], pth, _, rfl, Hpth, Lib.hid rfl, by simp, P5, O5, M5⟩
    case round =>
      clear P5 O5 M5
      obtain ⟨k, acc, p', ov, rfl, hpt, heq, hacc, hP, hO, hM⟩ := hrel
      have hkl := hpt.out.lt
      have hk2 := Nat.lt_of_lt_of_le hkl (Hpre.out.length_le)
      have hget : Lk[k] = L0[k] := (pre_get Hpre.out hkl).2
      have hlacc : acc.length ≤ 20737 := by have := congrArg List.length heq.out; simp at this; omega
      have hszr := hM.size
      rcases hpt.out.back Hvo.out hkl with ⟨-, rfl, rfl⟩ | ⟨j, p'', hj, hjk, hpj, rfl⟩
      · have Hacc : Hid (Own 4 Act1.cells w.heap.size 59 wr ov (pth ++ [z])) := Lib.hid (by have h2 := heq.out; rw [List.nil_append] at h2; rw [← h2]; exact hO.out)
        go_wp2
        go_ret
        exact ⟨hM, .inr ⟨Hub.out, rfl, _, hP.out, Hacc.out⟩⟩
      · have hk0 : 0 < k := by omega
        obtain ⟨g6, g7, g8, g9, g10⟩ := Vis.at2 hlr.out.get hk2
        rw [hget] at g6 g7 g8 g9 g10
        rw [hj] at g6
        have kw : ∀ o, wr.cell? ⟨ob, o, none⟩ = w.cell? ⟨ob, o, none⟩ := fun o => World.cell?_of_block (hM.block ob hob (by omega))
        have g6 := (kw _).trans g6
        have g7 := (kw _).trans g7
        have g8 := (kw _).trans g8
        have g9 := (kw _).trans g9
        have g10 := (kw _).trans g10
        have Hpj := Lib.hid hpj
        have Heq : Hid (p'' ++ (L0[k].act :: acc) = pth ++ [z]) := Lib.hid (by have h2 := heq.out; simpa using h2)
        generalize L0[k].act = za at *
        obtain ⟨ga, gc, rfl⟩ := own_val hO.out
        obtain ⟨gb, go, rfl⟩ := Sl.addr (hO.out.slw Act1.len).1 hacc
        have hobr : ob < wr.heap.size := Nat.lt_of_lt_of_le hob hszr
        have hpr : p < wr.heap.size := Nat.lt_of_lt_of_le hpl hszr
        have d0 : wr.cell? ⟨p, 0, none⟩ = some (.slice (some ⟨gb, go, none⟩) acc.length gc) := (Lib.cell_of_heap (w := wr) hP.out 0).trans rfl
        have hoa : Own 4 Act1.cells w.heap.size 59 ((wr.alloc (.cells #[.int .i64 (za).turnA, .int .i64 (za).turnB, .bool (za).loseA, .bool (za).loseB] 59 (0, 0))).drew) (.slice (some ⟨wr.heap.size, 0, none⟩) 1 1) [za] := World.ownsRow_lit wr.drew #[.int .i64 za.turnA, .int .i64 za.turnB, .bool za.loseA, .bool za.loseB] 1 hszr (by unfold maxLen; omega) rfl
        have hrd := (hO.out.slw Act1.len).1.ext (((Below.refl wr.heap.size wr).alloc (Nat.le_refl _) (.cells #[.int .i64 (za).turnA, .int .i64 (za).turnB, .bool (za).loseA, .bool (za).loseB] 59 (0, 0))).drew)
        have Hba : Below w.heap.size wr ((wr.alloc (.cells #[.int .i64 (za).turnA, .int .i64 (za).turnB, .bool (za).loseA, .bool (za).loseB] 59 (0, 0))).drew) := ((Below.refl w.heap.size wr).alloc hszr _).drew
        have Hoa := Lib.hid hoa
        have Hrd := Lib.hid hrd
        have Hba := Lib.hid Hba
        clear hoa hrd
        clear hj hpj kw hget
        go_wp2_with fail
        refine region_ph 7 (fun w' => ∀ o', w'.cell? ⟨ob, o', none⟩ = wr.cell? ⟨ob, o', none⟩) (fun w' => w'.cell? ⟨p, 0, none⟩ = some (.slice (some ⟨gb, go, none⟩) acc.length gc)) (by kernel_rfl) (fun _ => rfl) d0 (fun hp => ?_)
        refine take_ph 29 (i := 0) rfl rfl (by decide) (by kernel_rfl) (by kernel_rfl) (by kernel_rfl) (fun _ _ _ h => h) (by rfl) (fun w hSw => by (try dsimp only at hSw); go_simp; first | done | with_reducible rfl) hp (fun hp => ?_)
        try simp only [Act.put, List.setIfInBounds_toArray, List.set_cons_zero, List.set_cons_succ]
        refine take_ph 30 (i := 1) rfl rfl (by decide) (by kernel_rfl) (by kernel_rfl) (by kernel_rfl) (fun _ _ _ h => h) (by rfl) (fun w hSw => by (try dsimp only at hSw); go_simp; first | done | with_reducible rfl) hp (fun hp => ?_)
        try simp only [Act.put, List.setIfInBounds_toArray, List.set_cons_zero, List.set_cons_succ]
        refine take_ph 31 (i := 2) rfl rfl (by decide) (by kernel_rfl) (by kernel_rfl) (by kernel_rfl) (fun _ _ _ h => h) (by rfl) (fun w hSw => by (try dsimp only at hSw); go_simp; first | done | with_reducible rfl) hp (fun hp => ?_)
        try simp only [Act.put, List.setIfInBounds_toArray, List.set_cons_zero, List.set_cons_succ]
        refine take_ph 32 (i := 3) rfl rfl (by decide) (by kernel_rfl) (by kernel_rfl) (by kernel_rfl) (fun _ _ _ h => h) (by rfl) (fun w hSw => by (try dsimp only at hSw); go_simp; first | done | with_reducible rfl) hp (fun hp => ?_)
        try simp only [Act.put, List.setIfInBounds_toArray, List.set_cons_zero, List.set_cons_succ]
        refine take_ph 33 (i := 4) rfl rfl (by decide) (by kernel_rfl) (by kernel_rfl) (by kernel_rfl) (fun _ _ _ h => h) (by rfl) (fun w hSw => by (try dsimp only at hSw); go_simp; first | done | with_reducible rfl) hp (fun hp => ?_)
        try simp only [Act.put, List.setIfInBounds_toArray, List.set_cons_zero, List.set_cons_succ]
        refine take_ph1 35 (i := 6) rfl rfl (by decide) (by rfl) (by kernel_rfl) (by kernel_rfl) (by kernel_rfl) (by kernel_rfl) (fun _ _ _ h => h) (by rfl) (fun w hSw hBw => by (try dsimp only at hSw hBw); go_simp; first | done | with_reducible rfl) hp (fun hp => ?_)
        try simp only [Act.put, List.setIfInBounds_toArray, List.set_cons_zero, List.set_cons_succ]
        refine AnyL.one (i := 5) (by kernel_rfl) rfl (fun K hK => ?_)
        go_simp
        refine hK.out _ _ (ph1 (fun o' => Hba.out.cell (p := ⟨ob, o', none⟩) hob) ((Hba.out.cell (p := ⟨p, 0, none⟩) hpl).trans d0)) (fun hp => ?_)
        clear hK
        try simp only [Act.put, List.setIfInBounds_toArray, List.set_cons_zero, List.set_cons_succ]
        refine AnyL.one (i := 7) (by kernel_rfl) rfl (fun K hK => ?_)
        refine step_appN (c := Act1.cells) (bytes := 24) rfl _ _ 55 59 rfl Try.underlying55 info_ActA (by omega) Act1.len Act1.one w.heap.size [za] acc (.slice (some ⟨wr.heap.size, 0, none⟩) 1 1) rfl Hoa.out _ _ gb go gc rfl Hrd.out (by simp; omega) (by simp; omega) (by simp; omega) ?_
        intro v8 w8 hown8 hg8
        obtain ⟨g1, n1, c1, rfl⟩ : ∃ g1 n1 c1, v8 = .slice g1 n1 c1 := (own_val hown8).elim fun a h => h.elim fun c h => ⟨_, _, _, h⟩
        have hb8 : Below w.heap.size wr w8 := Hba.out.grown hg8 (by simp; omega) (fun k hk => by simp [Value.ownBlock] at hk; omega)
        have hP8 := (hb8.block p hpl).trans hP.out
        have d0 : w8.cell? ⟨p, 0, none⟩ = some (.slice (some ⟨gb, go, none⟩) acc.length gc) := (Lib.cell_of_heap (w := w8) hP8 0).trans rfl
        have df : w8.frozen? ⟨p, 0, none⟩ = false := Lib.frozen_of_heap hP8 0
        have hg6 : (w8.setCell ⟨p, 0, none⟩ (.slice g1 n1 c1)).cell? ⟨ob, oo + k * 11 + 6, none⟩ = some (.int .i64 j) := by
          rw [World.cell?_setCell_other _ _ _ _ (fun e => hobp (congrArg Addr.block e).symm)]
          exact (hb8.cell (p := ⟨ob, _, none⟩) hob).trans g6
        have hP9 : (w8.setCell ⟨p, 0, none⟩ (.slice g1 n1 c1)).heap[p]? = some (.cells #[.slice g1 n1 c1] 55 (0, 0)) := by simp [World.setCell, Array.getElem?_modify, hP8]
        have hO9 := own_stay hown8 fun g hg => (Below.heap_setCell w8 ⟨p, 0, none⟩ (.slice g1 n1 c1) g (show g ≠ p from by have := (World.ownsRow.lt hown8 g hg).1; omega))
        have hM9 : Mod p (p + 1) w (w8.setCell ⟨p, 0, none⟩ (.slice g1 n1 c1)) := (show Mod p (p + 1) w w8 from ⟨hb8.os.trans hM.os, hb8.tape.trans hM.tape, hb8.output.trans hM.output, Nat.le_trans hM.size hb8.size, fun k hk ho => (hb8.block k hk).trans (hM.block k hk ho)⟩).setCell (p := ⟨p, 0, none⟩) (Nat.le_refl _) (Nat.lt_succ_self _) _
        have Hb8 := Lib.hid hb8
        have HP9 := Lib.hid hP9
        have HO9 := Lib.hid hO9
        have HM9 := Lib.hid hM9
        clear hown8 hg8 hb8 hP9 hO9 hM9 hP8 g6 g7 g8 g9 g10
        refine hK.out _ _ (ph2 rfl (fun o' => Hb8.out.cell (p := ⟨ob, o', none⟩) hob)) (fun hp => ?_)
        clear hK
        simp only [Act.put, List.setIfInBounds_toArray]
        refine AnyL.one (i := 8) (by kernel_rfl) rfl (fun K hK => ?_)
        go_simp
        refine hK.out _ _ (ph2 rfl (fun o' => ?_)) (fun hp => ?_)
        · rw [World.cell?_setCell_other _ _ _ _ (fun e => hobp (congrArg Addr.block e).symm)]
          exact Hb8.out.cell (p := ⟨ob, o', none⟩) hob
        clear hK
        refine AnyL.done (by kernel_rfl) ?_ _
        generalize w8.setCell ⟨p, 0, none⟩ (.slice g1 n1 c1) = w9 at *
        go_wp2_with fail
        go_roundw
        case rel => exact ⟨j, za :: acc, p'', _, rfl, Hpj, Heq, by simp, HP9, HO9, HM9.out⟩
        case measure => simp [intOf]; omega
theorem FirRes.len {T : Tab} {v : Wtc} {x : Wld} {r : List Act1} {c : Int} (h : FirRes T v x r c) : r.length ≤ 20737 := by
  rcases h with ⟨-, rfl, -⟩ | ⟨hc, ⟨-, i, j, p, h⟩ | ⟨-, rfl, -⟩⟩
  · simp
  · rw [h.all, List.length_append, List.length_singleton]
    rcases codeW_cases T v x with h2 | h2 | ⟨-, -, hx⟩
    · omega
    · omega
    · have := path_len (bfs_ok hx i) h.path
      have := h.lt
      have := (bfs_ok (T := T) hx i).len
      omega
  · simp
/-- What holds while the program looks for the first unsafe act. -/
structure FiJ (T : Tab) (v : Wtc) (x : Wld) (p q : Nat) (tv : Value) (rows : List SV) (lo hi : Nat) (i j : Nat) (w : World) : Prop where
  bad : badJ T v x i j = false
  out : w.heap[p]? = some (.cells #[.slice none 0 0] 55 (0, 0))
  tab : w.heap[q]? = some (.cells #[tv] 45 (0, 0))
  rd : TabR lo hi w tv rows T
/-- What has been found. -/
def FiF (T : Tab) (v : Wtc) (x : Wld) (p B : Nat) (w : World) : Prop :=
  ∃ i j pth r ov, FirstV T v x i j pth r ∧ w.heap[p]? = some (.cells #[ov] 55 (0, 0)) ∧ Own 4 Act1.cells B 59 w ov r
theorem enter97 (args : Array Value) (w : World) : (callFunc 78 args).run Try.prog w = .ok (.enter 78 args) w :=
  callFunc_enter Try.func78 (by kernel_rfl) rfl args w
set_option maxRecDepth 100000 in
set_option maxHeartbeats 8000000 in
theorem impl_explore2 (tv : Value) (rows : List SV) (T : Tab) (lo hi : Nat) (v : Wtc) (x : Wld) (p q : Nat) (w : World) (h : TabR lo hi w tv rows T) (hT : TabOk T) (hx : x.ok v) (hhi : hi ≤ q) (hqp : q < p) (hp : w.heap[p]? = some (.cells #[.slice none 0 0] 55 (0, 0))) (hq : w.heap[q]? = some (.cells #[tv] 45 (0, 0))) :
    Calls Try.prog 75 #[tv, .agg v.cells.toArray, .agg x.cells.toArray, .func (.func 78) #[] #[.pointer (some ⟨q, 0, none⟩), .pointer (some ⟨p, 0, none⟩)]] w (ExplOut T v x p (FiJ T v x p q tv rows lo hi) (FiF T v x p w.heap.size) w) := by
  have hpl := (Array.getElem?_eq_some_iff.1 hp).1
  refine impl_explore 78 q p p (FiJ T v x p q tv rows lo hi) (FiF T v x p w.heap.size) tv rows T lo hi v x w h hT hx (by omega) hpl enter97 ⟨by rw [badJ_0]; rfl, hp, hq, h⟩ ?_ ?_ ?_
  · intro i j a b hJ hb
    exact ⟨hJ.bad, (hb.block p (by omega)).trans hJ.out, (hb.block q (by omega)).trans hJ.tab, hJ.rd.below hb (by omega)⟩
  · intro i a hi2 hJ
    refine ⟨?_, hJ.out, hJ.tab, hJ.rd⟩
    rw [badJ_0, ← badJ_end hi2]
    exact hJ.bad
  · intro i j hi2 hj a av hsz hJ hrd
    have hpre := foldV_pre (bfs T v x i)[i].w i ((actsW T v (bfs T v x i)[i].w).take j) (bfs T v x i)
    obtain ⟨h2, h3⟩ := pre_get hpre hi2
    have hvo := bfs_ok (T := T) hx i
    have hok := hvo.ok i hi2
    have hz := acts_can (List.getElem_mem hj)
    obtain ⟨pth, hpth⟩ := path_ex hvo i i (Nat.le_refl _) hi2
    have hb := hJ.bad
    rw [badJ_go hi2, Bool.or_eq_false_iff] at hb
    refine (impl_do2 av (bfs T v x i) _ i (bfs T v x i)[i].w (actsW T v (bfs T v x i)[i].w)[j] pth p q tv rows T lo hi _ _ a hrd hvo hpre hpth h2 (by rw [h3]) hok.in_ hz.1 hJ.rd hT hJ.out hJ.tab (by omega) hpl).mono ?_
    rintro e b ⟨hm, (⟨hu, rfl, ho⟩ | ⟨hu, rfl, ov, ho, hown⟩)⟩
    · refine ⟨hm, .inl ⟨rfl, ⟨?_, ho, (hm.block q (by omega) (.inl hqp)).trans hJ.tab, hJ.rd.keep (hm.same (by omega) (.inl (by omega)))⟩⟩⟩
      rw [badJ_step hi2 hj, hJ.bad, hu]
      rfl
    · exact ⟨hm, .inr ⟨rfl, i, j, pth, _, ov, ⟨hi2, hb.1, hj, hb.2, hu, hpth, rfl⟩, ho, hown.down hsz⟩⟩
set_option maxRecDepth 100000 in
set_option maxHeartbeats 16000000 in
theorem impl_First (tv : Value) (rows : List SV) (T : Tab) (lo hi : Nat) (v : Wtc) (x : Wld) (w : World) (h : TabR lo hi w tv rows T) (hhi : hi ≤ w.heap.size) :
    Calls Try.prog 34 #[tv, .agg v.cells.toArray, .agg x.cells.toArray] w (FirE T v x w) := by
  have hC := fun w' (hb : Below w.heap.size w w') => impl_Code tv rows T lo hi v x w' (h.ext hb)
  have hB0 : ∀ A B C : Obj, Below w.heap.size w (((w.alloc A).alloc B).alloc C) := fun A B C => (((Below.refl _ w).alloc (Nat.le_refl _) _).alloc (by simp) _).alloc (by simp; omega) _
  have HB0 := Lib.hid hB0
  have H := Lib.hid h
  clear hB0
  obtain ⟨⟨ta, tc, rfl, -, -⟩, -, -⟩ := h
  generalize htn : rows.length = tn at *
  clear htn
  have a0 := Lib.hid (alloc3 w (.cells #[.slice ta tn tc] 45 (0, 0)) (.cells #[.int .i64 v.margin, .int .i64 v.lost] 49 (0, 0)) (.cells #[.int .i64 x.a, .int .i64 x.b, .int .i64 x.seenA, .int .i64 x.seenB, .int .i64 x.ageA, .int .i64 x.ageB] 51 (0, 0)))
  rcases codeW_cases T v x with hc | hc | ⟨hc, hT, hx⟩
  · have Hr := Lib.hid (show FirRes T v x [] 8 from .inl ⟨by omega, rfl, hc.symm⟩)
    rw [hc] at hC
    clear hc
    simp only [Wtc.cells, Wld.cells] at *
    have HC := Lib.hid hC
    clear hC
    go_enter Try.func34, Try.ntmps34
    go_wp2_with (first | (go_at_call 63; refine (HC.out _ (HB0.out _ _ _)).mono ?_; rintro e w2 ⟨rfl, hb2⟩))
    exact bodyPost_ret (v := .tuple #[.slice none 0 0, .int .i64 8]) (by simp [results, Try.results34, go_sem]) rfl ⟨_, [], 8, rfl, Hr.out, slw_nil, (HB0.out _ _ _).trans (hb2.mono (by simp <;> omega))⟩
  · have Hr := Lib.hid (show FirRes T v x [] 1 from .inl ⟨by omega, rfl, hc.symm⟩)
    rw [hc] at hC
    clear hc
    simp only [Wtc.cells, Wld.cells] at *
    have HC := Lib.hid hC
    clear hC
    go_enter Try.func34, Try.ntmps34
    go_wp2_with (first | (go_at_call 63; refine (HC.out _ (HB0.out _ _ _)).mono ?_; rintro e w2 ⟨rfl, hb2⟩))
    exact bodyPost_ret (v := .tuple #[.slice none 0 0, .int .i64 1]) (by simp [results, Try.results34, go_sem]) rfl ⟨_, [], 1, rfl, Hr.out, slw_nil, (HB0.out _ _ _).trans (hb2.mono (by simp <;> omega))⟩
  · have Hc := Lib.hid hc
    rw [hc] at hC
    have HX := (fun p q w' (h : TabR lo hi w' (.slice ta tn tc) rows T) hhi hqp hp hq => impl_explore2 (.slice ta tn tc) rows T lo hi v x p q w' h hT hx hhi hqp hp hq)
    clear hc hT hx
    simp only [Wtc.cells, Wld.cells] at hC HX ⊢
    have HC := Lib.hid hC
    have HX := Lib.hid HX
    clear hC
    have qT : ∀ (w : World) (a : Option Addr) (n c : Nat), (binOp .eql 55 (.slice a n c) (.slice none 0 0)).run Try.prog w = .ok (.bool a.isNone) w := fun w a n c => Lib.run_eql_slice_nil w _ 59 a n c 0 0 Try.underlying55
    go_enter Try.func34, Try.ntmps34
    go_wp2_with fail
    refine (HC.out _ (HB0.out _ _ _)).mono ?_
    rintro e w2 ⟨rfl, hb2⟩
    have B2 := (HB0.out _ _ _).trans (hb2.mono (by simp <;> omega))
    have e0 := blk_below' hb2 a0.out.1
    have e1 := blk_below' hb2 a0.out.2.1
    have e2 := blk_below' hb2 a0.out.2.2
    have hs3 : w.heap.size + 1 + 1 < w2.heap.size := (Array.getElem?_eq_some_iff.1 e2).1
    have hs1 : w.heap.size < w2.heap.size := by omega
    have hs2 : w.heap.size + 1 < w2.heap.size := by omega
    have t0 : w2.cell? ⟨w.heap.size, 0, none⟩ = some _ := (Lib.cell_of_heap e0 0).trans rfl
    have c0 : w2.cell? ⟨w.heap.size + 1, 0, none⟩ = some _ := (Lib.cell_of_heap e1 0).trans rfl
    have c1 : w2.cell? ⟨w.heap.size + 1, 1, none⟩ = some _ := (Lib.cell_of_heap e1 1).trans rfl
    have d0 : w2.cell? ⟨w.heap.size + 1 + 1, 0, none⟩ = some _ := (Lib.cell_of_heap e2 0).trans rfl
    have d1 : w2.cell? ⟨w.heap.size + 1 + 1, 1, none⟩ = some _ := (Lib.cell_of_heap e2 1).trans rfl
    have d2 : w2.cell? ⟨w.heap.size + 1 + 1, 2, none⟩ = some _ := (Lib.cell_of_heap e2 2).trans rfl
    have d3 : w2.cell? ⟨w.heap.size + 1 + 1, 3, none⟩ = some _ := (Lib.cell_of_heap e2 3).trans rfl
    have d4 : w2.cell? ⟨w.heap.size + 1 + 1, 4, none⟩ = some _ := (Lib.cell_of_heap e2 4).trans rfl
    have d5 : w2.cell? ⟨w.heap.size + 1 + 1, 5, none⟩ = some _ := (Lib.cell_of_heap e2 5).trans rfl
    have E0 := Lib.hid e0
    clear e0 e1 e2 a0 hb2
    go_wp2_with fail
    have hba : Below w2.heap.size w2 (w2.alloc (.cells #[.slice none 0 0] 55 (0, 0))) := (Below.refl _ _).alloc (Nat.le_refl _) _
    refine (HX.out w2.heap.size w.heap.size _ (H.out.ext (B2.alloc B2.size _)) hhi (by omega) (blk_new _ _) ((hba.block _ (by omega)).trans E0.out)).mono ?_
    rintro e w4 ⟨hm, hh⟩
    have B4 := Lib.hid (B2.trans ((show Below w2.heap.size w2 w4 from ⟨hm.os.trans hba.os, hm.tape.trans hba.tape, hm.output.trans hba.output, Nat.le_trans hba.size hm.size, fun k hk => (hm.block k (Nat.lt_of_lt_of_le hk hba.size) (.inl hk)).trans (hba.block k hk)⟩).mono B2.size))
    have hs4 := Nat.le_trans B2.size hba.size
    rcases hh with ⟨n, a, c, hn, rfl, hJ⟩ | ⟨av, rfl, i, j, pth, r, ov, hf, ho, hown⟩
    · have hb := hJ.bad
      rw [badJ_0] at hb
      have m0 : w4.cell? ⟨w2.heap.size, 0, none⟩ = some (.slice none 0 0) := (Lib.cell_of_heap hJ.out 0).trans rfl
      have Hr := Lib.hid (show FirRes T v x [] 3 from .inr ⟨Hc.out, .inr ⟨rfl, rfl, n, hn, hb⟩⟩)
      clear hm hJ hb hn hba
      go_wp2
      exact bodyPost_ret (v := .tuple #[.slice none 0 0, .int .i64 3]) (by simp [results, Try.results34, go_sem]) rfl ⟨_, [], 3, rfl, Hr.out, slw_nil, B4.out⟩
    · have hr0 : 0 < r.length := by rw [hf.all]; simp
      obtain ⟨oa, oc, rfl⟩ := own_val hown
      obtain ⟨og, oo, rfl⟩ := Sl.addr (hown.slw Act1.len).1 hr0
      have m0 : w4.cell? ⟨w2.heap.size, 0, none⟩ = some _ := (Lib.cell_of_heap ho 0).trans rfl
      have Hr := Lib.hid (show FirRes T v x r 0 from .inr ⟨Hc.out, .inl ⟨rfl, i, j, pth, hf⟩⟩)
      have Hs := Lib.hid ((hown.down hs4).slw Act1.len)
      clear hm hf ho hown hba
      go_wp2
      exact bodyPost_ret (v := .tuple #[.slice (some ⟨og, oo, none⟩) r.length oc, .int .i64 0]) (by simp [results, Try.results34, go_sem]) rfl ⟨_, r, 0, rfl, Hr.out, Hs.out, B4.out⟩
end Go.Proofs.Ytmkhapgkiecmaaa
