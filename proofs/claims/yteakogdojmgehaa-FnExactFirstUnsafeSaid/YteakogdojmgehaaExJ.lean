/- The program's explorer, whatever it does at each act. -/
import Derived.Test.YteakogdojmgehaaExM
import Derived.Test.YteakogdojmgehaaExB
import Derived.Test.YteakogdojmgehaaRunT
import Derived.Handy
namespace Go.Proofs.Yteakogdojmgehaa
open Go.RowKit Go.Maps Go.WideMaps
def Vis.cells (x : Vis) : List Value := [.int .i64 x.w.a, .int .i64 x.w.b, .int .i64 x.w.seenA, .int .i64 x.w.seenB, .int .i64 x.w.ageA, .int .i64 x.w.ageB, .int .i64 x.from_, .int .i64 x.act.turnA, .int .i64 x.act.turnB, .bool x.act.loseA, .bool x.act.loseB]
theorem Vis.len (x : Vis) : x.cells.length = 11 := rfl
theorem Vis.one (x : Vis) : ∀ u ∈ x.cells, u.oneCell' = true := by
  intro u hu
  simp [Vis.cells] at hu
  rcases hu with rfl | rfl | rfl | rfl | rfl | rfl | rfl | rfl | rfl | rfl | rfl <;> rfl
theorem info_Vis : (Try.prog.info? 108).map (fun i => (i.zero.map (·.cells.size), i.size, i.bytes)) = some (some 11, 11, 80) := by kernel_rfl
theorem Vis.at {w : World} {b off : Nat} {l : List Vis} (hc : ∀ i (h : i < l.length) j u, (Vis.cells l[i])[j]? = some u → w.cell? ⟨b, off + i * 11 + j, none⟩ = some u) {k : Nat} (hk : k < l.length) :
    w.cell? ⟨b, off + k * 11, none⟩ = some (.int .i64 l[k].w.a) ∧ w.cell? ⟨b, off + k * 11 + 1, none⟩ = some (.int .i64 l[k].w.b) ∧ w.cell? ⟨b, off + k * 11 + 2, none⟩ = some (.int .i64 l[k].w.seenA) ∧ w.cell? ⟨b, off + k * 11 + 3, none⟩ = some (.int .i64 l[k].w.seenB) ∧ w.cell? ⟨b, off + k * 11 + 4, none⟩ = some (.int .i64 l[k].w.ageA) ∧ w.cell? ⟨b, off + k * 11 + 5, none⟩ = some (.int .i64 l[k].w.ageB) :=
  ⟨hc k hk 0 _ rfl, hc k hk 1 _ rfl, hc k hk 2 _ rfl, hc k hk 3 _ rfl, hc k hk 4 _ rfl, hc k hk 5 _ rfl⟩
theorem SeenW.same {b : Nat} {l : List Wld} {w w' : World} (h : SeenW b l w) (he : w'.heap[b]? = w.heap[b]?) : SeenW b l w' := by
  obtain ⟨D, ⟨es, clock, e1, e2, e3, e4⟩, h2⟩ := h
  exact ⟨D, ⟨es, clock, he.trans e1, e2, e3, e4⟩, h2⟩
theorem Own.mapNe {α : Type} {n : Nat} {c : α → List Value} {lo g b : Nat} {e : TypeId} {w : World} {v : Value} {l : List α} {m : List Wld} (h : Own n c lo e w v l) (hg : v.ownBlock = some g) (hm : SeenW b m w) : g ≠ b := by
  obtain ⟨D, ⟨es, clock, e1, -⟩, -⟩ := hm
  obtain ⟨h1, h2⟩ := h
  rcases h2 with ⟨rfl, -⟩ | ⟨g', cap, cur, rfl, hb, hgg, -⟩
  · simp [Value.ownBlock] at hg
  · simp [Value.ownBlock] at hg
    subst hg
    intro e0
    subst e0
    rw [hgg] at e1
    cases e1
theorem wpList_seenW_ins {w : World} {ops : Array Oper} {rest : List Oper} {o : Oper} {a : Act} {Q : Exit → Act → World → Prop} (hg : o.guard = none) (m x v : Operand) (hop : o.op = Op.insert 136 m x v)
    (b : Nat) (l : List Wld) (hm : a.eval m = .map (some b)) (h : SeenW b l w) (hl : l.length < maxLen)
    (y : Wld) (hy : y.in_) (hx : a.eval x = .agg y.cells.toArray) (hv : a.eval v = .bool true)
    (hK : ∀ w', SeenW b (l ++ [y]) w' → w.grownBy w' (some b) → wpList Try.prog ops Q rest (a.put o.dst undef) w') : wpList Try.prog ops Q (o :: rest) a w := by
  obtain ⟨D, h1, h2, h3⟩ := h
  refine wpList_plain hg fun K' hK' => ?_
  obtain ⟨w', hrun, r1, r2⟩ := h1.update world_keyed Try.underlying136 hl (key_lit hy) (plainElem_bool Try.underlying4 true)
  unfold Oper.wp
  simp [execOp, hop, hm, hx, hv, hrun, Result.andThen]
  exact hK' _ _ (hK w' (SeenW.put hy h2 h3 r1) r2)
/-- How exploring ends: all is done, or the function has said no. -/
def ExplOut (T : Tab) (v : Wtc) (x : Wld) (p : Nat) (J : Nat → Nat → World → Prop) (F : World → Prop) (w : World) (e : Ending) (w' : World) : Prop :=
  Mod p (p + 1) w w' ∧ ((∃ n a c, DoneV T v x n ∧ e = .returned (.slice a n c) ∧ J n 0 w') ∨ (∃ av, e = .returned av ∧ F w'))
set_option maxRecDepth 100000 in
set_option maxHeartbeats 16000000 in
theorem impl_explore (g : FuncId) (q1 q2 p : Nat) (J : Nat → Nat → World → Prop) (F : World → Prop) (tv : Value) (rows : List SV) (T : Tab) (lo hi : Nat) (v : Wtc) (x : Wld) (w : World) (h : TabR lo hi w tv rows T) (hT : TabOk T) (hx : x.ok v) (hhi : hi ≤ p) (hp : p < w.heap.size)
    (hgc : ∀ (args : Array Value) (w : World), (callFunc g args).run Try.prog w = .ok (.enter g args) w)
    (hJ0 : J 0 0 w) (hJb : ∀ i j a b, J i j a → Below w.heap.size a b → J i j b) (hJn : ∀ i a (_ : i < (bfs T v x i).length), J i (actsW T v (bfs T v x i)[i].w).length a → J (i + 1) 0 a)
    (hdo : ∀ i j (_ : i < (bfs T v x i).length) (_ : j < (actsW T v (bfs T v x i)[i].w).length) (a : World) (av : Value), w.heap.size ≤ a.heap.size → J i j a → Sl 11 Vis.cells w.heap.size a.heap.size a av (foldV (bfs T v x i)[i].w i (bfs T v x i) ((actsW T v (bfs T v x i)[i].w).take j)) →
      Calls Try.prog g #[av, .int .i64 i, .agg ((actsW T v (bfs T v x i)[i].w)[j]).cells.toArray, .pointer (some ⟨q1, 0, none⟩), .pointer (some ⟨q2, 0, none⟩)] a fun e b => Mod p (p + 1) a b ∧ ((e = .returned (.bool true) ∧ J i (j + 1) b) ∨ (e = .returned (.bool false) ∧ F b))) :
    Calls Try.prog 79 #[tv, .agg v.cells.toArray, .agg x.cells.toArray, .func (.func g) #[] #[.pointer (some ⟨q1, 0, none⟩), .pointer (some ⟨q2, 0, none⟩)]] w (ExplOut T v x p J F w) := by
  have HJ0 := Lib.hid hJ0
  have HJb := Lib.hid hJb
  have HJn := Lib.hid hJn
  have HDo := Lib.hid hdo
  have HT := Lib.hid hT
  have H := Lib.hid h
  have Hx := Lib.hid hx
  obtain ⟨⟨ta, tc, rfl, -, -⟩, -, -⟩ := h
  generalize htn : rows.length = tn at *
  clear htn hJ0 hJb hJn hdo hT hx
  simp only [Wtc.cells, Wld.cells]
  have hmm := @run_makeMap Try.prog
  go_enter Try.func79, Try.ntmps79
  have hM0 := SeenW.made (((w.alloc (.cells #[.int .i64 v.margin, .int .i64 v.lost] 53 (0, 0))).alloc (.cells #[.int .i64 (x).a, .int .i64 (x).b, .int .i64 (x).seenA, .int .i64 (x).seenB, .int .i64 (x).ageA, .int .i64 (x).ageB] 55 (0, 0))).alloc (.cells #[.int .i64 x.a, .int .i64 x.b, .int .i64 x.seenA, .int .i64 x.seenB, .int .i64 x.ageA, .int .i64 x.ageB, .int .i64 (-1), .int .i64 0, .int .i64 0, .bool false, .bool false] 108 (0, 0)))
  have hO0 : Own 11 Vis.cells w.heap.size 108 (((w.alloc (.cells #[.int .i64 v.margin, .int .i64 v.lost] 53 (0, 0))).alloc (.cells #[.int .i64 (x).a, .int .i64 (x).b, .int .i64 (x).seenA, .int .i64 (x).seenB, .int .i64 (x).ageA, .int .i64 (x).ageB] 55 (0, 0))).alloc (.cells #[.int .i64 x.a, .int .i64 x.b, .int .i64 x.seenA, .int .i64 x.seenB, .int .i64 x.ageA, .int .i64 x.ageB, .int .i64 (-1), .int .i64 0, .int .i64 0, .bool false, .bool false] 108 (0, 0))) _ [⟨x, -1, zeroA⟩] := World.ownsRow_lit ((w.alloc (.cells #[.int .i64 v.margin, .int .i64 v.lost] 53 (0, 0))).alloc (.cells #[.int .i64 (x).a, .int .i64 (x).b, .int .i64 (x).seenA, .int .i64 (x).seenB, .int .i64 (x).ageA, .int .i64 (x).ageB] 55 (0, 0))) #[.int .i64 x.a, .int .i64 x.b, .int .i64 x.seenA, .int .i64 x.seenB, .int .i64 x.ageA, .int .i64 x.ageB, .int .i64 (-1), .int .i64 0, .int .i64 0, .bool false, .bool false] 1 (by simp; omega) (by unfold maxLen; omega) rfl
  have hV0 : (((w.alloc (.cells #[.int .i64 v.margin, .int .i64 v.lost] 53 (0, 0))).alloc (.cells #[.int .i64 (x).a, .int .i64 (x).b, .int .i64 (x).seenA, .int .i64 (x).seenB, .int .i64 (x).ageA, .int .i64 (x).ageB] 55 (0, 0))).alloc (.cells #[.int .i64 x.a, .int .i64 x.b, .int .i64 x.seenA, .int .i64 x.seenB, .int .i64 x.ageA, .int .i64 x.ageB, .int .i64 (-1), .int .i64 0, .int .i64 0, .bool false, .bool false] 108 (0, 0))).heap[w.heap.size]? = some (.cells #[.int .i64 v.margin, .int .i64 v.lost] 53 (0, 0)) := blk_below' ((Below.refl _ _).alloc (Nat.le_refl _) _) (blk_below' ((Below.refl _ _).alloc (Nat.le_refl _) _) (blk_new w (.cells #[.int .i64 v.margin, .int .i64 v.lost] 53 (0, 0))))
  have hB0 : Below w.heap.size w (((w.alloc (.cells #[.int .i64 v.margin, .int .i64 v.lost] 53 (0, 0))).alloc (.cells #[.int .i64 (x).a, .int .i64 (x).b, .int .i64 (x).seenA, .int .i64 (x).seenB, .int .i64 (x).ageA, .int .i64 (x).ageB] 55 (0, 0))).alloc (.cells #[.int .i64 x.a, .int .i64 x.b, .int .i64 x.seenA, .int .i64 x.seenB, .int .i64 x.ageA, .int .i64 x.ageB, .int .i64 (-1), .int .i64 0, .int .i64 0, .bool false, .bool false] 108 (0, 0))) := (((Below.refl _ _).alloc (Nat.le_refl _) _).alloc (by simp) _).alloc (by simp; omega) _
  have hs0 : (((w.alloc (.cells #[.int .i64 v.margin, .int .i64 v.lost] 53 (0, 0))).alloc (.cells #[.int .i64 (x).a, .int .i64 (x).b, .int .i64 (x).seenA, .int .i64 (x).seenB, .int .i64 (x).ageA, .int .i64 (x).ageB] 55 (0, 0))).alloc (.cells #[.int .i64 x.a, .int .i64 x.b, .int .i64 x.seenA, .int .i64 x.seenB, .int .i64 x.ageA, .int .i64 x.ageB, .int .i64 (-1), .int .i64 0, .int .i64 0, .bool false, .bool false] 108 (0, 0))).heap.size = w.heap.size + 1 + 1 + 1 := by simp only [World.size_alloc]
  simp only [World.size_alloc] at hM0 hO0
  have hO0 := Lib.hid hO0
  have hV0 := Lib.hid hV0
  have hB0 := Lib.hid hB0
  have hs0 := Lib.hid hs0
  have hM0 := Lib.hid hM0
  go_wp2_with (first | (refine wpList_seenW_ins rfl _ _ _ rfl _ [] rfl hM0.out (by unfold maxLen; simp) x Hx.out.in_ rfl rfl ?_; intro w5 hM5 hg5))
  have hO5 : Own 11 Vis.cells w.heap.size 108 w5 _ [⟨x, -1, zeroA⟩] := own_stay hO0.out fun g hg => (hg5.block g (by have := (World.ownsRow.lt hO0.out g hg).2; simp; omega) (by simp [Value.ownBlock] at hg; simp; omega)).trans (((Below.refl _ _).alloc (Nat.le_refl _) _).block g (World.ownsRow.lt hO0.out g hg).2)
  have hV5 : w5.heap[w.heap.size]? = some (.cells #[.int .i64 v.margin, .int .i64 v.lost] 53 (0, 0)) := (hg5.block _ (by simp; omega) (by simp; omega)).trans (((Below.refl _ _).alloc (Nat.le_refl _) _).block _ (by rw [hs0.out]; omega) |>.trans hV0.out)
  have hB5 : Below w.heap.size w w5 := (hB0.out.alloc (by rw [hs0.out]; omega) _).grown hg5 (by simp; omega) (fun k hk => by cases hk; omega)
  have hO5 := Lib.hid hO5
  have hV5 := Lib.hid hV5
  have hM5 := Lib.hid (show SeenW (w.heap.size + 1 + 1 + 1) (worldsV (bfs T v x 0)) w5 from hM5)
  have hJ5 := Lib.hid (HJb.out _ _ _ _ HJ0.out hB5)
  clear hM0 hO0 hV0 hB0 hs0 hg5 hmm HJ0
  go_loopw [9, 11] (fun o io wr => ∃ i : Nat, io = .int .i64 i ∧ i ≤ (bfs T v x i).length ∧ Hid (Own 11 Vis.cells w.heap.size 108 wr o (bfs T v x i)) ∧ Hid (SeenW (w.heap.size + 1 + 1 + 1) (worldsV (bfs T v x i)) wr) ∧ Mod p (p + 1) w wr ∧ Hid (wr.heap[w.heap.size]? = some (.cells #[.int .i64 v.margin, .int .i64 v.lost] 53 (0, 0))) ∧ Hid (J i 0 wr)) (fun _ io _ => 20737 - (intOf io).toNat)
  case atStart => exact ⟨0, rfl, Nat.zero_le _, hO5, hM5, Mod.of_below hB5, hV5, hJ5⟩
  case round =>
    clear hO5 hM5 hV5 hJ5 hB5
    obtain ⟨wo, hwo⟩ : ∃ wo, wo = wr := ⟨wr, rfl⟩
    subst hwo
    obtain ⟨i, rfl, hle, hown, hseen, hM, hV, hJ⟩ := hrel
    have hl20 := (bfs_ok (T := T) Hx.out i).len
    have hsz := hM.size
    by_cases hlt : i < (bfs T v x i).length
    · have Hgo := Lib.hid (bfs_go hlt)
      have hok := (bfs_ok (T := T) Hx.out i).ok i hlt
      have Hvo := Lib.hid (bfs_ok (T := T) Hx.out i)
      have Hpre := Lib.hid (fun (ys : List Act1) => foldV_pre (bfs T v x i)[i].w i ys (bfs T v x i))
      have HJn2 := Lib.hid (fun a => HJn.out i a hlt)
      have HDo2 := Lib.hid (fun j hj => HDo.out i j hlt hj)
      obtain ⟨oa, oc, rfl⟩ := own_val hown.out
      obtain ⟨ob, oo, rfl⟩ := Sl.addr (hown.out.slw Vis.len).1 (by omega)
      obtain ⟨p0, p1, p2, p3, p4, p5⟩ := Vis.at (hown.out.slw Vis.len).1.get hlt
      have hob := World.block_lt_of_cell? wo _ p0
      have hTr := Lib.hid (H.out.keep (hM.same (Nat.le_trans hhi (Nat.le_of_lt hp)) (.inl hhi)))
      have v0 : wo.cell? ⟨w.heap.size, 0, none⟩ = some (.int .i64 v.margin) := (Lib.cell_of_heap hV.out 0).trans rfl
      have v1 : wo.cell? ⟨w.heap.size, 1, none⟩ = some (.int .i64 v.lost) := (Lib.cell_of_heap hV.out 1).trans rfl
      have hvl := World.block_lt_of_cell? wo _ v0
      generalize hy : (bfs T v x i)[i].w = y at *
      have Hy := Lib.hid hy
      clear hy
      generalize hL : bfs T v x i = L at *
      have HL := Lib.hid hL
      clear hL
      have hacts := (fun w' (hb : Below wo.heap.size wo w') => impl_Acts _ rows T lo hi v y w' (hTr.out.ext hb) HT.out Hx.out.1 hok.in_)
      simp only [Wtc.cells, Wld.cells] at hacts
      have hacts := Lib.hid hacts
      go_wp2_with fail
      go_region_held3 (fun w' => (∀ b' o', b' < wo.heap.size → w'.cell? ⟨b', o', none⟩ = wo.cell? ⟨b', o', none⟩) ∧ Below wo.heap.size wo w') (first | (refine heldB ?_; exact (Below.refl _ _).drew) | (refine heldB ?_; exact b2))
        (first | (go_at_call 86; refine (hacts.out _ (Below.refl _ _).drew).mono ?_; rintro e w2 ⟨lv, rfl, hownA, hb2⟩; have b2 : Below wo.heap.size wo w2 := (Below.refl _ _).drew.trans hb2; obtain ⟨la, lc, rfl⟩ := own_val hownA))
      rename_i hHeld
      clear hHeld
      have hownA : Own 4 Act1.cells wo.heap.size 69 w2 (.slice la (actsW T v y).length lc) (actsW T v y) := hownA
      have hO2 := Lib.hid (hown.out.below b2)
      have hS2 := Lib.hid (hseen.out.below b2)
      have hM2 := hM.then b2
      have hV2 := Lib.hid ((b2.block _ hvl).trans hV.out)
      have hJ2 := Lib.hid (HJb.out _ _ _ _ hJ.out (b2.mono hsz))
      have hA2 := Lib.hid hownA
      have HcA := Lib.hid (fun a (ha : a ∈ actsW T v y) => acts_can ha)
      have hA36 : (actsW T v y).length ≤ 36 := actsN_len T v y 36
      have hb2s := b2.size
      generalize hA : actsW T v y = A at *
      clear hA hacts hTr hownA b2 hb2 hown hseen hM hV hJ v0 v1 p0 p1 p2 p3 p4 p5 hvl
      go_wp2_with fail
      go_loopw [9, 36] (fun o io wr => ∃ k : Nat, io = .int .i64 k ∧ k ≤ A.length ∧ Hid (Own 11 Vis.cells w.heap.size 108 wr o (foldV y i L (A.take k))) ∧ Hid (SeenW (w.heap.size + 1 + 1 + 1) (worldsV (foldV y i L (A.take k))) wr) ∧ Mod p (p + 1) w wr ∧ Hid (wr.heap[w.heap.size]? = some (.cells #[.int .i64 v.margin, .int .i64 v.lost] 53 (0, 0))) ∧ Hid (J i k wr) ∧ Hid (Own 4 Act1.cells wo.heap.size 69 wr (.slice la A.length lc) A) ∧ wo.heap.size ≤ wr.heap.size) (fun _ io _ => A.length - (intOf io).toNat)
      case atStart => exact ⟨0, rfl, Nat.zero_le _, hO2, hS2, hM2, hV2, hJ2, hA2, hb2s⟩
      case round =>
        clear hO2 hS2 hM2 hV2 hJ2 hA2
        obtain ⟨k, rfl, hk, hown, hseen, hM, hV, hJ, hownA, hwo⟩ := hrel
        by_cases hlk : k < A.length
        · obtain ⟨lb, lo2, rfl⟩ := Sl.addr (hownA.out.slw Act1.len).1 (by omega)
          obtain ⟨l0, l1, l2, l3⟩ := Act1s.at (hownA.out.slw Act1.len).1.get hlk
          have hlb := World.block_lt_of_cell? wr _ l0
          have Hzc := Lib.hid (HcA.out _ (List.getElem_mem hlk))
          have Hft := Lib.hid (foldV_take (x := y) (i := i) (l := L) hlk)
          have HDo3 := Lib.hid (HDo2.out k hlk)
          have Hvk := Lib.hid (foldV_ok (T := T) hok (A.take k) L (fun a ha => HcA.out a (List.mem_of_mem_take ha)) Hvo.out hlt).1
          have hwk : ∃ hi2 : i < (foldV y i L (A.take k)).length, (foldV y i L (A.take k))[i] = L[i] := pre_get (Hpre.out (A.take k)) hlt
          have Hok2 := Lib.hid (ok_do hok Hzc.out.1.1 Hzc.out.1.2 Hzc.out.2)
          have hdof := (fun w' => impl_after y A[k] w' hok.in_ Hzc.out.1.1 Hzc.out.1.2)
          have Hwi := Lib.hid (show ∃ hi2 : i < (foldV y i L (A.take k)).length, (foldV y i L (A.take k))[i].w = y from ⟨hwk.1, by rw [hwk.2]; exact Hy.out⟩)
          clear hwk
          have Hk := Lib.hid (p := A[k] = A[k]) rfl
          generalize hk0 : A[k] = zk at *
          clear hk0 Hk
          generalize hLk : foldV y i L (A.take k) = Lk at *
          clear hLk
          generalize hd0 : doW y zk = y2 at *
          clear hd0
          simp only [Wld.cells, Act1.cells] at hdof
          have HAf := Lib.hid hdof
          clear hdof
          go_wp2_with fail
          have hba : Below wr.heap.size wr (wr.alloc (.cells #[.int .i64 (zk).turnA, .int .i64 (zk).turnB, .bool (zk).loseA, .bool (zk).loseB] 69 (0, 0))) := (Below.refl _ _).alloc (Nat.le_refl _) _
          have hszr := hM.size
          have hp2 : p < wr.heap.size := Nat.lt_of_lt_of_le hp hszr
          refine (HDo3.out _ _ (Nat.le_trans hszr hba.size) (HJb.out _ _ _ _ hJ.out (hba.mono hszr)) ((hown.out.slw Vis.len).1.ext hba |>.mono (Nat.le_refl _) hba.size)).mono ?_
          rintro e w4 ⟨hm4, (⟨rfl, hJ4⟩ | ⟨rfl, hF4⟩)⟩
          · have hmA : Mod p (p + 1) wr w4 := (Mod.of_below hba).trans hm4
            have hO4 := Lib.hid (Own.mod hown.out hmA (by omega))
            have hS4 := Lib.hid (hseen.out.mod hmA (.inr (by omega)))
            have hM4 := hM.trans hmA
            have hmb := hseen.out.lt
            have hvr := (Array.getElem?_eq_some_iff.1 hV.out).1
            have hV4 := Lib.hid ((hmA.block _ hvr (.inr (by omega))).trans hV.out)
            have hA4 := Lib.hid (Own.mod hownA.out hmA (by omega))
            have hX4 := (hm4.block wr.heap.size (by simp) (.inr (by omega))).trans (blk_new wr (.cells #[.int .i64 (zk).turnA, .int .i64 (zk).turnB, .bool (zk).loseA, .bool (zk).loseB] 69 (0, 0)))
            have hJ4 := Lib.hid hJ4
            have hs4 : wr.heap.size + 1 ≤ w4.heap.size := by have := hm4.size; simpa using this
            have x0 : w4.cell? ⟨wr.heap.size, 0, none⟩ = some (.int .i64 zk.turnA) := (Lib.cell_of_heap hX4 0).trans rfl
            have x1 : w4.cell? ⟨wr.heap.size, 1, none⟩ = some (.int .i64 zk.turnB) := (Lib.cell_of_heap hX4 1).trans rfl
            have x2 : w4.cell? ⟨wr.heap.size, 2, none⟩ = some (.bool zk.loseA) := (Lib.cell_of_heap hX4 2).trans rfl
            have x3 : w4.cell? ⟨wr.heap.size, 3, none⟩ = some (.bool zk.loseB) := (Lib.cell_of_heap hX4 3).trans rfl
            have HX4 := Lib.hid hX4
            have hx4 := (Array.getElem?_eq_some_iff.1 hX4).1
            obtain ⟨hi2, hwi⟩ := Hwi.out
            obtain ⟨oa4, oc4, rfl⟩ := own_val hO4.out
            obtain ⟨ob4, oo4, rfl⟩ := Sl.addr (hO4.out.slw Vis.len).1 (by omega)
            obtain ⟨p0, p1, p2, p3, p4, p5⟩ := Vis.at (hO4.out.slw Vis.len).1.get hi2
            rw [hwi] at p0 p1 p2 p3 p4 p5
            have hob4 := World.block_lt_of_cell? w4 _ p0
            have hi3 : i < Lk.length := hi2
            clear hwi hown hseen hM hV hownA hm4 hmA hba hX4 hJ l0 l1 l2 l3
            have z4 : w4.heap.size ≤ w4.heap.size := Nat.le_refl _
            go_wp2_with fail
            go_region_held3 (fun w' => (∀ b' o', b' < w4.heap.size → w'.cell? ⟨b', o', none⟩ = w4.cell? ⟨b', o', none⟩) ∧ Below w4.heap.size w4 w') (first | (refine heldB ?_; go_grown; done))
              (first | (go_at_call 89; refine (HAf.out _).mono ?_; rintro e w6 ⟨rfl, hb6⟩; have b6 : Below w4.heap.size w4 w6 := Below.trans (by go_grown) (hb6.mono (by go_size)); have z6 := b6.size; have q6 := (bcell hb6).1; have f6 := (bcell hb6).2; have hz6 := fun (k : Nat) (h : k < _) => Nat.lt_of_lt_of_le h hb6.size))
            · rename_i hHeld
              clear hHeld
              have ez := blk_new w6 (.cells #[.int .i64 (y2).a, .int .i64 (y2).b, .int .i64 (y2).seenA, .int .i64 (y2).seenB, .int .i64 (y2).ageA, .int .i64 (y2).ageB] 55 (0, 0))
              have bz : Below w4.heap.size w4 (w6.alloc (.cells #[.int .i64 (y2).a, .int .i64 (y2).b, .int .i64 (y2).seenA, .int .i64 (y2).seenB, .int .i64 (y2).ageA, .int .i64 (y2).ageB] 55 (0, 0))) := b6.alloc b6.size _
              obtain ⟨wz, hwz⟩ : ∃ wz, w6.alloc (.cells #[.int .i64 (y2).a, .int .i64 (y2).b, .int .i64 (y2).seenA, .int .i64 (y2).seenB, .int .i64 (y2).ageA, .int .i64 (y2).ageB] 55 (0, 0)) = wz := ⟨_, rfl⟩
              rw [hwz] at ez bz ⊢
              have hqz : wr.heap.size < w6.heap.size := Nat.lt_of_lt_of_le (by omega) b6.size
              generalize w6.heap.size = qz at *
              clear hb6 q6 f6 hz6 z6 hwz
              have hbw : wr.heap.size < w4.heap.size := hx4
              have hOz := Lib.hid (hO4.out.below bz)
              have hSz := Lib.hid (hS4.out.below bz)
              have hMz := hM4.then bz
              have hVz := Lib.hid ((bz.block _ (by omega)).trans hV4.out)
              have hJz := Lib.hid (HJb.out _ _ _ _ hJ4.out (bz.mono (by omega)))
              have hAz := Lib.hid (hA4.out.below bz)
              have hXz := (bz.block _ hbw).trans HX4.out
              have hqlt := (Array.getElem?_eq_some_iff.1 ez).1
              have hrlt := (Array.getElem?_eq_some_iff.1 hXz).1
              have hzsz : w4.heap.size ≤ wz.heap.size := bz.size
              have c0 : wz.cell? ⟨qz, 0, none⟩ = some (.int .i64 y2.a) := (Lib.cell_of_heap ez 0).trans rfl
              have c1 : wz.cell? ⟨qz, 1, none⟩ = some (.int .i64 y2.b) := (Lib.cell_of_heap ez 1).trans rfl
              have c2 : wz.cell? ⟨qz, 2, none⟩ = some (.int .i64 y2.seenA) := (Lib.cell_of_heap ez 2).trans rfl
              have c3 : wz.cell? ⟨qz, 3, none⟩ = some (.int .i64 y2.seenB) := (Lib.cell_of_heap ez 3).trans rfl
              have c4 : wz.cell? ⟨qz, 4, none⟩ = some (.int .i64 y2.ageA) := (Lib.cell_of_heap ez 4).trans rfl
              have c5 : wz.cell? ⟨qz, 5, none⟩ = some (.int .i64 y2.ageB) := (Lib.cell_of_heap ez 5).trans rfl
              have Ez := Lib.hid ez
              have HXz := Lib.hid hXz
              clear ez hXz bz b6 hO4 hS4 hM4 hV4 hJ4 hA4 HX4 x0 x1 x2 x3 p0 p1 p2 p3 p4 p5
              have hin2 := Lib.hid Hok2.out.in_
              have hlk20 := Hvk.out.len
              have hlk2 : (worldsV Lk).length < maxLen := by rw [show (worldsV Lk).length = Lk.length by simp [worldsV]]; unfold maxLen; omega
              by_cases hmem : y2 ∈ worldsV Lk
              · have hlook := hSz.out.look hin2.out
                rw [decide_eq_true hmem] at hlook
                simp only [Wld.cells] at hlook
                have Hold := Lib.hid (addV_old (x := ⟨y2, i, zk⟩) hmem)
                clear hmem
                go_wp2
                go_roundw
                case rel => exact ⟨k + 1, by go_num, by omega, Lib.hid (by rw [Hft.out, Hold.out]; exact hOz.out), Lib.hid (by rw [Hft.out, Hold.out]; exact hSz.out), hMz, hVz, hJz, hAz, by omega⟩
                case measure => simp [intOf]; omega
              · have hlook := hSz.out.look hin2.out
                rw [decide_eq_false hmem] at hlook
                simp only [Wld.cells] at hlook
                have Hnew := Lib.hid (addV_new (x := ⟨y2, i, zk⟩) hmem)
                clear hmem
                go_wp2_with (first
                  | (at_mapUpdate; refine wpList_seenW_put rfl _ _ _ rfl _ (worldsV Lk) rfl hSz.out hlk2 y2 hin2.out rfl rfl ?_; intro w7 hS7 hg7; have gk7 : ∀ k, k < wz.heap.size → k ≠ w.heap.size + 1 + 1 + 1 → w7.heap[k]? = wz.heap[k]? := fun k h1 h2 => hg7.block k h1 (fun e => h2 (by simpa using e)); have E7 := (gk7 _ hqlt (by omega)).trans Ez.out; have X7 := (gk7 _ hrlt (by omega)).trans HXz.out; have hO7 := Lib.hid (own_stay hOz.out fun g hg => gk7 g (World.ownsRow.lt hOz.out g hg).2 (Own.mapNe hOz.out hg hSz.out)); have a0 : w7.cell? ⟨qz, 0, none⟩ = some (.int .i64 y2.a) := (Lib.cell_of_heap E7 0).trans rfl; have a1 : w7.cell? ⟨qz, 1, none⟩ = some (.int .i64 y2.b) := (Lib.cell_of_heap E7 1).trans rfl; have a2 : w7.cell? ⟨qz, 2, none⟩ = some (.int .i64 y2.seenA) := (Lib.cell_of_heap E7 2).trans rfl; have a3 : w7.cell? ⟨qz, 3, none⟩ = some (.int .i64 y2.seenB) := (Lib.cell_of_heap E7 3).trans rfl; have a4 : w7.cell? ⟨qz, 4, none⟩ = some (.int .i64 y2.ageA) := (Lib.cell_of_heap E7 4).trans rfl; have a5 : w7.cell? ⟨qz, 5, none⟩ = some (.int .i64 y2.ageB) := (Lib.cell_of_heap E7 5).trans rfl; have g0 : w7.cell? ⟨wr.heap.size, 0, none⟩ = some (.int .i64 zk.turnA) := (Lib.cell_of_heap X7 0).trans rfl; have g1 : w7.cell? ⟨wr.heap.size, 1, none⟩ = some (.int .i64 zk.turnB) := (Lib.cell_of_heap X7 1).trans rfl; have g2 : w7.cell? ⟨wr.heap.size, 2, none⟩ = some (.bool zk.loseA) := (Lib.cell_of_heap X7 2).trans rfl; have g3 : w7.cell? ⟨wr.heap.size, 3, none⟩ = some (.bool zk.loseB) := (Lib.cell_of_heap X7 3).trans rfl; clear E7 X7; have hs7 : wz.heap.size ≤ w7.heap.size := hg7.size)
                  | (at_builtin; refine wpList_app1 (c := Vis.cells) (bytes := 80) rfl _ _ 105 108 rfl Try.underlying105 info_Vis (by omega) Vis.len Vis.one w.heap.size Lk ⟨y2, i, zk⟩ _ rfl w7 rfl hO7.out rfl (by omega) (by omega) (by omega) ?_; intro v8 w8 hown8 hg8))
                have gk8 : ∀ k, k < w7.heap.size → ¬ (Value.slice (some ⟨ob4, oo4, none⟩) Lk.length oc4).ownBlock = some k → w8.heap[k]? = w7.heap[k]? := fun k h1 h2 => (hg8.block k (by simp; omega) (fun e => h2 e.symm)).trans (((Below.refl _ _).alloc (Nat.le_refl _) _).block k h1)
                have gk9 : ∀ k, k < wz.heap.size → k ≠ w.heap.size + 1 + 1 + 1 → ¬ (Value.slice (some ⟨ob4, oo4, none⟩) Lk.length oc4).ownBlock = some k → w8.heap[k]? = wz.heap[k]? := fun k h1 h2 h3 => (gk8 k (by omega) h3).trans (gk7 k h1 h2)
                have hs8 : w7.heap.size ≤ w8.heap.size := Nat.le_trans (by simp) hg8.size
                have hbz8 : Below w.heap.size wz w8 := (Below.grown (Below.refl _ _) hg7 (by omega) (fun k hk => by cases hk; omega)).trans (hO7.out.app (Below.refl _ _) (Nat.le_refl _) (by omega) hg8)
                have hw1 : worldsV (Lk ++ [⟨y2, (i : Int), zk⟩]) = worldsV Lk ++ [y2] := by simp [worldsV]
                have hS8 : SeenW (w.heap.size + 1 + 1 + 1) (worldsV Lk ++ [y2]) w8 := SeenW.same hS7 (gk8 _ hS7.lt (fun e => Own.mapNe hO7.out e hS7 rfl))
                have hM8 : Mod p (p + 1) w w8 := ⟨hbz8.os.trans hMz.os, hbz8.tape.trans hMz.tape, hbz8.output.trans hMz.output, Nat.le_trans hMz.size hbz8.size, fun k h1 h2 => (hbz8.block k h1).trans (hMz.block k h1 h2)⟩
                have hV8 : w8.heap[w.heap.size]? = some (.cells #[.int .i64 v.margin, .int .i64 v.lost] 53 (0, 0)) := (gk9 _ (by omega) (by omega) (own_ne hOz.out hVz.out (by decide))).trans hVz.out
                have hJ8 := HJb.out _ _ _ _ hJz.out hbz8
                have hA8 : Own 4 Act1.cells wo.heap.size 69 w8 (.slice (some ⟨lb, lo2, none⟩) A.length lc) A := own_stay hAz.out fun g hg => gk9 g (World.ownsRow.lt hAz.out g hg).2 (Own.mapNe hAz.out hg hSz.out) (own_apart hOz.out hAz.out (by decide) hg)
                have hR := Lib.hid (And.intro hown8 (And.intro hS8 (And.intro hM8 (And.intro hV8 (And.intro hJ8 hA8)))))
                have Hw1 := Lib.hid hw1
                clear hown8 hS8 hM8 hV8 hJ8 hA8 gk8 gk9 gk7 hbz8 hg7 hg8 hS7 hw1 a0 a1 a2 a3 a4 a5 g0 g1 g2 g3 hO7
                go_wp2
                go_roundw
                case rel => exact ⟨k + 1, by go_num, by omega, Lib.hid (by rw [Hft.out, Hnew.out]; exact hR.out.1), Lib.hid (by rw [Hft.out, Hnew.out, Hw1.out]; exact hR.out.2.1), hR.out.2.2.1, Lib.hid hR.out.2.2.2.1, Lib.hid hR.out.2.2.2.2.1, Lib.hid hR.out.2.2.2.2.2, by omega⟩
                case measure => simp [intOf]; omega
            · rename_i hHeld
              clear hHeld
              have ez := six' rfl (blk_below' hb6 (blk_new w4.drew (.cells #[.int .i64 0, .int .i64 0, .int .i64 0, .int .i64 0, .int .i64 0, .int .i64 0] 55))) (a1 := .int .i64 y2.a) (a2 := .int .i64 y2.b) (a3 := .int .i64 y2.seenA) (a4 := .int .i64 y2.seenB) (a5 := .int .i64 y2.ageA) (a6 := .int .i64 y2.ageB)
              have bz := b6.trans (six_below w6 (p := w4.heap.size) (Nat.le_refl _) (a1 := .int .i64 y2.a) (a2 := .int .i64 y2.b) (a3 := .int .i64 y2.seenA) (a4 := .int .i64 y2.seenB) (a5 := .int .i64 y2.ageA) (a6 := .int .i64 y2.ageB))
              change (((((((w6.setCell ⟨w4.heap.size, 0, none⟩ _).setCell ⟨w4.heap.size, 1, none⟩ _).setCell ⟨w4.heap.size, 2, none⟩ _).setCell ⟨w4.heap.size, 3, none⟩ _).setCell ⟨w4.heap.size, 4, none⟩ _).setCell ⟨w4.heap.size, 5, none⟩ _)).heap[w4.heap.size]? = _ at ez
              obtain ⟨wz, hwz⟩ : ∃ wz, ((((((w6.setCell ⟨w4.heap.size, 0, none⟩ (.int .i64 y2.a)).setCell ⟨w4.heap.size, 1, none⟩ (.int .i64 y2.b)).setCell ⟨w4.heap.size, 2, none⟩ (.int .i64 y2.seenA)).setCell ⟨w4.heap.size, 3, none⟩ (.int .i64 y2.seenB)).setCell ⟨w4.heap.size, 4, none⟩ (.int .i64 y2.ageA)).setCell ⟨w4.heap.size, 5, none⟩ (.int .i64 y2.ageB)) = wz := ⟨_, rfl⟩
              rw [hwz] at ez bz ⊢
              have hqz : wr.heap.size < w4.heap.size := by omega
              obtain ⟨qz, hq⟩ : ∃ qz, w4.heap.size = qz := ⟨_, rfl⟩
              rw [hq] at ez hqz ⊢
              clear hq
              clear hb6 q6 f6 hz6 z6 hwz
              have hbw : wr.heap.size < w4.heap.size := hx4
              have hOz := Lib.hid (hO4.out.below bz)
              have hSz := Lib.hid (hS4.out.below bz)
              have hMz := hM4.then bz
              have hVz := Lib.hid ((bz.block _ (by omega)).trans hV4.out)
              have hJz := Lib.hid (HJb.out _ _ _ _ hJ4.out (bz.mono (by omega)))
              have hAz := Lib.hid (hA4.out.below bz)
              have hXz := (bz.block _ hbw).trans HX4.out
              have hqlt := (Array.getElem?_eq_some_iff.1 ez).1
              have hrlt := (Array.getElem?_eq_some_iff.1 hXz).1
              have hzsz : w4.heap.size ≤ wz.heap.size := bz.size
              have c0 : wz.cell? ⟨qz, 0, none⟩ = some (.int .i64 y2.a) := (Lib.cell_of_heap ez 0).trans rfl
              have c1 : wz.cell? ⟨qz, 1, none⟩ = some (.int .i64 y2.b) := (Lib.cell_of_heap ez 1).trans rfl
              have c2 : wz.cell? ⟨qz, 2, none⟩ = some (.int .i64 y2.seenA) := (Lib.cell_of_heap ez 2).trans rfl
              have c3 : wz.cell? ⟨qz, 3, none⟩ = some (.int .i64 y2.seenB) := (Lib.cell_of_heap ez 3).trans rfl
              have c4 : wz.cell? ⟨qz, 4, none⟩ = some (.int .i64 y2.ageA) := (Lib.cell_of_heap ez 4).trans rfl
              have c5 : wz.cell? ⟨qz, 5, none⟩ = some (.int .i64 y2.ageB) := (Lib.cell_of_heap ez 5).trans rfl
              have Ez := Lib.hid ez
              have HXz := Lib.hid hXz
              clear ez hXz bz b6 hO4 hS4 hM4 hV4 hJ4 hA4 HX4 x0 x1 x2 x3 p0 p1 p2 p3 p4 p5
              have hin2 := Lib.hid Hok2.out.in_
              have hlk20 := Hvk.out.len
              have hlk2 : (worldsV Lk).length < maxLen := by rw [show (worldsV Lk).length = Lk.length by simp [worldsV]]; unfold maxLen; omega
              by_cases hmem : y2 ∈ worldsV Lk
              · have hlook := hSz.out.look hin2.out
                rw [decide_eq_true hmem] at hlook
                simp only [Wld.cells] at hlook
                have Hold := Lib.hid (addV_old (x := ⟨y2, i, zk⟩) hmem)
                clear hmem
                go_wp2
                go_roundw
                case rel => exact ⟨k + 1, by go_num, by omega, Lib.hid (by rw [Hft.out, Hold.out]; exact hOz.out), Lib.hid (by rw [Hft.out, Hold.out]; exact hSz.out), hMz, hVz, hJz, hAz, by omega⟩
                case measure => simp [intOf]; omega
              · have hlook := hSz.out.look hin2.out
                rw [decide_eq_false hmem] at hlook
                simp only [Wld.cells] at hlook
                have Hnew := Lib.hid (addV_new (x := ⟨y2, i, zk⟩) hmem)
                clear hmem
                go_wp2_with (first
                  | (at_mapUpdate; refine wpList_seenW_put rfl _ _ _ rfl _ (worldsV Lk) rfl hSz.out hlk2 y2 hin2.out rfl rfl ?_; intro w7 hS7 hg7; have gk7 : ∀ k, k < wz.heap.size → k ≠ w.heap.size + 1 + 1 + 1 → w7.heap[k]? = wz.heap[k]? := fun k h1 h2 => hg7.block k h1 (fun e => h2 (by simpa using e)); have E7 := (gk7 _ hqlt (by omega)).trans Ez.out; have X7 := (gk7 _ hrlt (by omega)).trans HXz.out; have hO7 := Lib.hid (own_stay hOz.out fun g hg => gk7 g (World.ownsRow.lt hOz.out g hg).2 (Own.mapNe hOz.out hg hSz.out)); have a0 : w7.cell? ⟨qz, 0, none⟩ = some (.int .i64 y2.a) := (Lib.cell_of_heap E7 0).trans rfl; have a1 : w7.cell? ⟨qz, 1, none⟩ = some (.int .i64 y2.b) := (Lib.cell_of_heap E7 1).trans rfl; have a2 : w7.cell? ⟨qz, 2, none⟩ = some (.int .i64 y2.seenA) := (Lib.cell_of_heap E7 2).trans rfl; have a3 : w7.cell? ⟨qz, 3, none⟩ = some (.int .i64 y2.seenB) := (Lib.cell_of_heap E7 3).trans rfl; have a4 : w7.cell? ⟨qz, 4, none⟩ = some (.int .i64 y2.ageA) := (Lib.cell_of_heap E7 4).trans rfl; have a5 : w7.cell? ⟨qz, 5, none⟩ = some (.int .i64 y2.ageB) := (Lib.cell_of_heap E7 5).trans rfl; have g0 : w7.cell? ⟨wr.heap.size, 0, none⟩ = some (.int .i64 zk.turnA) := (Lib.cell_of_heap X7 0).trans rfl; have g1 : w7.cell? ⟨wr.heap.size, 1, none⟩ = some (.int .i64 zk.turnB) := (Lib.cell_of_heap X7 1).trans rfl; have g2 : w7.cell? ⟨wr.heap.size, 2, none⟩ = some (.bool zk.loseA) := (Lib.cell_of_heap X7 2).trans rfl; have g3 : w7.cell? ⟨wr.heap.size, 3, none⟩ = some (.bool zk.loseB) := (Lib.cell_of_heap X7 3).trans rfl; clear E7 X7; have hs7 : wz.heap.size ≤ w7.heap.size := hg7.size)
                  | (at_builtin; refine wpList_app1 (c := Vis.cells) (bytes := 80) rfl _ _ 105 108 rfl Try.underlying105 info_Vis (by omega) Vis.len Vis.one w.heap.size Lk ⟨y2, i, zk⟩ _ rfl w7 rfl hO7.out rfl (by omega) (by omega) (by omega) ?_; intro v8 w8 hown8 hg8))
                have gk8 : ∀ k, k < w7.heap.size → ¬ (Value.slice (some ⟨ob4, oo4, none⟩) Lk.length oc4).ownBlock = some k → w8.heap[k]? = w7.heap[k]? := fun k h1 h2 => (hg8.block k (by simp; omega) (fun e => h2 e.symm)).trans (((Below.refl _ _).alloc (Nat.le_refl _) _).block k h1)
                have gk9 : ∀ k, k < wz.heap.size → k ≠ w.heap.size + 1 + 1 + 1 → ¬ (Value.slice (some ⟨ob4, oo4, none⟩) Lk.length oc4).ownBlock = some k → w8.heap[k]? = wz.heap[k]? := fun k h1 h2 h3 => (gk8 k (by omega) h3).trans (gk7 k h1 h2)
                have hs8 : w7.heap.size ≤ w8.heap.size := Nat.le_trans (by simp) hg8.size
                have hbz8 : Below w.heap.size wz w8 := (Below.grown (Below.refl _ _) hg7 (by omega) (fun k hk => by cases hk; omega)).trans (hO7.out.app (Below.refl _ _) (Nat.le_refl _) (by omega) hg8)
                have hw1 : worldsV (Lk ++ [⟨y2, (i : Int), zk⟩]) = worldsV Lk ++ [y2] := by simp [worldsV]
                have hS8 : SeenW (w.heap.size + 1 + 1 + 1) (worldsV Lk ++ [y2]) w8 := SeenW.same hS7 (gk8 _ hS7.lt (fun e => Own.mapNe hO7.out e hS7 rfl))
                have hM8 : Mod p (p + 1) w w8 := ⟨hbz8.os.trans hMz.os, hbz8.tape.trans hMz.tape, hbz8.output.trans hMz.output, Nat.le_trans hMz.size hbz8.size, fun k h1 h2 => (hbz8.block k h1).trans (hMz.block k h1 h2)⟩
                have hV8 : w8.heap[w.heap.size]? = some (.cells #[.int .i64 v.margin, .int .i64 v.lost] 53 (0, 0)) := (gk9 _ (by omega) (by omega) (own_ne hOz.out hVz.out (by decide))).trans hVz.out
                have hJ8 := HJb.out _ _ _ _ hJz.out hbz8
                have hA8 : Own 4 Act1.cells wo.heap.size 69 w8 (.slice (some ⟨lb, lo2, none⟩) A.length lc) A := own_stay hAz.out fun g hg => gk9 g (World.ownsRow.lt hAz.out g hg).2 (Own.mapNe hAz.out hg hSz.out) (own_apart hOz.out hAz.out (by decide) hg)
                have hR := Lib.hid (And.intro hown8 (And.intro hS8 (And.intro hM8 (And.intro hV8 (And.intro hJ8 hA8)))))
                have Hw1 := Lib.hid hw1
                clear hown8 hS8 hM8 hV8 hJ8 hA8 gk8 gk9 gk7 hbz8 hg7 hg8 hS7 hw1 a0 a1 a2 a3 a4 a5 g0 g1 g2 g3 hO7
                go_wp2
                go_roundw
                case rel => exact ⟨k + 1, by go_num, by omega, Lib.hid (by rw [Hft.out, Hnew.out]; exact hR.out.1), Lib.hid (by rw [Hft.out, Hnew.out, Hw1.out]; exact hR.out.2.1), hR.out.2.2.1, Lib.hid hR.out.2.2.2.1, Lib.hid hR.out.2.2.2.2.1, Lib.hid hR.out.2.2.2.2.2, by omega⟩
                case measure => simp [intOf]; omega
          · have Hout := Lib.hid (show Mod p (p + 1) w w4 ∧ F w4 from ⟨(hM.then hba).trans hm4, hF4⟩)
            clear hm4 hF4 hba
            go_wp2
            go_ret
            exact ⟨Hout.out.1, .inr ⟨_, rfl, Hout.out.2⟩⟩
        · obtain rfl : k = A.length := by omega
          have hO9 := hown.out
          rw [List.take_length, ← Hgo.out] at hO9
          have hS9 := hseen.out
          rw [List.take_length, ← Hgo.out] at hS9
          have Hle : Hid (i + 1 ≤ (bfs T v x (i + 1)).length) := Lib.hid (by rw [Hgo.out]; have := (Hpre.out A).length_le; omega)
          have hJ9 := Lib.hid (HJn2.out wr hJ.out)
          have hO9 := Lib.hid hO9
          have hS9 := Lib.hid hS9
          go_wp2
          go_roundw
          case rel => exact ⟨i + 1, by go_num, Hle.out, hO9, hS9, hM, hV, hJ9⟩
          case measure => simp [intOf]; omega
    · have hie : i = (bfs T v x i).length := by omega
      have Hend := Lib.hid (show DoneV T v x i from hie)
      obtain ⟨oa, oc, rfl⟩ := own_val hown.out
      have hlt' : ¬ ((i : Int) < ((bfs T v x i).length : Int)) := by omega
      generalize hn : (bfs T v x i).length = n at *
      obtain rfl : i = n := hie
      clear hn hle hl20 hlt hown hseen hV
      go_wp2
      go_ret
      exact ⟨hM, .inl ⟨_, _, _, Hend.out, rfl, hJ.out⟩⟩
end Go.Proofs.Yteakogdojmgehaa
