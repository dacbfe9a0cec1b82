/- The cranes that can do a lift, as an iterator of the program's: its contract. Whether some crane can do a lift, the program. The cranes that can do a lift, the reference. ImpossibleLifts, in both packages. -/
import Derived.RangeFuncNested
import Derived.RangeFuncBound
import Derived.RangeFuncCalls
import Derived.RangeFuncLeaves
import Derived.Shelf.Abstract
import Derived.Shelf.RegionOpen
import Derived.OwnWalkIn
import Derived.TacticsInMore
import Derived.LoopNIn
import Derived.LoopIn
import Derived.Test.YtdadadiipmenbaaCanI
import Derived.Test.YtdadadiipmenbaaSiteW
import Derived.Test.YtdadadiipmenbaaLiftW
import Derived.RangeFuncFrom
import Derived.Test.YtdadadiipmenbaaOwn
import Derived.Test.YtdadadiipmenbaaLiftsW
namespace Go.Proofs.Ytdadadiipmenbaa
open Go.RowKit
section
open Go.RowKit Go.Shelf
attribute [local go_sem] Oper.semAt_some
/-- Whether the crane with an index can do a lift; those that can, up to an index. -/
noncomputable def canAt (L : SiteL) (g : LiftF) (i : Nat) : Bool := match L[i]? with | none => false | some x => canB x.1 x.2 g
noncomputable def canIx (L : SiteL) (g : LiftF) (k : Nat) : List Nat := (List.range k).filter (canAt L g)
theorem canAt_eq {L : SiteL} {g : LiftF} {k : Nat} (h : k < L.length) : canAt L g k = canB L[k].1 L[k].2 g := by unfold canAt; rw [List.getElem?_eq_getElem h]
theorem canIx_t {L : SiteL} {g : LiftF} {k : Nat} (h : canAt L g k = true) : canIx L g (k + 1) = canIx L g k ++ [k] := by unfold canIx; rw [List.range_succ, List.filter_append]; simp [h]
theorem canIx_f {L : SiteL} {g : LiftF} {k : Nat} (h : canAt L g k = false) : canIx L g (k + 1) = canIx L g k := by unfold canIx; rw [List.range_succ, List.filter_append]; simp [h]
theorem canIx_pre (L : SiteL) (g : LiftF) {k n : Nat} (h : k ≤ n) : canIx L g k <+: canIx L g n := by
  obtain ⟨m, rfl⟩ := Nat.le.dest h
  unfold canIx
  rw [List.range_add, List.filter_append]
  exact List.prefix_append _ _
theorem canIx_len (L : SiteL) (g : LiftF) (k : Nat) : (canIx L g k).length ≤ k := by
  unfold canIx
  have := List.length_filter_le (canAt L g) (List.range k)
  rwa [List.length_range] at this
/-- What the loop's body keeps: all that lay below n₀, and two boxes. -/
def KpA (n₀ p q : Nat) (A B : World) : Prop := Below n₀ A B ∧ (∀ c t f, A.heap[p]? = some (Obj.cells c t f) → B.heap[p]? = some (Obj.cells c t f)) ∧ (∀ c t f, A.heap[q]? = some (Obj.cells c t f) → B.heap[q]? = some (Obj.cells c t f))
theorem KpA.t {n₀ p q : Nat} {A B C : World} (h : KpA n₀ p q A B) (k : KpA n₀ p q B C) : KpA n₀ p q A C :=
  ⟨h.1.trans k.1, fun c t f e => k.2.1 c t f (h.2.1 c t f e), fun c t f e => k.2.2 c t f (h.2.2 c t f e)⟩
theorem KpA.refl (n₀ p q : Nat) (A : World) : KpA n₀ p q A A := ⟨Below.refl _ _, fun _ _ _ e => e, fun _ _ _ e => e⟩
theorem KpA.of {n₀ p q : Nat} {A B : World} (h : Below A.heap.size A B) (hn : n₀ ≤ A.heap.size) : KpA n₀ p q A B :=
  ⟨h.mono hn, fun _ _ _ e => (h.block _ (Array.getElem?_eq_some_iff.1 e).1).trans e, fun _ _ _ e => (h.block _ (Array.getElem?_eq_some_iff.1 e).1).trans e⟩
theorem KpA.b {n₀ p q : Nat} {w : World} (hn : n₀ ≤ w.heap.size) (W : World) (l : Nat) (o o' : Obj) (hl : w.heap.size ≤ l) (h : W.heap[l]? = some o) (ho : o.isCells = false) (hw : o.isWalk = false) : KpA n₀ p q W (W.putObj l o') := by
  have key : ∀ (r : Nat) c t f, W.heap[r]? = some (Obj.cells c t f) → (W.putObj l o').heap[r]? = some (Obj.cells c t f) := by
    intro r c t f e
    have hne : r ≠ l := by
      intro e2
      subst e2
      rw [h] at e
      cases e
      simp [Obj.isCells] at ho
    exact (World.putObj_heap_other hne).trans e
  exact ⟨belowK_b hn W l o o' hl h ho hw, fun c t f e => key p c t f e, fun c t f e => key q c t f e⟩
theorem grown_of {A B : World} (h : Below A.heap.size A B) : A.grownBy B none := ⟨h.os, h.tape, h.output, h.size, fun k hk _ => h.block k hk⟩
theorem abides {J : List Nat → World → Prop} {B0 : Nat} (hJ : AbidesFrom B0 J) {s : List Nat} {A B : World} (h : J s A) (hb : Below A.heap.size A B) : J s B := hJ s A B none h (grown_of hb) (fun r e => by cases e)
set_option maxRecDepth 100000 in
set_option maxHeartbeats 8000000 in
theorem abl_stops (n : Nat) (hn : 1 ≤ n) (p q n₀ : Nat) (a : Option Addr) (cap : Nat) (rs : List CraneR) (L : SiteL) (lo hi : Nat) (g : LiftF) (t : SV) (w : World) (hn₀ : n₀ ≤ w.heap.size) (hhi : hi ≤ n₀)
    (hp : w.heap[p]? = some (.cells #[.slice a L.length cap] 33 (0, 0))) (hq : w.heap[q]? = some (.cells (LiftR.cells ⟨g, t⟩).toArray 70 (0, 0)))
    (hr : Cranes lo hi w (.slice a L.length cap) rs L) (hok : siteOk L) (hg : plainOk g) :
    SeqStopsK Fence.wide n Try.prog 73 #[.pointer (some ⟨p, 0, none⟩), .pointer (some ⟨q, 0, none⟩)] (fun i : Nat => #[Value.int .i64 i]) (KpA n₀ p q) (fun ys => ys = canIx L g L.length) (fun pre => pre <+: canIx L g L.length) L.length w := fun lid J Jx W hW hJ hJx hY h0 => by
  have hp0 := (hW.block _ (Array.getElem?_eq_some_iff.1 hp).1).trans hp
  have hq0 := (hW.block _ (Array.getElem?_eq_some_iff.1 hq).1).trans hq
  have hr0 := hr.ext hW
  have hn0 : n₀ ≤ W.heap.size := Nat.le_trans hn₀ hW.size
  clear hp hq hr hW hn₀ w
  have hcap : L.length ≤ 9223372036854775807 := by obtain ⟨_, _, he, hc, _⟩ := hr0.out; rw [← hr0.len]; omega
  have HR := Lib.hid hr0
  have HP := Lib.hid hp0
  have HQ := Lib.hid hq0
  have HJ := Lib.hid (fun s A B (h : J s A) (hb : Below A.heap.size A B) => abides hJ h hb)
  have cp0 : W.cell? ⟨p, 0, none⟩ = some (.slice a L.length cap) := by rw [Lib.cell_of_heap hp0]; rfl
  have hpl := World.block_lt_of_cell? W _ cp0
  clear hr0 hp0 hq0 hJ hJx
  refine callsIn_of_wp Try.func73 rfl trivial ?_ rfl
  simp only [Try.ntmps73, List.size_toArray, List.length_cons, List.length_nil, Nat.reduceAdd, Nat.reduceSub, Array.replicate_succ, Array.replicate_zero, List.push_toArray, List.append_toArray, List.nil_append, List.cons_append]
  gi_wp2
  gi_loopw [9] (fun i wr => ∃ k : Nat, k ≤ L.length ∧ i = .int .i64 k ∧ J (canIx L g k) wr ∧ KpA n₀ p q W wr ∧ W.heap.size ≤ wr.heap.size) (fun i _ => L.length - (intOf i).toNat)
  case atStart => exact ⟨0, Nat.zero_le _, rfl, h0, KpA.refl _ _ _ _, Nat.le_refl _⟩
  case round =>
    obtain ⟨k, hk, rfl, hJs, hK, hsz⟩ := hrel
    by_cases hlt : k < L.length
    · have hk1 : k < rs.length := by rw [HR.out.len]; exact hlt
      have hs : Cranes lo hi wr (.slice a L.length cap) rs L := HR.out.below hK.1 hhi
      obtain ⟨hfl, hrow⟩ := hs.one hlt hk1
      obtain ⟨b, off, rfl⟩ := (show ∃ b off, a = some ⟨b, off, none⟩ from Sl.addr (by have := hs.out; rw [← hs.len] at this; exact this) (by omega))
      obtain ⟨c0, c1, c2, c3, c4, c5, c6⟩ := Cranes_at hs hk1
      rw [hfl] at c0 c1 c2 c3 c4 c5
      have hbw := World.block_lt_of_cell? wr _ c0
      have hcok := (hok.1 k hlt).1
      have hcall := fun w' (hb : Below wr.heap.size wr w') => impl_Can L[k].1 rs[k].s L[k].2 g t lo hi w' (hrow.ext hb) hcok hg.2.2.1 hg.2.2.2.1 hg.2.1.1 hg.2.2.2.2.1
      rw [← canAt_eq hlt] at hcall
      have hqr := hK.2.2 _ _ _ HQ.out
      have HIt := Lib.hid (fun h => canIx_t (L := L) (g := g) (k := k) h)
      have HIf := Lib.hid (fun h => canIx_f (L := L) (g := g) (k := k) h)
      clear hs hrow hfl hcok
      generalize rs[k].s = sk at *
      generalize L[k].1 = f at *
      obtain ⟨sa, sl, sc⟩ := sk
      obtain ⟨x0, x1, x2, x3, x4, x5⟩ := f
      obtain ⟨ta, tl, tc⟩ := t
      simp only [SV.v, CraneR.cells, LiftR.cells] at *
      cases hcb : canAt L g k
      · rw [hcb] at hcall
        have HC := Lib.hid hcall
        have Hd := Lib.hid (HIf.out hcb)
        clear hcall hcb
        have d0 : wr.cell? ⟨q, 0, none⟩ = some (.string g.name) := by rw [Lib.cell_of_heap hqr]; rfl
        have d1 : wr.cell? ⟨q, 1, none⟩ = some (.int .i64 g.weight) := by rw [Lib.cell_of_heap hqr]; rfl
        have d2 : wr.cell? ⟨q, 2, none⟩ = some (.int .i64 g.fx) := by rw [Lib.cell_of_heap hqr]; rfl
        have d3 : wr.cell? ⟨q, 3, none⟩ = some (.int .i64 g.fy) := by rw [Lib.cell_of_heap hqr]; rfl
        have d4 : wr.cell? ⟨q, 4, none⟩ = some (.int .i64 g.tx) := by rw [Lib.cell_of_heap hqr]; rfl
        have d5 : wr.cell? ⟨q, 5, none⟩ = some (.int .i64 g.ty) := by rw [Lib.cell_of_heap hqr]; rfl
        have d6 : wr.cell? ⟨q, 6, none⟩ = some (.int .i64 g.height) := by rw [Lib.cell_of_heap hqr]; rfl
        have d7 : wr.cell? ⟨q, 7, none⟩ = some (.int .i64 g.deadline) := by rw [Lib.cell_of_heap hqr]; rfl
        have d8 : wr.cell? ⟨q, 8, none⟩ = some (.slice ta tl tc) := by rw [Lib.cell_of_heap hqr]; rfl
        have hql := World.block_lt_of_cell? wr _ d0
        have HK := Lib.hid hK
        clear hqr
        gi_wp2_with (refine ⟨trivial, ?_⟩; gi_at_call 74; refine (callsIn_wide.2 (HC.out _ ((Below.refl _ wr).alloc (Nat.le_refl _) _))).mono ?_; rintro e w5 ⟨rfl, hb5⟩; have b5 : Below wr.heap.size wr w5 := ((Below.refl _ wr).alloc (Nat.le_refl _) _).trans (hb5.mono (by simp)))
        refine ⟨fun _ h => (by cases h), ?_⟩
        gi_wp2
        go_roundw
        case rel => exact ⟨k + 1, by omega, by simp, by rw [Hd.out]; exact HJ.out _ _ _ hJs b5, HK.out.t (KpA.of b5 (by omega)), Nat.le_trans hsz b5.size⟩
        case measure => simp [intOf]; omega
      · rw [hcb] at hcall
        have HC := Lib.hid hcall
        have Hd := Lib.hid (HIt.out hcb)
        clear hcall hcb
        have d0 : wr.cell? ⟨q, 0, none⟩ = some (.string g.name) := by rw [Lib.cell_of_heap hqr]; rfl
        have d1 : wr.cell? ⟨q, 1, none⟩ = some (.int .i64 g.weight) := by rw [Lib.cell_of_heap hqr]; rfl
        have d2 : wr.cell? ⟨q, 2, none⟩ = some (.int .i64 g.fx) := by rw [Lib.cell_of_heap hqr]; rfl
        have d3 : wr.cell? ⟨q, 3, none⟩ = some (.int .i64 g.fy) := by rw [Lib.cell_of_heap hqr]; rfl
        have d4 : wr.cell? ⟨q, 4, none⟩ = some (.int .i64 g.tx) := by rw [Lib.cell_of_heap hqr]; rfl
        have d5 : wr.cell? ⟨q, 5, none⟩ = some (.int .i64 g.ty) := by rw [Lib.cell_of_heap hqr]; rfl
        have d6 : wr.cell? ⟨q, 6, none⟩ = some (.int .i64 g.height) := by rw [Lib.cell_of_heap hqr]; rfl
        have d7 : wr.cell? ⟨q, 7, none⟩ = some (.int .i64 g.deadline) := by rw [Lib.cell_of_heap hqr]; rfl
        have d8 : wr.cell? ⟨q, 8, none⟩ = some (.slice ta tl tc) := by rw [Lib.cell_of_heap hqr]; rfl
        have hql := World.block_lt_of_cell? wr _ d0
        have HK := Lib.hid hK
        clear hqr
        gi_wp2_with (refine ⟨trivial, ?_⟩; gi_at_call 74; refine (callsIn_wide.2 (HC.out _ ((Below.refl _ wr).alloc (Nat.le_refl _) _))).mono ?_; rintro e w5 ⟨rfl, hb5⟩; have b5 : Below wr.heap.size wr w5 := ((Below.refl _ wr).alloc (Nat.le_refl _) _).trans (hb5.mono (by simp)); obtain ⟨fn, tmps, assign, body, hy, hR⟩ := hY (canIx L g k) k w5 (HJ.out _ _ _ hJs b5) (Nat.lt_of_le_of_lt (canIx_len L g k) hlt))
        refine hR.mono ?_
        rintro e W3 (⟨rfl, hJ3, hk3⟩ | ⟨rfl, hJx3⟩)
        · gi_wp2
          go_roundw
          case rel => exact ⟨k + 1, by omega, by simp, by rw [Hd.out]; exact hJ3, (HK.out.t (KpA.of b5 (by omega))).t hk3, Nat.le_trans hsz (Nat.le_trans b5.size hk3.1.size)⟩
          case measure => simp [intOf]; omega
        · gi_wp2
          refine bodyPost_ret (results_none rfl _ _ _) rfl ?_
          exact ⟨⟨_, rfl⟩, .inr ⟨_, by rw [← Hd.out]; exact canIx_pre L g (by omega), hJx3⟩⟩
    · obtain rfl : k = L.length := by omega
      gi_wp2
      go_end0
      exact ⟨⟨_, rfl⟩, .inl ⟨_, rfl, hJs⟩⟩
end
section
open Go.RowKit Go.Shelf
attribute [local go_sem] Oper.semAt_some
set_option maxRecDepth 100000 in
set_option maxHeartbeats 2000000 in
theorem impl_Ables (v : Value) (g : LiftF) (t : SV) (w : World) :
    Calls Try.prog 45 #[.agg #[v], .agg (LiftR.cells ⟨g, t⟩).toArray] w fun e w' => e = .returned (.func (.func 73) #[] #[.pointer (some ⟨w.heap.size, 0, none⟩), .pointer (some ⟨w.heap.size + 1, 0, none⟩)]) ∧ w' = (w.alloc (.cells #[v] 33 (0, 0))).alloc (.cells (LiftR.cells ⟨g, t⟩).toArray 70 (0, 0)) := by
  obtain ⟨ta, tl, tc⟩ := t
  simp only [LiftR.cells, SV.v]
  go_enter Try.func45, Try.ntmps45
  go_wp2
  go_ret
  exact ⟨rfl, rfl⟩
theorem five_boxes (w : World) (o p q r s : Obj) : ∃ W, (((((w.alloc o).alloc p).alloc q).alloc r).alloc s) = W ∧ W.heap[w.heap.size + 1 + 1]? = some q ∧ W.heap[w.heap.size + 1 + 1 + 1]? = some r ∧ W.heap[w.heap.size + 1 + 1 + 1 + 1]? = some s ∧ Below w.heap.size w W ∧ W.heap.size = w.heap.size + 5 := by
  refine ⟨_, rfl, ?_, ?_, ?_, ((((((Below.refl _ _).alloc (Nat.le_refl _) _).alloc (by simp) _).alloc (by simp; omega) _).alloc (by simp; omega) _).alloc (by simp; omega) _), by simp⟩
  · refine blkN_below ((Below.refl _ _).alloc (Nat.le_refl _) s) (blkN_below ((Below.refl _ _).alloc (Nat.le_refl _) r) ?_)
    have := blkN_new ((w.alloc o).alloc p) q
    rwa [show ((w.alloc o).alloc p).heap.size = w.heap.size + 1 + 1 by simp] at this
  · refine blkN_below ((Below.refl _ _).alloc (Nat.le_refl _) s) ?_
    have := blkN_new (((w.alloc o).alloc p).alloc q) r
    rwa [show (((w.alloc o).alloc p).alloc q).heap.size = w.heap.size + 1 + 1 + 1 by simp] at this
  · have := blkN_new ((((w.alloc o).alloc p).alloc q).alloc r) s
    rwa [show ((((w.alloc o).alloc p).alloc q).alloc r).heap.size = w.heap.size + 1 + 1 + 1 + 1 by simp] at this
noncomputable def possB (L : SiteL) (g : LiftF) : Bool := !(canIx L g L.length).isEmpty
set_option maxRecDepth 100000 in
set_option maxHeartbeats 8000000 in
theorem impl_Poss (a : Option Addr) (cap : Nat) (rs : List CraneR) (L : SiteL) (lo hi : Nat) (g : LiftF) (t : SV) (w : World) (hhi : hi ≤ w.heap.size) (hr : Cranes lo hi w (.slice a L.length cap) rs L) (hok : siteOk L) (hg : plainOk g) :
    Calls Try.prog 39 #[.agg #[.slice a L.length cap], .agg (LiftR.cells ⟨g, t⟩).toArray] w fun e w' => e = .returned (.bool (possB L g)) ∧ Below w.heap.size w w' := by
  refine (callsIn_wide (n := 3)).1 ?_
  have hA := fun w' => impl_Ables (.slice a L.length cap) g t w'
  have hS := fun (w' : World) (p q : Nat) hp hq (hb : Below w.heap.size w w') (hw : w.heap.size ≤ w'.heap.size) => abl_stops 2 (by omega) p q w.heap.size a cap rs L lo hi g t w' hw hhi hp hq (hr.ext hb) hok hg
  obtain ⟨ta, tl, tc⟩ := t
  simp only [LiftR.cells, SV.v] at *
  have HA := Lib.hid hA
  have HS := Lib.hid hS
  clear hA hS hr
  refine callsIn_of_wp_marks Try.func39 rfl trivial ?_ rfl
  simp only [Try.ntmps39, List.size_toArray, List.length_cons, List.length_nil, Nat.reduceAdd, Nat.reduceSub, Array.replicate_succ, Array.replicate_zero, List.push_toArray, List.append_toArray, List.nil_append, List.cons_append]
  gi_wp2_with (refine ⟨trivial, ?_⟩; gi_at_call 45; refine (callsIn_wide.2 (HA.out _)).mono ?_; rintro e w' ⟨rfl, rfl⟩)
  obtain ⟨WL, hWL, l2, l3, l4, hB0, hz⟩ := five_boxes w (.cells #[.slice a L.length cap] 33 (0, 0)) (.cells #[.string g.name, .int .i64 g.weight, .int .i64 g.fx, .int .i64 g.fy, .int .i64 g.tx, .int .i64 g.ty, .int .i64 g.height, .int .i64 g.deadline, .slice ta tl tc] 70 (0, 0)) (.cells #[.bool false] 4 (0, 0)) (.cells #[.slice a L.length cap] 33 (0, 0)) (.cells #[.string g.name, .int .i64 g.weight, .int .i64 g.fx, .int .i64 g.fy, .int .i64 g.tx, .int .i64 g.ty, .int .i64 g.height, .int .i64 g.deadline, .slice ta tl tc] 70 (0, 0))
  rw [hWL]
  clear hWL
  have c2 : WL.cell? ⟨w.heap.size + 1 + 1, 0, none⟩ = some (.bool false) := by rw [Lib.cell_of_heap l2]; rfl
  have f2 : WL.frozen? ⟨w.heap.size + 1 + 1, 0, none⟩ = false := Lib.frozen_of_heap l2 0
  refine wpIn_rangeFunc_ownF rfl (by omega) (gf := 73) (lb := #[.pointer (some ⟨w.heap.size + 1 + 1 + 1, 0, none⟩), .pointer (some ⟨w.heap.size + 1 + 1 + 1 + 1, 0, none⟩)]) rfl trivial (enters_of Try.func73 (by kernel_rfl) rfl)
    (HS.out WL _ _ l3 l4 hB0 (by omega)) KpA.t (KpA.b (by omega)) (Below.refl _ _) (fun _ => rfl)
    (fun pre W => (pre = [] ∧ W.cell? ⟨w.heap.size + 1 + 1, 0, none⟩ = some (.bool false) ∧ W.frozen? ⟨w.heap.size + 1 + 1, 0, none⟩ = false) ∧ Below w.heap.size w W)
    (fun c pre W => (c = .ret ∧ pre ≠ [] ∧ W.cell? ⟨w.heap.size + 1 + 1, 0, none⟩ = some (.bool true)) ∧ Below w.heap.size w W)
    (OwnFrom.and (Own.from (fun s A B row hs hg hr => ⟨hs.1, cell_kept hs.2.1 hg hr, (frozen_kept hs.2.1 hg hr).trans hs.2.2⟩) _) (ownFrom_below (Nat.le_refl _) (by omega)))
    (fun c => OwnFrom.and (Own.from (fun s A B row hs hg hr => ⟨hs.1, hs.2.1, cell_kept hs.2.2 hg hr⟩) _) (ownFrom_below (Nat.le_refl _) (by omega)))
    ⟨⟨rfl, c2, f2⟩, hB0⟩
    (fun x => { tmps := #[.agg #[.slice a L.length cap], .agg #[.string g.name, .int .i64 g.weight, .int .i64 g.fx, .int .i64 g.fy, .int .i64 g.tx, .int .i64 g.ty, .int .i64 g.height, .int .i64 g.deadline, .slice ta tl tc], .pointer (some ⟨w.heap.size, 0, none⟩), .pointer (some ⟨w.heap.size + 1, 0, none⟩), .pointer (some ⟨w.heap.size + 1 + 1, 0, none⟩), .agg #[.slice a L.length cap], .agg #[.string g.name, .int .i64 g.weight, .int .i64 g.fx, .int .i64 g.fy, .int .i64 g.tx, .int .i64 g.ty, .int .i64 g.height, .int .i64 g.deadline, .slice ta tl tc], .func (.func 73) #[] #[.pointer (some ⟨w.heap.size + 1 + 1 + 1, 0, none⟩), .pointer (some ⟨w.heap.size + 1 + 1 + 1 + 1, 0, none⟩)], .int .i64 x], defers := [] }) ?assign ?body ?done ?stop
  case assign =>
    intro l x W K hK
    gi_wp2
    first | exact hK | simpa using hK
  case body =>
    rintro l pre x W ⟨⟨rfl, hcr, hfr⟩, hB⟩ _
    gi_wp2
    exact ⟨KeepsOthers.setCell _ _ _, ⟨rfl, by simp, World.cell?_setCell_same' _ _ _ (by rw [hcr]; rfl)⟩, hB.setCell (p := ⟨w.heap.size + 1 + 1, 0, none⟩) (by simp only []; omega) _⟩
  case done =>
    rintro D ys W hD rfl ⟨⟨hne, hcr, hfr⟩, hB⟩ hK
    gi_wp2
    have hK' := (KeepsOthers.setCell W ⟨w.heap.size + 1 + 1, 0, none⟩ (.bool false)).same D _ hK rfl
    refine ⟨by simp, .inl ⟨_, _, rfl, run_takeDeferred hK', ?_⟩⟩
    have hc5 := cell_kept (World.cell?_setCell_same' W ⟨w.heap.size + 1 + 1, 0, none⟩ (.bool false) (by rw [hcr]; rfl)) (grownBy_putObj' _ D (.deferred none)) (fun r e => by cases e; exact ⟨_, hK', rfl⟩)
    refine ⟨.bool false, ?_, by unfold possB; rw [hne]; rfl, (hB.setCell (p := ⟨w.heap.size + 1 + 1, 0, none⟩) (by simp only []; omega) _).trans (belowK_b (w := w) (Nat.le_refl _) _ D _ _ (by omega) hK' rfl rfl)⟩
    simp [results, Try.results39, go_sem, hc5]
  case stop =>
    rintro D c pre W hD hpre ⟨⟨rfl, hin, hcr⟩, hB⟩ hK
    gi_wp2
    refine ⟨by simp, .inl ⟨_, _, rfl, run_takeDeferred hK, ?_⟩⟩
    have hc5 := cell_kept hcr (grownBy_putObj' _ D (.deferred none)) (fun r e => by cases e; exact ⟨_, hK, rfl⟩)
    refine ⟨.bool true, ?_, ?_, hB.trans (belowK_b (w := w) (Nat.le_refl _) W D _ _ (by omega) hK rfl rfl)⟩
    · simp [results, Try.results39, go_sem, hc5]
    · unfold possB
      cases hx : canIx L g L.length with
      | nil => rw [hx] at hpre; exact absurd (List.prefix_nil.1 hpre) hin
      | cons _ _ => rfl
end
theorem info_i64a : (Try.prog.info? 2).map (fun i => (i.zero.map (·.cells.size), i.size, i.bytes)) = some (some 1, 1, 8) := by kernel_rfl
noncomputable def ablP (g : LiftF) (x : CraneF × List Chs) : Bool := canB x.1 x.2 g
theorem abl_len (L : SiteL) (g : LiftF) : ∀ k, k ≤ L.length → (idxTo (ablP g) L k).length = (canIx L g k).length
  | 0, _ => by simp [idxTo, canIx]
  | k + 1, h => by
    have hk : k < L.length := by omega
    have ih := abl_len L g k (by omega)
    have he : ablP g L[k] = canAt L g k := (canAt_eq hk).symm
    cases hc : canAt L g k
    · rw [idxTo_no hk (by rw [he, hc]), canIx_f hc, ih]
    · rw [idxTo_yes hk (by rw [he, hc]), canIx_t hc, List.length_append, List.length_append, ih]; rfl
def LenRes (n : Nat) (e : Ending) : Prop := ∃ a c, e = .returned (.slice a n c)
set_option maxRecDepth 100000 in
set_option maxHeartbeats 8000000 in
theorem spec_Ables (p q o2 : Nat) (v : Value) (rs : List CraneR) (L : SiteL) (g : LiftF) (gv : Value) (lo hi : Nat) (w : World) (hc0 : w.cell? ⟨p, 0, none⟩ = some v) (hl : At w q o2 (liftC g gv)) (h : Cranes lo hi w v rs L) (hok : siteOk L) (hg : plainOk g) :
    Calls Try.prog 34 #[.pointer (some ⟨p, 0, none⟩), .pointer (some ⟨q, o2, none⟩)] w fun e w' => LenRes (canIx L g L.length).length e ∧ Below w.heap.size w w' := by
  have hl1 := h.len
  have hl6 := hok.2.2
  rw [← abl_len L g L.length (Nat.le_refl _)]
  have Hs := Lib.hid h
  obtain ⟨⟨a, cap, rfl, _⟩, _, _⟩ := h
  rw [hl1] at hc0
  have Hl1 := Lib.hid hl1
  have hb0 := World.block_lt_of_cell? w _ hc0
  have Hc0 := Lib.hid hc0
  have Hl := Lib.hid hl
  clear hl1 hc0 hl
  go_enter Try.func34, Try.ntmps34
  go_wp2
  go_loopw [5, 6] (fun o i wr => ∃ k : Nat, k ≤ L.length ∧ i = .int .i64 k ∧ Below w.heap.size w wr ∧ Hid (Own 1 intCells w.heap.size 2 wr o (idxTo (ablP g) L k))) (fun _ i _ => L.length - (intOf i).toNat)
  case atStart => exact ⟨0, Nat.zero_le _, rfl, (Below.refl _ _).alloc (Nat.le_refl _) _, Lib.hid (own_empty w _ _ (Nat.le_refl _))⟩
  case round =>
    obtain ⟨k, hk, rfl, hB, hown⟩ := hrel
    have cb := (hB.cell (p := ⟨p, 0, none⟩) hb0).trans Hc0.out
    by_cases hlt : k < L.length
    · have hk1 : k < rs.length := by rw [Hl1.out]; exact hlt
      have hs : Cranes lo hi wr (.slice a L.length cap) rs L := by rw [← Hl1.out]; exact Hs.out.ext hB
      obtain ⟨hfl, hrow⟩ := hs.one hlt hk1
      obtain ⟨b, off, rfl⟩ := hs.out.addr (by omega)
      have hcc : At wr b (off + k * 7) (craneC L[k].1 rs[k].s.v) := by
        have := hs.at hk1
        rw [show CraneR.cells rs[k] = craneC L[k].1 rs[k].s.v by unfold CraneR.cells craneC; rw [hfl]] at this
        exact this
      have hq := spec_CanLift b (off + k * 7) q o2 L[k].1 rs[k].s.v L[k].2 g gv lo hi wr hcc (Hl.out.ext hB (by simp [liftC])) hrow (hok.1 k hlt).1 hg.2.2.1 hg.2.2.2.1 hg.2.2.2.2.1
      have hll := idxTo_len (ablP g) L k
      have Hy := Lib.hid (idxTo_yes (p := ablP g) hlt)
      have Hn := Lib.hid (idxTo_no (p := ablP g) hlt)
      rw [show canB L[k].1 L[k].2 g = ablP g L[k] from rfl] at hq
      clear hs hfl hrow hcc
      generalize L[k] = x at *
      generalize hlk : idxTo (ablP g) L k = lk at *
      have Hlk := Lib.hid hlk
      clear hlk
      have hBs := hB.size
      cases hp : ablP g x
      · rw [hp] at hq
        have Hq := Lib.hid hq
        have Hp := Lib.hid (Hn.out hp)
        clear hq hp
        go_wp2_with fail
        refine Hq.out.mono ?_
        rintro e w2 ⟨rfl, hb2⟩
        have hB2 := hB.trans (hb2.mono hBs)
        have hown2 := Lib.hid (hown.out.below hb2)
        go_wp2
        go_roundw
        case rel => exact ⟨k + 1, by omega, by go_num, hB2, Lib.hid (by rw [Hp.out]; exact hown2.out)⟩
        case measure => simp [intOf]; omega
      · rw [hp] at hq
        have Hq := Lib.hid hq
        have Hp := Lib.hid (Hy.out hp)
        clear hq hp
        go_wp2_with fail
        refine Hq.out.mono ?_
        rintro e w2 ⟨rfl, hb2⟩
        have hB2 := hB.trans (hb2.mono hBs)
        have hown2 := Lib.hid (hown.out.below hb2)
        have hBs2 := hB2.size
        go_wp2_with (at_builtin; refine wpList_app1 (c := intCells) (bytes := 8) rfl _ _ 28 2 rfl Try.underlying28 info_i64a (by omega) intCells_len intCells_one w.heap.size lk (k : Int) _ rfl _ rfl hown2.out rfl (by omega) (by omega) hBs2 ?_; intro v' w3 hown3 hg3; have hB3 := hown2.out.app hB2 (Nat.le_refl _) hBs2 hg3)
        go_roundw
        case rel => exact ⟨k + 1, by omega, by go_num, hB3, Lib.hid (by rw [Hp.out]; exact hown3)⟩
        case measure => simp [intOf]; omega
    · have : k = L.length := by omega
      subst this
      obtain ⟨a2, c2, hv, -⟩ := (hown.out.slw intCells_len).1
      subst hv
      go_wp2
      go_ret
      exact ⟨⟨_, _, rfl⟩, hB⟩
noncomputable def impP (L : SiteL) (x : LiftF × List Int) : Bool := !possB L x.1
noncomputable def impL (L : SiteL) (G : LiftsL) : List Int × Int := if siteB L && liftsB G then (idxTo (impP L) G G.length, 0) else ([], 1)
theorem impL_t {L : SiteL} {G : LiftsL} (h1 : siteB L = true) (h2 : liftsB G = true) : impL L G = (idxTo (impP L) G G.length, 0) := by unfold impL; rw [h1, h2]; rfl
theorem impL_f {L : SiteL} {G : LiftsL} (h1 : siteB L = false) : impL L G = ([], 1) := by unfold impL; rw [h1]; rfl
theorem impL_g {L : SiteL} {G : LiftsL} (h1 : siteB L = true) (h2 : liftsB G = false) : impL L G = ([], 1) := by unfold impL; rw [h1, h2]; rfl
theorem plain_of {G : LiftsL} (h : liftsOk G) {k : Nat} (hk : k < G.length) : plainOk G[k].1 := by
  have := (h.1 k hk).1
  exact ⟨this.1, this.2.1, this.2.2.1, this.2.2.2.1, this.2.2.2.2.1, this.2.2.2.2.2.1⟩
theorem imp_len (L : SiteL) (g : LiftF) (a : List Int) : (((canIx L g L.length).length : Int) == 0) = impP L (g, a) := by
  unfold impP possB
  cases canIx L g L.length with
  | nil => rfl
  | cons x r => simp; omega
set_option maxRecDepth 100000 in
set_option maxHeartbeats 8000000 in
theorem spec_ImpossibleLifts (s : SV) (rs : List CraneR) (L : SiteL) (lo hi : Nat) (v2 : Value) (rg : List LiftR) (G : LiftsL) (lo2 hi2 : Nat) (w : World) (h : Cranes lo hi w s.v rs L) (hwf : L.wf) (h2 : Lifts lo2 hi2 w v2 rg G) (hwf2 : ∀ x ∈ G, x.1.name.size ≤ maxLen) (hlen : G.length ≤ 1048576) :
    Calls Try.prog 8 #[.agg #[s.v], v2] w (ListRes intCells 1 w (impL L G).1 (impL L G).2) := by
  have Hs := Lib.hid h
  have Hg := Lib.hid h2
  have hl1 := h.len
  have hl2 := h2.len
  obtain ⟨⟨a, cap, hsv, hcp, -⟩, -, -⟩ := h
  obtain ⟨⟨a2, cap2, rfl, ⟨hc2, hc2'⟩, -⟩, -, -⟩ := h2
  generalize s.v = sv at *
  subst hsv
  rw [hl1] at hcp Hs ⊢
  rw [hl2] at hc2 Hg ⊢
  have Hl1 := Lib.hid hl1
  have Hl2 := Lib.hid hl2
  clear hl1 hl2
  have hba : Below w.heap.size w (w.alloc (.cells #[.slice a L.length cap] 33 (0, 0))) := (Below.refl _ _).alloc (Nat.le_refl _) _
  have hc0 : (w.alloc (.cells #[.slice a L.length cap] 33 (0, 0))).cell? ⟨w.heap.size, 0, none⟩ = some (.slice a L.length cap) := by rw [Lib.cell_of_heap (blkN_new w _)]; rfl
  have hS := spec_SiteOk w.heap.size _ rs L lo hi _ hc0 (Hs.out.ext hba) hwf
  have hV := fun w' (hb : Below w.heap.size w w') => spec_LiftsOk _ rg G lo2 hi2 w' (Hg.out.ext hb) hwf2 hlen
  clear hwf hwf2
  cases hs : siteB L
  · rw [impL_f hs]
    rw [hs] at hS
    have HS := Lib.hid hS
    clear hS hV hs hc0
    go_enter Try.func8, Try.ntmps8
    go_wp2_with fail
    refine HS.out.mono ?_
    rintro e w1 ⟨rfl, hb1⟩
    have B1 := hba.trans (hb1.mono hba.size)
    clear hba hb1
    go_wp2
    go_ret2
    exact ⟨_, rfl, slw_nil, B1⟩
  have Hsok := Lib.hid (siteB_iff.1 hs)
  cases hv : liftsB G
  · rw [impL_g hs hv]
    rw [hs] at hS
    rw [hv] at hV
    have HS := Lib.hid hS
    have HV := Lib.hid hV
    clear hS hV hs hv hc0
    go_enter Try.func8, Try.ntmps8
    go_wp2_with fail
    refine HS.out.mono ?_
    rintro e w1 ⟨rfl, hb1⟩
    have HB1 := Lib.hid (hba.trans (hb1.mono hba.size))
    clear hba hb1
    go_wp2_with (go_at_call 33; refine (HV.out _ HB1.out).mono ?_; rintro e w2 ⟨rfl, hb2⟩)
    go_ret2
    exact ⟨_, rfl, slw_nil, HB1.out.trans (hb2.mono HB1.out.size)⟩
  rw [impL_t hs hv]
  have Hgok := Lib.hid (liftsB_iff.1 hv)
  have hg10 := Hgok.out.2
  rw [hs] at hS
  rw [hv] at hV
  have HS := Lib.hid hS
  have HV := Lib.hid hV
  have HC0 := Lib.hid hc0
  clear hS hV hs hv hc0
  go_enter Try.func8, Try.ntmps8
  go_wp2_with fail
  refine HS.out.mono ?_
  rintro e w1 ⟨rfl, hb1⟩
  have HB1 := Lib.hid (hba.trans (hb1.mono hba.size))
  have hlt0 : w.heap.size < w1.heap.size := Nat.lt_of_lt_of_le (by simp) hb1.size
  have HC1 := Lib.hid ((hb1.cell (p := ⟨w.heap.size, 0, none⟩) (by simp)).trans HC0.out)
  clear hba hb1
  go_wp2_with (go_at_call 33; refine (HV.out _ HB1.out).mono ?_; rintro e w2 ⟨rfl, hb2⟩)
  have HB2 := Lib.hid (HB1.out.trans (hb2.mono HB1.out.size))
  have HC2 := Lib.hid ((hb2.cell (p := ⟨w.heap.size, 0, none⟩) hlt0).trans HC1.out)
  have hs12 := hb2.size
  have hbase : w.heap.size ≤ w2.heap.size := by omega
  have hlt2 : w.heap.size < w2.heap.size := by omega
  clear hb2
  go_loopw [6, 7] (fun o i wr => ∃ k : Nat, k ≤ G.length ∧ i = .int .i64 k ∧ Below w2.heap.size w2 wr ∧ Hid (Own 1 intCells w2.heap.size 2 wr o (idxTo (impP L) G k))) (fun _ i _ => G.length - (intOf i).toNat)
  case atStart => exact ⟨0, Nat.zero_le _, rfl, (Below.refl _ _).alloc (Nat.le_refl _) _, Lib.hid (own_empty w2 _ _ (Nat.le_refl _))⟩
  case round =>
    obtain ⟨k, hk, rfl, hB, hown⟩ := hrel
    have HBw := Lib.hid (HB2.out.trans (hB.mono HB2.out.size))
    by_cases hlt : k < G.length
    · have hk1 : k < rg.length := by rw [Hl2.out]; exact hlt
      have hgr : Lifts lo2 hi2 wr (.slice a2 G.length cap2) rg G := Hg.out.ext HBw.out
      obtain ⟨hfl, -⟩ := hgr.one hlt hk1
      obtain ⟨b, off, rfl⟩ := (show ∃ b off, a2 = some ⟨b, off, none⟩ from Sl.addr (by have := hgr.out; rw [← Hl2.out] at this; exact this) (by omega))
      have hcc : At wr b (off + k * 9) (liftC G[k].1 rg[k].s.v) := by
        have := hgr.at hk1
        rw [show LiftR.cells rg[k] = liftC G[k].1 rg[k].s.v by unfold LiftR.cells liftC; rw [hfl]] at this
        exact this
      have hcs := (hB.cell (p := ⟨w.heap.size, 0, none⟩) hlt2).trans HC2.out
      have hq := spec_Ables w.heap.size b (off + k * 9) _ rs L G[k].1 rg[k].s.v lo hi wr hcs hcc (Hs.out.ext HBw.out) Hsok.out (plain_of Hgok.out hlt)
      have hil := imp_len L G[k].1 G[k].2
      have hll := idxTo_len (impP L) G k
      have Hy := Lib.hid (idxTo_yes (p := impP L) hlt)
      have Hn := Lib.hid (idxTo_no (p := impP L) hlt)
      clear hgr hfl hcc hcs
      rw [show (G[k].1, G[k].2) = G[k] from rfl] at hil
      generalize (canIx L G[k].1 L.length).length = n at *
      generalize G[k] = x at *
      generalize hlk : idxTo (impP L) G k = lk at *
      have Hlk := Lib.hid hlk
      clear hlk
      have hBs := hB.size
      have Hq := Lib.hid hq
      clear hq
      cases hp : impP L x
      · rw [hp] at hil
        have Hp := Lib.hid (Hn.out hp)
        clear hp
        go_wp2_with fail
        refine Hq.out.mono ?_
        rintro e w3 ⟨⟨ar, cr, rfl⟩, hb3⟩
        have hB3 := hB.trans (hb3.mono hBs)
        have hown3 := Lib.hid (hown.out.below hb3)
        go_wp2
        go_roundw
        case rel => exact ⟨k + 1, by omega, by go_num, hB3, Lib.hid (by rw [Hp.out]; exact hown3.out)⟩
        case measure => simp [intOf]; omega
      · rw [hp] at hil
        have Hp := Lib.hid (Hy.out hp)
        clear hp
        go_wp2_with fail
        refine Hq.out.mono ?_
        rintro e w3 ⟨⟨ar, cr, rfl⟩, hb3⟩
        have hB3 := hB.trans (hb3.mono hBs)
        have hown3 := Lib.hid (hown.out.below hb3)
        have hBs3 := hB3.size
        go_wp2_with (at_builtin; refine wpList_app1 (c := intCells) (bytes := 8) rfl _ _ 28 2 rfl Try.underlying28 info_i64a (by omega) intCells_len intCells_one w2.heap.size lk (k : Int) _ rfl _ rfl hown3.out rfl (by omega) (by omega) hBs3 ?_; intro v' w4 hown4 hg4; have hB4 := hown3.out.app hB3 (Nat.le_refl _) hBs3 hg4)
        go_roundw
        case rel => exact ⟨k + 1, by omega, by go_num, hB4, Lib.hid (by rw [Hp.out]; exact hown4)⟩
        case measure => simp [intOf]; omega
    · have : k = G.length := by omega
      subst this
      have Hfin := Lib.hid ((hown.out.slw intCells_len).widen (lo' := w.heap.size) (hi' := wr.heap.size) (by omega) (Nat.le_refl _))
      go_wp2
      go_ret2
      exact ⟨_, rfl, Hfin.out, HBw.out⟩
set_option maxRecDepth 100000 in
set_option maxHeartbeats 8000000 in
theorem impl_ImpossibleLifts (s : SV) (rs : List CraneR) (L : SiteL) (lo hi : Nat) (v2 : Value) (rg : List LiftR) (G : LiftsL) (lo2 hi2 : Nat) (w : World) (h : Cranes lo hi w s.v rs L) (hhi : hi ≤ w.heap.size) (hwf : L.wf) (h2 : Lifts lo2 hi2 w v2 rg G) (hwf2 : ∀ x ∈ G, x.1.name.size ≤ maxLen) (hlen : G.length ≤ 1048576) :
    Calls Try.prog 11 #[.agg #[s.v], v2] w (ListRes intCells 1 w (impL L G).1 (impL L G).2) := by
  have Hs := Lib.hid h
  have Hg := Lib.hid h2
  have hl1 := h.len
  have hl2 := h2.len
  obtain ⟨⟨a, cap, hsv, hcp, -⟩, -, -⟩ := h
  obtain ⟨⟨a2, cap2, rfl, ⟨hc2, hc2'⟩, -⟩, -, -⟩ := h2
  generalize s.v = sv at *
  subst hsv
  rw [hl1] at hcp Hs ⊢
  rw [hl2] at hc2 Hg ⊢
  have Hl1 := Lib.hid hl1
  have Hl2 := Lib.hid hl2
  clear hl1 hl2
  have hba : Below w.heap.size w (w.alloc (.cells #[.slice a L.length cap] 33 (0, 0))) := (Below.refl _ _).alloc (Nat.le_refl _) _
  have hc0 : (w.alloc (.cells #[.slice a L.length cap] 33 (0, 0))).cell? ⟨w.heap.size, 0, none⟩ = some (.slice a L.length cap) := by rw [Lib.cell_of_heap (blkN_new w _)]; rfl
  have hS := impl_SiteOk ⟨a, L.length, cap⟩ rs L lo hi _ (Hs.out.ext hba) hwf
  simp only [SV.v] at hS
  have hV := fun w' (hb : Below w.heap.size w w') => impl_LiftsOk _ rg G lo2 hi2 w' (Hg.out.ext hb) hwf2 hlen
  clear hwf hwf2
  cases hs : siteB L
  · rw [impL_f hs]
    rw [hs] at hS
    have HS := Lib.hid hS
    clear hS hV hs hc0
    go_enter Try.func11, Try.ntmps11
    go_wp2_with fail
    refine HS.out.mono ?_
    rintro e w1 ⟨rfl, hb1⟩
    have B1 := hba.trans (hb1.mono hba.size)
    clear hba hb1
    go_wp2
    go_ret2
    exact ⟨_, rfl, slw_nil, B1⟩
  have Hsok := Lib.hid (siteB_iff.1 hs)
  cases hv : liftsB G
  · rw [impL_g hs hv]
    rw [hs] at hS
    rw [hv] at hV
    have HS := Lib.hid hS
    have HV := Lib.hid hV
    clear hS hV hs hv hc0
    go_enter Try.func11, Try.ntmps11
    go_wp2_with fail
    refine HS.out.mono ?_
    rintro e w1 ⟨rfl, hb1⟩
    have HB1 := Lib.hid (hba.trans (hb1.mono hba.size))
    clear hba hb1
    go_wp2_with (go_at_call 38; refine (HV.out _ HB1.out).mono ?_; rintro e w2 ⟨rfl, hb2⟩)
    go_ret2
    exact ⟨_, rfl, slw_nil, HB1.out.trans (hb2.mono HB1.out.size)⟩
  rw [impL_t hs hv]
  have Hgok := Lib.hid (liftsB_iff.1 hv)
  have hg10 := Hgok.out.2
  rw [hs] at hS
  rw [hv] at hV
  have HS := Lib.hid hS
  have HV := Lib.hid hV
  have HC0 := Lib.hid hc0
  clear hS hV hs hv hc0
  go_enter Try.func11, Try.ntmps11
  go_wp2_with fail
  refine HS.out.mono ?_
  rintro e w1 ⟨rfl, hb1⟩
  have HB1 := Lib.hid (hba.trans (hb1.mono hba.size))
  have hlt0 : w.heap.size < w1.heap.size := Nat.lt_of_lt_of_le (by simp) hb1.size
  have HC1 := Lib.hid ((hb1.cell (p := ⟨w.heap.size, 0, none⟩) (by simp)).trans HC0.out)
  clear hba hb1
  go_wp2_with (go_at_call 38; refine (HV.out _ HB1.out).mono ?_; rintro e w2 ⟨rfl, hb2⟩)
  have HB2 := Lib.hid (HB1.out.trans (hb2.mono HB1.out.size))
  have HC2 := Lib.hid ((hb2.cell (p := ⟨w.heap.size, 0, none⟩) hlt0).trans HC1.out)
  have hs12 := hb2.size
  have hbase : w.heap.size ≤ w2.heap.size := by omega
  have hlt2 : w.heap.size < w2.heap.size := by omega
  clear hb2
  go_loopw [6, 19] (fun o i wr => ∃ k : Nat, k ≤ G.length ∧ i = .int .i64 k ∧ Below w2.heap.size w2 wr ∧ Hid (Own 1 intCells w2.heap.size 2 wr o (idxTo (impP L) G k))) (fun _ i _ => G.length - (intOf i).toNat)
  case atStart => exact ⟨0, Nat.zero_le _, rfl, Below.refl _ _, Lib.hid (own_nil _ _ _)⟩
  case round =>
    obtain ⟨k, hk, rfl, hB, hown⟩ := hrel
    have HBw := Lib.hid (HB2.out.trans (hB.mono HB2.out.size))
    by_cases hlt : k < G.length
    · have hk1 : k < rg.length := by rw [Hl2.out]; exact hlt
      have hgr : Lifts lo2 hi2 wr (.slice a2 G.length cap2) rg G := Hg.out.ext HBw.out
      obtain ⟨hfl, -⟩ := hgr.one hlt hk1
      obtain ⟨b, off, rfl⟩ := (show ∃ b off, a2 = some ⟨b, off, none⟩ from Sl.addr (by have := hgr.out; rw [← Hl2.out] at this; exact this) (by omega))
      obtain ⟨c0, c1, c2, c3, c4, c5, c6, c7, c8⟩ := Lifts_at hgr hk1
      rw [hfl] at c0 c1 c2 c3 c4 c5 c6 c7
      have hcs := (hB.cell (p := ⟨w.heap.size, 0, none⟩) hlt2).trans HC2.out
      have hBs0 := HBw.out.size
      have hq := fun w' (hb : Below wr.heap.size wr w') => impl_Poss a cap rs L lo hi G[k].1 rg[k].s w' (by have := hb.size; omega) (Hs.out.ext (HBw.out.trans (hb.mono hBs0))) Hsok.out (plain_of Hgok.out hlt)
      have hpp : possB L G[k].1 = !(impP L G[k]) := by unfold impP; simp
      rw [hpp] at hq
      have hll := idxTo_len (impP L) G k
      have Hy := Lib.hid (idxTo_yes (p := impP L) hlt)
      have Hn := Lib.hid (idxTo_no (p := impP L) hlt)
      have hlts := World.block_lt_of_cell? wr _ hcs
      have hbw := World.block_lt_of_cell? wr _ c0
      clear hgr hfl hpp
      generalize rg[k].s = sk at *
      obtain ⟨sa, sl, sc⟩ := sk
      generalize G[k] = x at *
      obtain ⟨⟨x0, x1, x2, x3, x4, x5, x6, x7⟩, xa⟩ := x
      simp only [SV.v, LiftR.cells] at *
      generalize hlk : idxTo (impP L) G k = lk at *
      have Hlk := Lib.hid hlk
      clear hlk
      have hBs := hB.size
      cases hp : impP L (⟨x0, x1, x2, x3, x4, x5, x6, x7⟩, xa)
      · rw [hp] at hq
        have Hq := Lib.hid hq
        clear hq
        have Hp := Lib.hid (Hn.out hp)
        clear hp
        go_wp2_with fail
        refine (Hq.out _ ((Below.refl _ wr).alloc (Nat.le_refl _) _)).mono ?_
        rintro e w3 ⟨rfl, hb3⟩
        have hb4 : Below wr.heap.size wr w3 := ((Below.refl _ wr).alloc (Nat.le_refl _) _).trans (hb3.mono (by simp))
        have hB3 := hB.trans (hb4.mono hBs)
        have hown3 := Lib.hid (hown.out.below hb4)
        clear hb3 hb4
        go_wp2
        go_roundw
        case rel => exact ⟨k + 1, by omega, by go_num, hB3, Lib.hid (by rw [Hp.out]; exact hown3.out)⟩
        case measure => simp [intOf]; omega
      · rw [hp] at hq
        have Hq := Lib.hid hq
        clear hq
        have Hp := Lib.hid (Hy.out hp)
        clear hp
        go_wp2_with fail
        refine (Hq.out _ ((Below.refl _ wr).alloc (Nat.le_refl _) _)).mono ?_
        rintro e w3 ⟨rfl, hb3⟩
        have hb4 : Below wr.heap.size wr w3 := ((Below.refl _ wr).alloc (Nat.le_refl _) _).trans (hb3.mono (by simp))
        have hB3 := hB.trans (hb4.mono hBs)
        have hown3 := Lib.hid (hown.out.below hb4)
        clear hb3 hb4
        have hBs3 := hB3.size
        go_wp2_with (at_builtin; refine wpList_app1 (c := intCells) (bytes := 8) rfl _ _ 28 2 rfl Try.underlying28 info_i64a (by omega) intCells_len intCells_one w2.heap.size lk (k : Int) _ rfl _ rfl hown3.out rfl (by omega) (by omega) hBs3 ?_; intro v' w4 hown4 hg4; have hB4 := hown3.out.app hB3 (Nat.le_refl _) hBs3 hg4)
        go_roundw
        case rel => exact ⟨k + 1, by omega, by go_num, hB4, Lib.hid (by rw [Hp.out]; exact hown4)⟩
        case measure => simp [intOf]; omega
    · have : k = G.length := by omega
      subst this
      have Hfin := Lib.hid ((hown.out.slw intCells_len).widen (lo' := w.heap.size) (hi' := wr.heap.size) (by omega) (Nat.le_refl _))
      go_wp2
      go_ret2
      exact ⟨_, rfl, Hfin.out, HBw.out⟩
end Go.Proofs.Ytdadadiipmenbaa
