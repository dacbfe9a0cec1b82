/- Zones: the draws of lists of zones. (Under way.) The law's small helper: equal lists of numbers. Zones: the draw of a list of zones. -/
import Derived.Test.YtpabbehpkokhbaaDoorZnW
import Derived.Test.YtpabbehpkokhbaaDoorZnG
import Derived.Test.YtpabbehpkokhbaaDoorOwn
namespace Go.Proofs.YtpabbehpkokhbaaDoor
open Go.RowKit
theorem info_ZoneZ : (Tryd.prog.info? 33).map (fun i => (i.zero.map (·.cells.size), i.size, i.bytes)) = some (some 4, 4, 48) := by kernel_rfl
/-- A list of zones whose own memory lies behind lo, each corner list in old memory. -/
structure ZLs (c lo : Nat) (v : Value) (rs : List ZoneR) (L : ZonesL) (W : World) : Prop where
  o : Own 4 ZoneR.cells lo 33 W v rs
  l : rs.length = L.length
  r : ∀ (i : Nat) (r : ZoneR) (x : ZoneF × List Pnt), rs[i]? = some r → (show List (ZoneF × List Pnt) from L)[i]? = some x → r.f = x.1 ∧ Pnts c W.heap.size W r.s.v x.2
  z : ∀ x ∈ L, x.2.length ≤ 1024
theorem ZLs.reads {c lo : Nat} {v : Value} {rs : List ZoneR} {L : ZonesL} {W : World} (h : ZLs c lo v rs L W) : Zones 0 W.heap.size W v rs L :=
  ⟨(h.o.slw ZoneR.len).1.mono (Nat.zero_le _) (Nat.le_refl _), h.l, fun i r x hr hx => ⟨(h.r i r x hr hx).1, (h.r i r x hr hx).2.mono (Nat.zero_le _) (Nat.le_refl _)⟩⟩
theorem ZLs.nil (c lo : Nat) (W : World) (hlo : lo ≤ W.heap.size) : ZLs c lo (.slice (some ⟨W.heap.size, 0, none⟩) 0 0) [] [] (W.alloc (.cells #[] 33 (0, 0))) :=
  ⟨own_empty W _ _ hlo, rfl, fun i r x h => by simp at h, fun x h => by cases h⟩
theorem ZLs.mod {c lo b : Nat} {v : Value} {rs : List ZoneR} {L : ZonesL} {W W' : World} (h : ZLs c lo v rs L W) (hm : Mod b (b + 1) W W') (hb : b + 1 ≤ c) (hc : c ≤ lo) : ZLs c lo v rs L W' :=
  ⟨h.o.mod hm (by omega), h.l, fun i r x hr hx => ⟨(h.r i r x hr hx).1, ((h.r i r x hr hx).2.keep (hm.same (Nat.le_refl _) (.inr hb))).mono (Nat.le_refl _) hm.size⟩, h.z⟩
/-- A reading survives where its one block is left alone. -/
theorem sl_one {α : Type} {n : Nat} {c : α → List Value} {lo hi : Nat} {w w' : World} {v : Value} {l : List α} (h : Sl n c lo hi w v l) (hb : ∀ g, v.ownBlock = some g → w'.heap[g]? = w.heap[g]?) : Sl n c lo hi w' v l := by
  obtain ⟨a, cap, rfl, hc, hh⟩ := h
  refine ⟨a, cap, rfl, hc, fun h0 => ?_⟩
  obtain ⟨b, off, rfl, h1, h2, h3⟩ := hh h0
  exact ⟨b, off, rfl, h1, h2, fun i hi j u hu => (World.cell?_of_block (a := ⟨b, off + i * n + j, none⟩) (hb b rfl)).trans (h3 i hi j u hu)⟩
/-- No corners lie in the list's own block. -/
def Away (v : Value) (rs : List ZoneR) : Prop := ∀ (i : Nat) (r : ZoneR), rs[i]? = some r → ∀ g, r.s.v.ownBlock = some g → v.ownBlock ≠ some g
theorem ZLs.push {c lo : Nat} {v v' : Value} {rs : List ZoneR} {L : ZonesL} {W W' : World} {f : ZoneF} {s : SV} {C : List Pnt} (h : ZLs c lo v rs L W) (ha : Away v rs) (hs : Pnts c W.heap.size W s.v C) (hsz : C.length ≤ 1024) (has : ∀ g, s.v.ownBlock = some g → g < W.heap.size ∧ v.ownBlock ≠ some g) (hrs : ∀ (i : Nat) (r : ZoneR), rs[i]? = some r → ∀ g, r.s.v.ownBlock = some g → g < W.heap.size)
    (ho : Own 4 ZoneR.cells lo 33 W' v' (rs ++ [⟨f, s⟩])) (hg : (W.alloc (.cells (ZoneR.cells ⟨f, s⟩).toArray 33)).grownBy W' v.ownBlock) : ZLs c lo v' (rs ++ [⟨f, s⟩]) (L ++ [(f, C)]) W' := by
  have hsw : W.heap.size ≤ W'.heap.size := by have := hg.size; simp at this; omega
  have keep : ∀ g, g < W.heap.size → v.ownBlock ≠ some g → W'.heap[g]? = W.heap[g]? := fun g hgw hne =>
    (hg.block g (by simp; omega) (fun e => hne e.symm)).trans (((Below.refl W.heap.size W).alloc (Nat.le_refl _) _).block g hgw)
  refine ⟨ho, by simp [h.l], fun i r x hr hx => ?_, fun x hx => ?_⟩
  · by_cases hi : i < rs.length
    · rw [List.getElem?_append_left hi] at hr
      rw [List.getElem?_append_left (by rw [← h.l]; exact hi)] at hx
      obtain ⟨h1, h2⟩ := h.r i r x hr hx
      exact ⟨h1, (sl_one h2 (fun g hgr => keep g (hrs i r hr g hgr) (ha i r hr g hgr))).mono (Nat.le_refl _) hsw⟩
    · rw [List.getElem?_append_right (by omega)] at hr
      rw [List.getElem?_append_right (by rw [← h.l]; omega), ← h.l] at hx
      by_cases h0 : i - rs.length = 0
      · rw [h0] at hr hx
        simp at hr hx
        subst hr hx
        exact ⟨rfl, (sl_one hs (fun g hgr => keep g (has g hgr).1 (has g hgr).2)).mono (Nat.le_refl _) hsw⟩
      · rw [List.getElem?_eq_none (by simp; omega)] at hr; cases hr
  · rcases List.mem_append.1 hx with hx | hx
    · exact h.z x hx
    · simp at hx; subst hx; exact hsz
theorem quietZ_below {w wr : World} (h : ∃ n, wr = w.drewN n) : Below w.heap.size w wr := by obtain ⟨n, rfl⟩ := h; exact below_dN (Below.refl _ _) n
theorem quietZ_on {w wr : World} (h : ∃ n, wr = w.drewN n) (k : Nat) : ∃ n, wr.drewN k = w.drewN n := by obtain ⟨n, rfl⟩ := h; exact ⟨_, by rw [World.drewN_drewN]⟩
set_option maxRecDepth 100000 in
set_option maxHeartbeats 2000000 in
theorem law_f6ints (v v2 : Value) (l : List Int) (lo hi lo2 hi2 : Nat) (w : World) (h : Ints lo hi w v l) (h2 : Ints lo2 hi2 w v2 l) (hl : l.length ≤ 1000) : Calls Tryd.prog 18 #[v, v2] w fun e w' => e = .returned (.bool true) ∧ ∃ n, w' = w.drewN n := by
  have Hs := Lib.hid h
  have Hs2 := Lib.hid h2
  obtain ⟨a, cap, rfl, hc, _⟩ := h
  obtain ⟨a2, cap2, rfl, hc2, _⟩ := h2
  have hb : ((l.length : Int) != (l.length : Int)) = false := by rw [bne_eq_false_iff_eq]
  go_enter Tryd.func18, Tryd.ntmps18
  go_wp2
  go_loopw [5] (fun i wr => ∃ k : Nat, k ≤ l.length ∧ i = .int .i64 k ∧ Hid (∃ n, wr = w.drewN n)) (fun i _ => l.length - (Go.RowKit.intOf i).toNat)
  case atStart => exact ⟨0, Nat.zero_le _, rfl, Lib.hid ⟨0, rfl⟩⟩
  case round =>
    obtain ⟨k, hk, rfl, hD⟩ := hrel
    have hB := quietZ_below hD.out
    by_cases hlt : k < l.length
    · have hltI : (k : Int) < (l.length : Int) := by omega
      have hk0 : (0 : Int) ≤ (k : Int) := Int.natCast_nonneg _
      have hs := Hs.out.ext hB
      have hs2 := Hs2.out.ext hB
      obtain ⟨b, o, rfl⟩ := hs.addr (by omega)
      obtain ⟨b2, o2, rfl⟩ := hs2.addr (by omega)
      have c0 := Ints.at hs.get hlt
      have d0 := Ints.at hs2.get hlt
      generalize l[k] = z at *
      have hz : (z != z) = false := by simp
      clear hs hs2
      go_wp2_with (go_quiet (fail))
      go_roundw
      case rel => exact ⟨k + 1, by omega, by go_num, Lib.hid (quietZ_on hD.out _)⟩
      case measure => simp [Go.RowKit.intOf]; omega
    · go_wp2
      go_ret
      exact ⟨rfl, hD.out⟩
section
variable {α : Type} {c : α → List Value} {n bytes : Nat} {P : Program} {o : Oper} {a : Act}
/-- An append of one element, and where the new slice lies. -/
theorem wpList_appZ {w : World} {ops : Array Oper} {rest : List Oper} {Q : Exit → Act → World → Prop} (hgd : o.guard = none) (s x : Operand) (t e : TypeId) (ho : o.op = .call { callee := .builtin .append, args := #[s, x], argTypes := #[t, t] }) (ht : P.underlying t = some (.slice e))
    (hinfo : (P.info? e).map (fun i => (i.zero.map (·.cells.size), i.size, i.bytes)) = some (some n, n, bytes)) (hn0 : 0 < n) (hc : ∀ x, (c x).length = n) (h1 : ∀ x, ∀ u ∈ c x, u.oneCell' = true)
    (lo : Nat) (l : List α) (y : α) (v : Value) (hs : a.eval s = v) (w0 : World) (hw : w = w0.alloc (.cells (c y).toArray e)) (hown : Own n c lo e w0 v l) (hx : a.eval x = .slice (some ⟨w0.heap.size, 0, none⟩) 1 1)
    (hb : (l.length + 1) * bytes ≤ 140737488355328) (hm : l.length + 1 ≤ 9223372036854775807) (hlo : lo ≤ w0.heap.size)
    (h : ∀ g cap w', Own n c lo e w' (.slice (some ⟨g, 0, none⟩) (l.length + 1) cap) (l ++ [y]) → (w0.alloc (.cells (c y).toArray e)).grownBy w' v.ownBlock → (v.ownBlock = some g ∨ g = w0.heap.size + 1) → wpList P ops Q rest (a.put o.dst (.slice (some ⟨g, 0, none⟩) (l.length + 1) cap)) w') :
    wpList P ops Q (o :: rest) a w := by
  subst hw
  refine wpList_plain hgd fun _ hK => ?_
  obtain ⟨i, hi, hzz⟩ := Option.map_eq_some_iff.1 hinfo
  simp only [Prod.mk.injEq] at hzz
  obtain ⟨hz, hsz, hby⟩ := hzz
  obtain ⟨z, hz, hzs⟩ := Option.map_eq_some_iff.1 hz
  refine wp_append_lies _ s x t ho lo e i z n bytes ht hi hz hsz hby hzs hn0 v l.length (l.flatMap c) hs (hown.alloc _) ⟨w0.heap.size, 0, none⟩ 1 1 (c y) hx (by rw [hc]; omega) ?_ (h1 y) (by omega) (by unfold maxLen; omega) hb (by simp; omega) (w0.heap.size + 1) (World.size_alloc _ _) ?_
  · intro j u hu
    have hadd : (⟨w0.heap.size, 0, none⟩ : Addr).add j = ⟨w0.heap.size, j, none⟩ := by unfold Addr.add; split <;> simp_all
    rw [hadd, World.cell?_alloc_mark]
    simpa using hu
  · intro g cap w' h2 h3 h4 _
    refine hK _ _ (h g cap w' ?_ h3 h4)
    show w'.ownsRow lo e n _ (l ++ [y]).length ((l ++ [y]).flatMap c)
    rw [List.length_append, List.flatMap_append, List.length_singleton, List.flatMap_singleton]
    exact h2
end
/-- The list of zones that is being drawn. -/
structure ZS (c lo : Nat) (v : Value) (rs : List ZoneR) (L : ZonesL) (W : World) : Prop where
  z : ZLs c lo v rs L W
  a : Away v rs
  b : ∀ (i : Nat) (r : ZoneR), rs[i]? = some r → ∀ g, r.s.v.ownBlock = some g → g < W.heap.size
  h : ∀ g, v.ownBlock = some g → g < W.heap.size
theorem ZS.nil (c lo : Nat) (W : World) (hlo : lo ≤ W.heap.size) : ZS c lo (.slice (some ⟨W.heap.size, 0, none⟩) 0 0) [] [] (W.alloc (.cells #[] 33 (0, 0))) :=
  ⟨ZLs.nil c lo W hlo, fun i r h => by simp at h, fun i r h => by simp at h, fun g hg => by simp only [Value.ownBlock, Option.some.injEq] at hg; simp; omega⟩
theorem ZS.mod {c lo b : Nat} {v : Value} {rs : List ZoneR} {L : ZonesL} {W W' : World} (h : ZS c lo v rs L W) (hm : Mod b (b + 1) W W') (hb : b + 1 ≤ c) (hc : c ≤ lo) : ZS c lo v rs L W' :=
  ⟨h.z.mod hm hb hc, h.a, fun i r hr g hg => Nat.lt_of_lt_of_le (h.b i r hr g hg) hm.size, fun g hg => Nat.lt_of_lt_of_le (h.h g hg) hm.size⟩
theorem ZS.push {c lo : Nat} {v v' : Value} {rs : List ZoneR} {L : ZonesL} {W W' : World} {f : ZoneF} {s : SV} {C : List Pnt} {g cap n : Nat} (h : ZS c lo v rs L W) (hs : Pnts c W.heap.size W s.v C) (hsz : C.length ≤ 1024) (has : ∀ g, s.v.ownBlock = some g → g < W.heap.size ∧ v.ownBlock ≠ some g)
    (hv : v' = .slice (some ⟨g, 0, none⟩) n cap) (ho : Own 4 ZoneR.cells lo 33 W' v' (rs ++ [⟨f, s⟩])) (hg : (W.alloc (.cells (ZoneR.cells ⟨f, s⟩).toArray 33)).grownBy W' v.ownBlock) (hgw : v.ownBlock = some g ∨ g = W.heap.size + 1) : ZS c lo v' (rs ++ [⟨f, s⟩]) (L ++ [(f, C)]) W' := by
  have hsw : W.heap.size + 1 ≤ W'.heap.size := by have := hg.size; simp at this; omega
  have hv' : v'.ownBlock = some g := by rw [hv]; rfl
  refine ⟨h.z.push h.a hs hsz has h.b ho hg, fun i r hr g' hg' e => ?_, fun i r hr g' hg' => ?_, fun g' hg' => ?_⟩
  · rw [hv', Option.some.injEq] at e
    subst e
    by_cases hi : i < rs.length
    · rw [List.getElem?_append_left hi] at hr
      rcases hgw with hgw | hgw
      · exact h.a i r hr g hg' hgw
      · have := h.b i r hr g hg'; omega
    · rw [List.getElem?_append_right (by omega)] at hr
      by_cases h0 : i - rs.length = 0
      · rw [h0] at hr
        simp at hr
        subst hr
        obtain ⟨h1, h2⟩ := has g hg'
        rcases hgw with hgw | hgw
        · exact h2 hgw
        · omega
      · rw [List.getElem?_eq_none (by simp; omega)] at hr; cases hr
  · by_cases hi : i < rs.length
    · rw [List.getElem?_append_left hi] at hr
      have := h.b i r hr g' hg'; omega
    · rw [List.getElem?_append_right (by omega)] at hr
      by_cases h0 : i - rs.length = 0
      · rw [h0] at hr
        simp at hr
        subst hr
        have := (has g' hg').1; omega
      · rw [List.getElem?_eq_none (by simp; omega)] at hr; cases hr
  · obtain ⟨cur, fz, hb⟩ := ho.block hg'
    exact (Array.getElem?_eq_some_iff.1 hb).1
theorem sl_block {α : Type} {n : Nat} {c : α → List Value} {lo hi : Nat} {w : World} {v : Value} {l : List α} (h : Sl n c lo hi w v l) (h0 : 0 < l.length) {g : Nat} (hg : v.ownBlock = some g) : lo ≤ g ∧ g < hi := by
  obtain ⟨a, cap, rfl, _, hh⟩ := h
  obtain ⟨g', o, rfl, h1, h2, _⟩ := hh h0
  simp only [Value.ownBlock, Option.some.injEq] at hg
  omega
/-- The sizes of what is drawn. -/
def ZDs (L : ZonesL) : Prop := ∀ x ∈ L, 2 ≤ x.2.length ∧ x.2.length ≤ 13
/-- A list of zones that has been drawn: only its shape is told. -/
def ZsOut (b A : Nat) (w : World) (e : Ending) (w' : World) : Prop := ∃ (v : Value) (rs : List ZoneR) (L : ZonesL), e = .returned v ∧ Zones w.heap.size w'.heap.size w' v rs L ∧ ZDs L ∧ L.length ≤ 11 ∧ Src b A w' ∧ Mod b (b + 1) w w'
theorem ZLs.reads2 {q : Nat} {v : Value} {rs : List ZoneR} {L : ZonesL} {W : World} (h : ZLs q q v rs L W) : Zones q W.heap.size W v rs L :=
  ⟨(h.o.slw ZoneR.len).1, h.l, h.r⟩
/-- One zone again and again. -/
theorem zones_rep {q lo m : Nat} {v : Value} {f : ZoneF} {s : SV} {C : List Pnt} {W : World} (ho : Own 4 ZoneR.cells lo 33 W v (List.replicate m ⟨f, s⟩)) (hq : q ≤ lo) (hC : Pnts q W.heap.size W s.v C) : Zones q W.heap.size W v (List.replicate m ⟨f, s⟩) (List.replicate m (f, C)) :=
  ⟨((ho.slw ZoneR.len).1).mono hq (Nat.le_refl _), by simp, fun i r x hr hx => by
    rw [List.getElem?_replicate] at hr hx
    by_cases hi : i < m
    · rw [if_pos hi] at hr hx
      cases hr; cases hx
      exact ⟨rfl, hC⟩
    · rw [if_neg hi] at hr; cases hr⟩
set_option maxRecDepth 100000 in
set_option maxHeartbeats 4000000 in
theorem draw_Some (b A : Nat) (w : World) (h : Src b A w) (hA : A ≤ 50000) : Calls Tryd.prog 21 #[.pointer (some ⟨b, 0, none⟩)] w (ZsOut b (A + 300) w) := by
  have hp := Lib.hid (fun A w' h hA n hn => src_pick b A n w' h hA hn)
  have ho := Lib.hid (fun A w' h hA n hn => src_one b A n w' h hA hn)
  have hbl := Lib.hid h.lt
  have hb0 := (Below.refl w.heap.size w).alloc (Nat.le_refl _) (.cells #[] 33 (0, 0))
  have hZ := Lib.hid (ZS.nil w.heap.size w.heap.size w (Nat.le_refl _))
  have hS := Lib.hid (h.below hb0)
  have hM := Lib.hid (Mod.of_below (lo := b) (hi := b + 1) hb0)
  clear h hb0
  go_enter Tryd.func21, Tryd.ntmps21
  go_wp2_with fail
  generalize w.alloc (.cells #[] 33 (0, 0)) = w0 at *
  obtain ⟨q, hq⟩ : ∃ q, w.heap.size = q := ⟨_, rfl⟩
  rw [hq] at hZ hbl ⊢
  have Hq := Lib.hid hq
  clear hq
  refine (hp.out _ _ hS.out (by omega) 4 (by omega)).mono ?_
  rintro e w1 ⟨k, rfl, ⟨-, hk⟩, hs1, hm1⟩
  have hk := hk (by omega)
  have hZ1 := Lib.hid (hZ.out.mod hm1 (by have := hbl.out; omega) (Nat.le_refl _))
  have hS1 := Lib.hid hs1
  have hM1 := Lib.hid (hM.out.trans hm1)
  clear hs1 hm1 hZ hS hM
  go_wp2_with fail
  go_loopw [3, 4] (fun v i wr => ∃ (k : Nat) (rs : List ZoneR) (L : ZonesL) (a : Option Addr) (n c : Nat), i = .int .i64 k ∧ v = .slice a n c ∧ Hid (k + L.length ≤ 3) ∧ Hid (ZDs L) ∧ Hid (ZS q q (.slice a n c) rs L wr) ∧ Hid (Src b (A + 2 + 60 * L.length) wr) ∧ Hid (Mod b (b + 1) w wr)) (fun _ i _ => (Go.RowKit.intOf i).toNat)
  case atStart => exact ⟨k, [], [], _, _, _, rfl, rfl, Lib.hid (by simp; omega), Lib.hid (fun x hx => by cases hx), hZ1, Lib.hid hS1.out, hM1⟩
  case round =>
    clear hZ1 hS1 hM1 hk
    obtain ⟨k, rs, L, va, vn, vc, rfl, rfl, hkl, hds, hZ, hS, hM⟩ := hrel
    by_cases hk0 : 0 < k
    · have hki : (0 : Int) < (k : Int) := by omega
      have Hk := Lib.hid hk0
      have wk : IntKind.i64.wrap ((k : Int) - 1) = (k : Int) - 1 := IntWalk.i64_in _ (by have := hkl.out; omega)
      clear hk0
      go_wp2_with fail
      refine (draw_Bent b _ wr hS.out (by have := hkl.out; omega)).mono ?_
      rintro e w2 ⟨f, ⟨sa, sl, sc⟩, C, rfl, hsl, hlen, hs2, hm2⟩
      have hZ2 := Lib.hid (hZ.out.mod hm2 (by have := hbl.out; omega) (Nat.le_refl _))
      have hS2 := Lib.hid hs2
      have hM2 := Lib.hid (hM.out.trans hm2)
      have hqw : q ≤ w2.heap.size := by rw [← Hq.out]; exact hM2.out.size
      have hqr : q ≤ wr.heap.size := by rw [← Hq.out]; exact hM.out.size
      have has : Hid (∀ g, (⟨sa, sl, sc⟩ : SV).v.ownBlock = some g → g < w2.heap.size ∧ (Value.slice va vn vc).ownBlock ≠ some g) := Lib.hid (fun g hg => by
        obtain ⟨h1, h2⟩ := sl_block hsl.1 (by omega) hg
        refine ⟨h2, fun e => ?_⟩
        have := hZ.out.h g e
        omega)
      have hPn := Lib.hid (hsl.1.mono hqr (Nat.le_refl _))
      have Hlen := Lib.hid hlen
      have hrl : Hid (rs.length + k ≤ 3) := Lib.hid (by rw [hZ.out.z.l]; have := hkl.out; omega)
      clear hsl hs2 hm2 hZ hS hM hlen hqr
      simp only [ZoneR.cells, SV.v]
      go_wp2_with (at_builtin; refine wpList_appZ (c := ZoneR.cells) (bytes := 48) rfl _ _ 24 33 rfl Tryd.underlying24 info_ZoneZ (by omega) ZoneR.len ZoneR.oneZ q rs (⟨f, ⟨sa, sl, sc⟩⟩ : ZoneR) _ rfl w2 rfl hZ2.out.z.o rfl (by have := hrl.out; omega) (by have := hrl.out; omega) hqw ?_; intro g cap w3 hown3 hg3 hw3; have hZ3 := Lib.hid (hZ2.out.push hPn.out (by have := Hlen.out; omega) has.out rfl hown3 hg3 hw3); have hb3 := hZ2.out.z.o.app (Below.refl q w2) (Nat.le_refl _) hqw hg3; have hS3 := Lib.hid (hS2.out.lo hb3 hbl.out); have hM3 := Lib.hid (hM2.out.onV (hb3.mono (Nat.le_of_eq Hq.out))); clear hown3 hg3 hw3 hb3)
      go_roundw
      case rel => exact ⟨k - 1, rs ++ [⟨f, ⟨sa, sl, sc⟩⟩], L ++ [(f, C)], _, _, _, by have := Hk.out; go_num, rfl, Lib.hid (by have := hkl.out; have := Hk.out; simp only [List.length_append, List.length_singleton]; omega), Lib.hid (fun x hx => by
        rcases List.mem_append.1 hx with hx | hx
        · exact hds.out x hx
        · rw [List.mem_singleton.1 hx]; exact Hlen.out), hZ3, Lib.hid (hS3.out.mono (by simp only [List.length_append, List.length_singleton]; omega)), hM3⟩
      case measure => have := Hk.out; simp [Go.RowKit.intOf]; omega
    · obtain rfl : k = 0 := by omega
      have hki : ¬ (0 : Int) < ((0 : Nat) : Int) := by omega
      go_wp2_with fail
      refine (ho.out _ _ hS.out (by have := hkl.out; omega) 24 (by omega)).mono ?_
      rintro e w2 ⟨c, rfl, hs2, hm2⟩
      have hZ2 := Lib.hid (hZ.out.mod hm2 (by have := hbl.out; omega) (Nat.le_refl _))
      have hS2 := Lib.hid (show Src b (A + 190) w2 from hs2.mono (by have := hkl.out; omega))
      have hM2 := Lib.hid (hM.out.trans hm2)
      clear hs2 hm2 hZ hS hM
      cases c
      · go_wp2_with fail
        go_ret
        exact ⟨_, rs, L, rfl, by rw [Hq.out]; exact hZ2.out.z.reads2, hds.out, by have := hkl.out; omega, hS2.out.mono (by omega), hM2.out⟩
      · clear hki
        go_wp2_with fail
        refine (draw_Zone b _ w2 hS2.out (by omega)).mono ?_
        rintro e w3 ⟨f, ⟨sa, sl, sc⟩, C, rfl, hsl, hlen, hs3, hm3⟩
        have hqw : q ≤ w2.heap.size := by rw [← Hq.out]; exact hM2.out.size
        have hqw3 : q ≤ w3.heap.size := Nat.le_trans hqw hm3.size
        have hb4 := ((Below.refl w3.heap.size w3).alloc (Nat.le_refl _) (.cells #[.int .i64 f.kind, .int .i64 f.storeys, .int .i64 f.each, .slice sa sl sc] 33 (0, 0))).alloc (by simp) (.cells #[] 33 (0, 0))
        have hX4 := Lib.hid (blkN_below ((Below.refl _ _).alloc (Nat.le_refl _) (.cells #[] 33 (0, 0))) (blkN_new w3 (.cells #[.int .i64 f.kind, .int .i64 f.storeys, .int .i64 f.each, .slice sa sl sc] 33 (0, 0))))
        have hO4 := own_empty (c := ZoneR.cells) (n := 4) (w3.alloc (.cells #[.int .i64 f.kind, .int .i64 f.storeys, .int .i64 f.each, .slice sa sl sc] 33 (0, 0))) 33 (w3.heap.size + 1) (by simp)
        rw [World.size_alloc] at hO4
        have hO4 := Lib.hid hO4
        have hS4 := Lib.hid (hs3.below hb4)
        have hM4 := Lib.hid ((hM2.out.trans hm3).then hb4)
        have hz4 : ((w3.alloc (.cells #[.int .i64 f.kind, .int .i64 f.storeys, .int .i64 f.each, .slice sa sl sc] 33 (0, 0))).alloc (.cells #[] 33 (0, 0))).heap.size = w3.heap.size + 1 + 1 := by simp
        have hPn := Lib.hid ((hsl.1.mono hqw (Nat.le_refl _)).keep (fun k _ h2 => hb4.block k h2))
        have Hlen := Lib.hid hlen
        clear hsl hs3 hm3 hZ2 hS2 hM2 hlen hb4 hqw
        simp only [ZoneR.cells, SV.v] at hPn ⊢
        go_wp2_with fail
        generalize (w3.alloc (.cells #[.int .i64 f.kind, .int .i64 f.storeys, .int .i64 f.each, .slice sa sl sc] 33 (0, 0))).alloc (.cells #[] 33 (0, 0)) = w4 at *
        obtain ⟨p, hpe⟩ : ∃ p, w3.heap.size = p := ⟨_, rfl⟩
        rw [hpe] at hX4 hO4 hPn hz4 hqw3 ⊢
        clear hpe
        have Hp := Lib.hid (show q ≤ p ∧ w4.heap.size = p + 1 + 1 from ⟨hqw3, hz4⟩)
        clear hqw3 hz4
        refine (hp.out _ _ hS4.out (by omega) 2 (by omega)).mono ?_
        rintro e w5 ⟨j, rfl, ⟨-, hj⟩, hs5, hm5⟩
        have hj := hj (by omega)
        have hX5 := Lib.hid (blk_modV hX4.out hm5 (by have := Hp.out; have := hbl.out; omega))
        have hO5 := Lib.hid (hO4.out.mod hm5 (by have := Hp.out; have := hbl.out; omega))
        have hPn5 := Lib.hid (hPn.out.keep (hm5.same (by have := Hp.out; omega) (.inr (by have := hbl.out; omega))))
        have hS5 := Lib.hid hs5
        have hM5 := Lib.hid (hM4.out.trans hm5)
        have hz5 := Lib.hid (show p + 1 + 1 ≤ w5.heap.size by have := hm5.size; have := Hp.out; omega)
        have wj : IntKind.i64.wrap (10 + (j : Int)) = 10 + (j : Int) := IntWalk.i64_in _ (by omega)
        have Hj := Lib.hid hj
        clear hs5 hm5 hX4 hO4 hPn hS4 hM4 hj
        go_wp2_with fail
        go_loopw [3, 6] (fun v i wr => ∃ (k m : Nat) (a : Option Addr) (n c : Nat), i = .int .i64 k ∧ v = .slice a n c ∧ Hid (k + m ≤ 11) ∧ Hid (Own 4 ZoneR.cells (p + 1) 33 wr (.slice a n c) (List.replicate m ⟨f, ⟨sa, sl, sc⟩⟩)) ∧ Hid (wr.heap[p]? = some (.cells #[.int .i64 f.kind, .int .i64 f.storeys, .int .i64 f.each, .slice sa sl sc] 33 (0, 0))) ∧ Hid (Below (p + 1) w5 wr)) (fun _ i _ => (Go.RowKit.intOf i).toNat)
        case atStart => exact ⟨10 + j, 0, _, _, _, by simp, rfl, Lib.hid (by have := Hj.out; omega), hO5, hX5, Lib.hid (Below.refl _ _)⟩
        case round =>
          obtain ⟨k, m, ua, un, uc, rfl, rfl, hkm, hO, hX, hB⟩ := hrel
          by_cases hk0 : 0 < k
          · have hki : (0 : Int) < (k : Int) := by omega
            have Hk := Lib.hid hk0
            have wk : IntKind.i64.wrap ((k : Int) - 1) = (k : Int) - 1 := IntWalk.i64_in _ (by have := hkm.out; omega)
            have c0 := (Lib.cell_of_heap hX.out 0).trans rfl
            have c1 := (Lib.cell_of_heap hX.out 1).trans rfl
            have c2 := (Lib.cell_of_heap hX.out 2).trans rfl
            have c3 := (Lib.cell_of_heap hX.out 3).trans rfl
            have hpw : p + 1 ≤ wr.heap.size := (Array.getElem?_eq_some_iff.1 hX.out).1
            clear hk0
            go_wp2_with (at_builtin; refine wpList_appZ (c := ZoneR.cells) (bytes := 48) rfl _ _ 24 33 rfl Tryd.underlying24 info_ZoneZ (by omega) ZoneR.len ZoneR.oneZ (p + 1) (List.replicate m ⟨f, ⟨sa, sl, sc⟩⟩) (⟨f, ⟨sa, sl, sc⟩⟩ : ZoneR) _ rfl wr rfl hO.out rfl (by have := hkm.out; simp; omega) (by have := hkm.out; simp; omega) hpw ?_; intro g cap w6 hown6 hg6 hw6; have hb6 := hO.out.app (Below.refl (p + 1) wr) (Nat.le_refl _) hpw hg6; have hX6 := Lib.hid ((hb6.block p (Nat.lt_succ_self p)).trans hX.out); have hB6 := Lib.hid (hB.out.trans hb6); rw [← List.replicate_succ', List.length_replicate] at hown6; have hO6 := Lib.hid hown6; clear hown6 hg6 hw6 hb6)
            go_roundw
            case rel => exact ⟨k - 1, m + 1, _, _, _, by have := Hk.out; go_num, rfl, Lib.hid (by have := hkm.out; have := Hk.out; omega), hO6, hX6, hB6⟩
            case measure => have := Hk.out; simp [Go.RowKit.intOf]; omega
          · obtain rfl : k = 0 := by omega
            have hki : ¬ (0 : Int) < ((0 : Nat) : Int) := by omega
            go_wp2_with fail
            go_ret
            have hBp := hB.out
            have hz6 := hBp.size
            have hPn6 := hPn5.out.keep (fun k _ h2 => hBp.block k (by omega))
            refine ⟨.slice ua un uc, List.replicate m ⟨f, ⟨sa, sl, sc⟩⟩, List.replicate m (f, C), rfl, ?_, ?_, ?_, (hS5.out.lo hBp (by have := hbl.out; have := Hp.out; omega)).mono (by omega), hM5.out.onV (hBp.mono (by rw [Hq.out]; have := Hp.out; omega))⟩
            · rw [Hq.out]
              exact zones_rep hO.out (by have := Hp.out; omega) (hPn6.mono (by omega) (by have := hz5.out; omega))
            · intro x hx
              rw [List.eq_of_mem_replicate hx]
              exact Hlen.out
            · have := hkm.out; simp; omega
end Go.Proofs.YtpabbehpkokhbaaDoor
