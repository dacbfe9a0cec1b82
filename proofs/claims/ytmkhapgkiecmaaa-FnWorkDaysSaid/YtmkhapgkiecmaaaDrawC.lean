/- The draws of the checks. -/
import Derived.Test.YtmkhapgkiecmaaaDrawF
import Derived.Test.YtmkhapgkiecmaaaPh
namespace Go.Proofs.Ytmkhapgkiecmaaa
open Go.RowKit
def ChksOut (b A B : Nat) (w : World) (e : Ending) (w' : World) : Prop :=
  ∃ v l, e = .returned v ∧ Slw 4 Chk.cells B w'.heap.size w' v l ∧ (∀ f ∈ l, f.wf) ∧ l.length ≤ 40 ∧ Src b (A + 100) w' ∧ Mod b (b + 1) w w'
def wfs (l : List Chk) : Prop := ∀ f ∈ l, f.wf
theorem wfs_push {l : List Chk} {x : Chk} (h : ∀ f ∈ l, f.wf) (hx : x.wf) : ∀ f ∈ l ++ [x], f.wf := by
  intro f hf
  rcases List.mem_append.1 hf with hf | hf
  · exact h f hf
  · rw [List.mem_singleton.1 hf]; exact hx
theorem wfs_set {l : List Chk} {x : Chk} {k : Nat} (h : ∀ f ∈ l, f.wf) (hx : x.wf) : ∀ f ∈ l.set k x, f.wf := by
  intro f hf
  rcases List.mem_or_eq_of_mem_set hf with hf | hf
  · exact h f hf
  · rw [hf]; exact hx
theorem wfs_mk {a c d : Int} {nm : ByteArray} (h : I64 a ∧ nm.size ≤ 100 ∧ I64 c ∧ I64 d) : Chk.wf ⟨a, nm, c, d⟩ := ⟨h.1, Nat.le_trans h.2.1 (by unfold maxLen; omega), h.2.2⟩
theorem modq {b B : Nat} {W W' : World} (hm : Mod b (b + 1) W W') (hb : b < B) : (∀ k o, B ≤ k → k < W.heap.size → W'.cell? ⟨k, o, none⟩ = W.cell? ⟨k, o, none⟩) ∧ (∀ k o, B ≤ k → k < W.heap.size → W'.frozen? ⟨k, o, none⟩ = W.frozen? ⟨k, o, none⟩) :=
  ⟨fun k _ h1 h2 => World.cell?_of_block (hm.block k h2 (by omega)), fun k _ h1 h2 => World.frozen?_of_block (hm.block k h2 (by omega))⟩
theorem four_cell {V : World} {p k o : Nat} {a1 a2 a3 a4 : Value} (hk : k ≠ p) : ((((V.setCell ⟨p, 0, none⟩ a1).setCell ⟨p, 1, none⟩ a2).setCell ⟨p, 2, none⟩ a3).setCell ⟨p, 3, none⟩ a4).cell? ⟨k, o, none⟩ = V.cell? ⟨k, o, none⟩ := by
  have h : ∀ j : Nat, (⟨k, o, none⟩ : Addr) ≠ ⟨p, j, none⟩ := fun j e => hk (congrArg Addr.block e)
  rw [World.cell?_setCell_other _ _ _ _ (h 3).symm, World.cell?_setCell_other _ _ _ _ (h 2).symm, World.cell?_setCell_other _ _ _ _ (h 1).symm, World.cell?_setCell_other _ _ _ _ (h 0).symm]
theorem four_at {V : World} {p : Nat} {a1 a2 a3 a4 b1 b2 b3 b4 : Value} {T : TypeId} {fz : Nat × Nat} (h : V.heap[p]? = some (.cells #[b1, b2, b3, b4] T fz)) :
    ((((V.setCell ⟨p, 0, none⟩ a1).setCell ⟨p, 1, none⟩ a2).setCell ⟨p, 2, none⟩ a3).setCell ⟨p, 3, none⟩ a4).heap[p]? = some (.cells #[a1, a2, a3, a4] T fz) := by
  simp [World.setCell, Array.getElem?_modify, h]
theorem four_below {B : Nat} (V : World) {p : Nat} {a1 a2 a3 a4 : Value} (hB : B ≤ p) : Below B V ((((V.setCell ⟨p, 0, none⟩ a1).setCell ⟨p, 1, none⟩ a2).setCell ⟨p, 2, none⟩ a3).setCell ⟨p, 3, none⟩ a4) :=
  ((((Below.refl B V).setCell hB _).setCell hB _).setCell hB _).setCell hB _
section
variable {P : Program} {ops : Array Oper} {Q : Exit → Act → World → Prop} {md : Region.Mode} {S : Array Bool → World → Prop}
/-- One of two operations comes up. -/
theorem AnyL.two {i j : Nat} {oi oj : Oper} {fuel : Nat} {listed : Array Bool} {a : Act} {w : World} (hr : Region.ready md ops listed = [i, j]) (hi : ops[i]? = some oi) (hj : ops[j]? = some oj)
    (h1 : ∀ K' : Act → World → Prop, Hid (∀ a w, S (listed.setIfInBounds i true) w → (S (listed.setIfInBounds i true) w → AnyL P md ops Q S fuel (listed.setIfInBounds i true) a w) → K' a w) → if Region.wanted oi (yielded ops a.tmps) = true then Oper.wp P oi a w K' Q else K' (a.put oi.dst undef) w)
    (h2 : ∀ K' : Act → World → Prop, Hid (∀ a w, S (listed.setIfInBounds j true) w → (S (listed.setIfInBounds j true) w → AnyL P md ops Q S fuel (listed.setIfInBounds j true) a w) → K' a w) → if Region.wanted oj (yielded ops a.tmps) = true then Oper.wp P oj a w K' Q else K' (a.put oj.dst undef) w) :
    AnyL P md ops Q S (fuel + 1) listed a w := by
  refine ⟨fun h0 => (by rw [hr] at h0; cases h0), fun k hk => ?_⟩
  rw [hr] at hk
  simp at hk
  rcases hk with rfl | rfl
  · exact wpOp_step hi fun K' hK => h1 K' (Lib.hid fun a w hS hW => hK a w ⟨hS, hW hS⟩)
  · exact wpOp_step hj fun K' hK => h2 K' (Lib.hid fun a w hS hW => hK a w ⟨hS, hW hS⟩)
end
section
variable {α : Type} {c : α → List Value} {n bytes : Nat} {P : Program} {o : Oper} {a : Act}
theorem wp_appC {w : World} {K : Act → World → Prop} {Q : Exit → Act → World → Prop} (s x : Operand) (t e : TypeId) (ho : o.op = .call { callee := .builtin .append, args := #[s, x], argTypes := #[t, t] }) (ht : P.underlying t = some (.slice e))
    (hinfo : (P.info? e).map (fun i => (i.zero.map (·.cells.size), i.size, i.bytes)) = some (some n, n, bytes)) (hn0 : 0 < n) (hc : ∀ x, (c x).length = n) (h1 : ∀ x, ∀ u ∈ c x, u.oneCell' = true)
    (lo : Nat) (l0 l : List α) (v : Value) (hs : a.eval s = v) (hown : Own n c lo e w v l0) (lo2 hi2 b off cap : Nat) (hx : a.eval x = .slice (some ⟨b, off, none⟩) l.length cap) (hr : Sl n c lo2 hi2 w (.slice (some ⟨b, off, none⟩) l.length cap) l)
    (hb : (l0.length + l.length) * bytes ≤ 140737488355328) (hm : l0.length + l.length ≤ 9223372036854775807) (hlo : lo ≤ w.heap.size)
    (h : ∀ v' w', Own n c lo e w' v' (l0 ++ l) → w.grownBy w' v.ownBlock → K (a.put o.dst v') w') : o.wp P a w K Q := by
  obtain ⟨i, hi, hzz⟩ := Option.map_eq_some_iff.1 hinfo
  simp only [Prod.mk.injEq] at hzz
  obtain ⟨hz, hsz, hby⟩ := hzz
  obtain ⟨z, hz, hzs⟩ := Option.map_eq_some_iff.1 hz
  refine wp_append_own _ s x t ho lo e i z n bytes ht hi hz hsz hby hzs hn0 v l0.length (l0.flatMap c) hs hown ⟨b, off, none⟩ l.length cap (l.flatMap c) hx (flat_len hc l) ?_ ?_ (by unfold maxLen; omega) hb hlo ?_
  · intro j u hu
    obtain ⟨i, jj, hi, rfl, hu'⟩ := flat_at hc l j u hu
    have := hr.get i hi jj u hu'
    have hadd : (⟨b, off, none⟩ : Addr).add (i * n + jj) = ⟨b, off + i * n + jj, none⟩ := by
      unfold Addr.add; split
      · rw [show off + i * n + jj = off from by omega]
      · simp only [Nat.add_assoc]
    rw [hadd]; exact this
  · intro u hu
    obtain ⟨x, _, hx⟩ := List.mem_flatMap.1 hu
    exact h1 x u hx
  · intro v' w' h2 h3 _
    refine h v' w' ?_ h3
    show w'.ownsRow lo e n v' (l0 ++ l).length ((l0 ++ l).flatMap c)
    rw [List.length_append, List.flatMap_append]
    exact h2
theorem step_appC {w : World} {ops : Array Oper} {K : Act → World → Prop} {Q : Exit → Act → World → Prop} {E : Prop} (hgd : o.guard = none) (s x : Operand) (t e : TypeId) (ho : o.op = .call { callee := .builtin .append, args := #[s, x], argTypes := #[t, t] }) (ht : P.underlying t = some (.slice e))
    (hinfo : (P.info? e).map (fun i => (i.zero.map (·.cells.size), i.size, i.bytes)) = some (some n, n, bytes)) (hn0 : 0 < n) (hc : ∀ x, (c x).length = n) (h1 : ∀ x, ∀ u ∈ c x, u.oneCell' = true)
    (lo : Nat) (l0 l : List α) (v : Value) (hs : a.eval s = v) (hown : Own n c lo e w v l0) (lo2 hi2 b off cap : Nat) (hx : a.eval x = .slice (some ⟨b, off, none⟩) l.length cap) (hr : Sl n c lo2 hi2 w (.slice (some ⟨b, off, none⟩) l.length cap) l)
    (hb : (l0.length + l.length) * bytes ≤ 140737488355328) (hm : l0.length + l.length ≤ 9223372036854775807) (hlo : lo ≤ w.heap.size)
    (h : ∀ v' w', Own n c lo e w' v' (l0 ++ l) → w.grownBy w' v.ownBlock → K (a.put o.dst v') w') :
    if Region.wanted o (yielded ops a.tmps) = true then o.wp P a w K Q else E := by
  rw [if_pos (by simp [Region.wanted, hgd])]
  exact wp_appC s x t e ho ht hinfo hn0 hc h1 lo l0 l v hs hown lo2 hi2 b off cap hx hr hb hm hlo h
end
theorem Sl.grown {α : Type} {n : Nat} {c : α → List Value} {lo hi : Nat} {w w' : World} {v : Value} {l : List α} {row : Option Nat} (h : Sl n c lo hi w v l) (hg : w.grownBy w' row) (hhi : hi ≤ w.heap.size) (hr : ∀ k, row = some k → k < lo ∨ hi ≤ k) : Sl n c lo hi w' v l :=
  h.keep (fun k h1 h2 => hg.block k (by omega) (fun e => by have := hr k e.symm; omega))
def nm4 : List ByteArray := [⟨#[114, 111, 112, 101, 115]⟩, ⟨#[104, 111, 111, 107]⟩, ⟨#[109, 97, 115, 116]⟩, ⟨#[98, 114, 97, 107, 101, 115]⟩]
theorem Own.lowerC {α : Type} {n : Nat} {c : α → List Value} {lo lo' : Nat} {e : TypeId} {w : World} {v : Value} {l : List α} (h : Own n c lo e w v l) (hl : lo' ≤ lo) : Own n c lo' e w v l :=
  ⟨h.1, h.2.imp id fun ⟨g, cap, cur, hv, hb, r⟩ => ⟨g, cap, cur, hv, Nat.le_trans hl hb, r⟩⟩
set_option maxRecDepth 100000 in
set_option maxHeartbeats 8000000 in
theorem draw_Checks (b A : Nat) (w : World) (h : Src b A w) (hA : A ≤ 100000) : Calls Try.prog 102 #[.pointer (some ⟨b, 0, none⟩)] w (ChksOut b A w.heap.size w) := by
  have hpk := Lib.hid (fun A w' h hA n hn => src_pick b A n w' h hA hn)
  have hbl := h.lt
  have Hs := Lib.hid h
  clear h
  go_enter Try.func102, Try.ntmps102
  go_wp2_with fail
  obtain ⟨tt, htt⟩ : ∃ tt : Array Value, tt = #[.string ⟨#[114, 111, 112, 101, 115]⟩, .string ⟨#[104, 111, 111, 107]⟩, .string ⟨#[109, 97, 115, 116]⟩, .string ⟨#[98, 114, 97, 107, 101, 115]⟩] := ⟨_, rfl⟩
  have hnm : ∀ i : Nat, i < 4 → ∃ nm : ByteArray, tt[i]? = some (.string nm) ∧ nm.size ≤ 100 := by
    intro i hi
    rw [htt]
    match i, hi with
    | 0, _ => exact ⟨_, rfl, by decide⟩
    | 1, _ => exact ⟨_, rfl, by decide⟩
    | 2, _ => exact ⟨_, rfl, by decide⟩
    | 3, _ => exact ⟨_, rfl, by decide⟩
  rw [← htt]
  clear htt
  obtain ⟨w1, hw1⟩ : ∃ w1, w.alloc (.cells tt 9 (0, 0)) = w1 := ⟨_, rfl⟩
  have hsz1 : w1.heap.size = w.heap.size + 1 := by rw [← hw1]; simp
  have hba1 := (Below.refl w.heap.size w).alloc (Nat.le_refl _) (.cells tt 9 (0, 0))
  have hT1 : (w.alloc (.cells tt 9 (0, 0))).heap[w.heap.size]? = some (.cells tt 9 (0, 0)) := Array.getElem?_push_size
  rw [hw1] at hba1 hT1 ⊢
  have hbe := (Below.refl w1.heap.size w1).alloc (Nat.le_refl _) (.cells #[] 106 (0, 0))
  have hO1 : Own 4 Chk.cells (w.heap.size + 1) 106 (w1.alloc (.cells #[] 106 (0, 0))) (.slice (some ⟨w1.heap.size, 0, none⟩) 0 0) ([] : List Chk) := own_empty w1 106 (w.heap.size + 1) (by omega)
  rw [hsz1] at hO1
  have hS1 := Lib.hid ((Hs.out.below hba1).below hbe)
  have hM1 := Lib.hid ((Mod.of_below (lo := b) (hi := b + 1) hba1).then hbe)
  have hT1 := Lib.hid ((hbe.block w.heap.size (by omega)).trans hT1)
  clear hba1 hbe hw1 Hs
  refine (hpk.out A _ hS1.out (by omega) 6 (by omega)).mono ?_
  rintro e w2 ⟨k0, rfl, ⟨_, hk0⟩, hs2, hm2⟩
  have hk0 := hk0 (by omega)
  have hS2 := Lib.hid hs2
  have hM2 := Lib.hid (hM1.out.trans hm2)
  have hO2 := Lib.hid (hO1.mod hm2 (by omega))
  have hT2 := Lib.hid ((hm2.block w.heap.size (Array.getElem?_eq_some_iff.1 hT1.out).1 (by omega)).trans hT1.out)
  have Hnm := Lib.hid hnm
  clear hS1 hM1 hO1 hT1 hs2 hm2 hnm
  go_wp2_with fail
  go_loopw [4, 5] (fun o i wr => ∃ (k : Nat) (acc : List Chk), i = .int .i64 k ∧ k ≤ 5 ∧ acc.length + k ≤ 5 ∧ Hid (∀ f ∈ acc, f.wf) ∧ Hid (Own 4 Chk.cells (w.heap.size + 1) 106 wr o acc) ∧ Hid (Src b (A + 2 + 10 * (5 - k)) wr) ∧ Hid (Mod b (b + 1) w wr) ∧ Hid (wr.heap[w.heap.size]? = some (.cells tt 9 (0, 0))) ∧ ∃ gb go na gc, o = .slice (some ⟨gb, go, none⟩) na gc ∧ na = acc.length) (fun _ i _ => (intOf i).toNat)
  case atStart => exact ⟨k0, [], rfl, by omega, by simp; omega, Lib.hid (by simp), hO2, Lib.hid (hS2.out.mono (by omega)), hM2, hT2, _, _, _, _, rfl, rfl⟩
  case round =>
    clear hO2 hS2 hM2 hT2
    obtain ⟨k, acc, rfl, hk5, hlen, hwf, hO, hS, hM, hT, gb, go, na, gc, rfl, hna⟩ := hrel
    have Hna := Lib.hid hna
    clear hna
    have hszr := hM.out.size
    have htl := (Array.getElem?_eq_some_iff.1 hT.out).1
    have hzz : wr.heap.size ≤ wr.heap.size := Nat.le_refl _
    by_cases hk : 0 < k
    · go_wp2_with fail
      have hbr := hS.out.lt
      have tw : w.heap.size ≠ b := by omega
      have hSc := hS.out.below (Below.refl wr.heap.size wr).drew
      have hMc : Mod b (b + 1) wr wr.drew := Mod.of_below (Below.refl _ _).drew
      rename_i Ky hKy
      have key : ∀ (cr ev la : Nat) (nm : ByteArray) (pp : Nat) (WF : World) (x7 x12 x13 x14 x15 x16 x17 x18 x19 x20 x21 x22 x23 x24 x25 x26 x27 x28 x29 x30 x31 x32 x33 x34 x35 x36 x37 : Value), WF.heap[pp]? = some (.cells #[.int .i64 cr, .string nm, .int .i64 (1 + (ev : Int)), .int .i64 la] 106 (0, 0)) → Src b (A + 2 + 10 * (5 - k) + 2 + 2 + 2 + 2) WF → Mod b (b + 1) wr WF → wr.heap.size ≤ pp → (cr : Int) < 2 → (ev : Int) < 30 → (la : Int) < 60 → nm.size ≤ 100 → Ky { tmps := #[(.pointer (some ⟨b, 0, none⟩)), undef, (.slice none 0 0), (.slice (some ⟨w.heap.size, 0, none⟩) 4 4), (.slice (some ⟨gb, go, none⟩) na gc), (.int .i64 k), (.pointer (some ⟨pp, 0, none⟩)), x7, (.slice (some ⟨w.heap.size, 0, none⟩) 4 4), (.slice (some ⟨w.heap.size + 1, 0, none⟩) 0 0), (.pointer (some ⟨b, 0, none⟩)), (.int .i64 k0), x12, x13, x14, x15, x16, x17, x18, x19, x20, x21, x22, x23, x24, x25, x26, x27, x28, x29, x30, x31, x32, x33, x34, x35, x36, x37, undef], defers := [] } WF := by
        intro cr ev la nm pp WF x7 x12 x13 x14 x15 x16 x17 x18 x19 x20 x21 x22 x23 x24 x25 x26 x27 x28 x29 x30 x31 x32 x33 x34 x35 x36 x37 hX hSF hMF hppz hcr hev hla hnsz
        refine hKy _ _ ?_
        have hppl := (Array.getElem?_eq_some_iff.1 hX).1
        have p0 : WF.cell? ⟨pp, 0, none⟩ = some (.int .i64 cr) := (Lib.cell_of_heap hX 0).trans rfl
        have p1 : WF.cell? ⟨pp, 1, none⟩ = some (.string nm) := (Lib.cell_of_heap hX 1).trans rfl
        have p2 : WF.cell? ⟨pp, 2, none⟩ = some (.int .i64 (1 + (ev : Int))) := (Lib.cell_of_heap hX 2).trans rfl
        have p3 : WF.cell? ⟨pp, 3, none⟩ = some (.int .i64 la) := (Lib.cell_of_heap hX 3).trans rfl
        have HOF := Lib.hid (hO.out.mod hMF (by omega))
        have HSF := Lib.hid hSF
        have HMF := Lib.hid hMF
        have hBc := (Below.refl WF.heap.size WF).drew
        clear hX hSF hMF
        go_wp2_with fail
        rename_i Kz hKz
        have hsrcAt := Lib.hid (fun W1 (hB : Below WF.heap.size WF W1) => show Sl 4 Chk.cells (w.heap.size + 1) WF.heap.size W1 (.slice (some ⟨gb, go, none⟩) acc.length gc) acc by have h := (HOF.out.slw Chk.len).1.ext hB; rw [Hna.out] at h; exact h)
        have key2 : ∀ (v9 : Value) (W9 : World) (y29 y30 y31 y32 y33 y34 : Value), Own 4 Chk.cells WF.heap.size 106 W9 v9 ([] ++ acc ++ [(⟨cr, nm, 1 + (ev : Int), la⟩ : Chk)]) → Below WF.heap.size WF W9 → Kz { tmps := #[(.pointer (some ⟨b, 0, none⟩)), undef, (.slice none 0 0), (.slice (some ⟨w.heap.size, 0, none⟩) 4 4), (.slice (some ⟨gb, go, none⟩) na gc), (.int .i64 k), (.pointer (some ⟨pp, 0, none⟩)), v9, (.slice (some ⟨w.heap.size, 0, none⟩) 4 4), (.slice (some ⟨w.heap.size + 1, 0, none⟩) 0 0), (.pointer (some ⟨b, 0, none⟩)), (.int .i64 k0), x12, x13, x14, x15, x16, x17, x18, x19, x20, x21, x22, x23, x24, x25, x26, x27, x28, y29, y30, y31, y32, y33, y34, x35, x36, x37, undef], defers := [] } W9 := by
          intro v9 W9 y29 y30 y31 y32 y33 y34 hO9 hB9
          refine hKz _ _ ?_
          clear hBc hKz hKy
          obtain ⟨l9, hl9⟩ : ∃ l9 : List Chk, [] ++ acc ++ [(⟨cr, nm, 1 + (ev : Int), la⟩ : Chk)] = l9 := ⟨_, rfl⟩
          have hln : l9.length = acc.length + 1 := by rw [← hl9]; simp
          have hwf9 : Hid (∀ f ∈ l9, f.wf) := Lib.hid (by rw [← hl9]; exact wfs_push (by simpa using hwf.out) (wfs_mk ⟨⟨by omega, by omega⟩, hnsz, ⟨by omega, by omega⟩, ⟨by omega, by omega⟩⟩))
          rw [hl9] at hO9
          clear hl9
          obtain ⟨a9, c9, rfl⟩ := own_valF hO9
          obtain ⟨g9, o9, rfl⟩ := Sl.addr (hO9.slw Chk.len).1 (by omega)
          have HO9 := Lib.hid hO9
          have hok := Lib.hid (spec_l26Ok _ l9 _ _ W9 (hO9.slw Chk.len).1 hwf9.out)
          obtain ⟨n9, hn9⟩ : ∃ n9, l9.length = n9 := ⟨_, rfl⟩
          rw [hn9] at hok HO9 hln ⊢
          have Hn9 := Lib.hid hn9
          have Hln := Lib.hid hln
          clear hO9 hn9 hln p0 p1 p2 p3
          go_wp2_with fail
          refine hok.out.mono ?_
          obtain ⟨bb, hbb⟩ : ∃ bb, chksB l9 = bb := ⟨_, rfl⟩
          rw [hbb]
          clear hbb hok
          rintro e W10 ⟨rfl, hB10⟩
          have hBc := hB9.trans (hB10.mono hB9.size)
          have HO10 := Lib.hid (HO9.out.below hB10)
          have HOL := Lib.hid (HOF.out.below hBc)
          have HM10 := Lib.hid (HMF.out.then hBc)
          have HS10 := Lib.hid (HSF.out.below hBc)
          have hs0 := HMF.out.size
          clear hB9 hB10 hBc HO9 HOF HMF HSF hsrcAt
          cases bb with
          | true =>
            go_wp2_with fail
            go_roundw
            case rel => exact ⟨k - 1, l9, congrArg (Value.int .i64) (by omega), by omega, by have := Hln.out; have := Hn9.out; omega, hwf9, Lib.hid (HO10.out.lowerC (by omega)), Lib.hid (HS10.out.mono (by omega)), Lib.hid (hM.out.trans HM10.out), Lib.hid ((HM10.out.block w.heap.size htl (by omega)).trans hT.out), _, _, _, _, rfl, Hn9.out.symm⟩
            case measure => simp [intOf]; omega
          | false =>
            go_wp2_with fail
            go_roundw
            case rel => exact ⟨k - 1, acc, congrArg (Value.int .i64) (by omega), by omega, by omega, hwf, HOL, Lib.hid (HS10.out.mono (by omega)), Lib.hid (hM.out.trans HM10.out), Lib.hid ((HM10.out.block w.heap.size htl (by omega)).trans hT.out), _, _, _, _, rfl, Hna.out⟩
            case measure => simp [intOf]; omega
        clear hKz
        refine region_ph 6 (fun w' => ∀ o, w'.cell? ⟨pp, o, none⟩ = WF.cell? ⟨pp, o, none⟩) (fun _ => True) (by kernel_rfl) (fun _ => rfl) trivial (fun hp => ?_)
        refine take_ph 30 (i := 1) rfl rfl (by decide) (by kernel_rfl) (by kernel_rfl) (by kernel_rfl) (fun _ _ _ h => h) (by rfl) (fun w hSw => by (try dsimp only at hSw); go_simp; first | done | with_reducible rfl) hp (fun hp => ?_)
        try simp only [Act.put, List.setIfInBounds_toArray, List.set_cons_zero, List.set_cons_succ]
        refine take_ph 32 (i := 3) rfl rfl (by decide) (by kernel_rfl) (by kernel_rfl) (by kernel_rfl) (fun _ _ _ h => h) (by rfl) (fun w hSw => by (try dsimp only at hSw); go_simp; first | done | with_reducible rfl) hp (fun hp => ?_)
        try simp only [Act.put, List.setIfInBounds_toArray, List.set_cons_zero, List.set_cons_succ]
        refine AnyL.two (i := 0) (j := 4) (by kernel_rfl) rfl rfl (fun K hK => ?_) (fun K hK => ?_)
        · go_simp
          have hE : Own 4 Chk.cells WF.heap.size 106 ((WF.drew).alloc (.cells #[] 106 (0, 0))) (.slice (some ⟨WF.heap.size, 0, none⟩) 0 0) ([] : List Chk) := by have h := own_empty (c := Chk.cells) (n := 4) (WF.drew) 106 WF.heap.size hBc.size; rw [show (WF.drew).heap.size = WF.heap.size by simp] at h; exact h
          have hBc := hBc.alloc hBc.size (.cells #[] 106 (0, 0))
          refine hK.out _ _ (ph1 (fun o => hBc.cell (p := ⟨pp, o, none⟩) hppl) trivial) (fun hp => ?_)
          clear hK
          try simp only [Act.put, List.setIfInBounds_toArray, List.set_cons_zero, List.set_cons_succ]
          refine AnyL.two (i := 2) (j := 4) (by kernel_rfl) rfl rfl (fun K hK => ?_) (fun K hK => ?_)
          · skip
            have hsrc := hsrcAt.out (WF.drew.alloc (.cells #[] 106 (0, 0))) hBc
            refine step_appC (c := Chk.cells) (bytes := 40) rfl _ _ 24 106 rfl Try.underlying24 info_impl_Check (by omega) Chk.len Chk.one WF.heap.size [] acc _ rfl hE _ _ gb go gc (by rw [← Hna.out]; rfl) hsrc (by simp; omega) (by simp; omega) hBc.size ?_
            intro v8 w8 hown8 hg8
            have hBc := hBc.grown hg8 hBc.size (fun k hk => (World.ownsRow.lt hE k hk).1)
            obtain ⟨a8, c8, rfl⟩ := own_valF hown8
            refine hK.out _ _ (ph1 (fun o => hBc.cell (p := ⟨pp, o, none⟩) hppl) trivial) (fun hp => ?_)
            clear hK hsrc
            try simp only [Act.put, List.setIfInBounds_toArray, List.set_cons_zero, List.set_cons_succ]
            refine AnyL.one (i := 4) (by kernel_rfl) rfl (fun K hK => ?_)
            have hown8 := hown8.alloc (.cells #[.int .i64 cr, .string nm, .int .i64 (1 + (ev : Int)), .int .i64 la] 106 (0, 0))
            go_simp
            have hXs : Sl 4 Chk.cells (w8.heap.size) (w8.heap.size + 1) ((w8).alloc (.cells #[.int .i64 cr, .string nm, .int .i64 (1 + (ev : Int)), .int .i64 la] 106 (0, 0))) (.slice (some ⟨w8.heap.size, 0, none⟩) 1 1) [(⟨cr, nm, 1 + (ev : Int), la⟩ : Chk)] := by have h := sl_lit Chk.len [(⟨cr, nm, 1 + (ev : Int), la⟩ : Chk)] (w8) 106 rfl (m := 1) rfl (by simp); rw [show (w8).heap.size = w8.heap.size by simp] at h; exact h
            have hBc := hBc.alloc hBc.size (.cells #[.int .i64 cr, .string nm, .int .i64 (1 + (ev : Int)), .int .i64 la] 106 (0, 0))
            refine hK.out _ _ (ph1 (fun o => hBc.cell (p := ⟨pp, o, none⟩) hppl) trivial) (fun hp => ?_)
            clear hK
            try simp only [Act.put, List.setIfInBounds_toArray, List.set_cons_zero, List.set_cons_succ]
            refine AnyL.one (i := 5) (by kernel_rfl) rfl (fun K hK => ?_)
            refine step_appC (c := Chk.cells) (bytes := 40) rfl _ _ 24 106 rfl Try.underlying24 info_impl_Check (by omega) Chk.len Chk.one WF.heap.size ([] ++ acc) [⟨cr, nm, 1 + (ev : Int), la⟩] _ rfl hown8 _ _ (w8.heap.size) 0 1 rfl hXs (by simp; omega) (by simp; omega) hBc.size ?_
            intro v9 w9 hown9 hg9
            have hBc := hBc.grown hg9 hBc.size (fun k hk => (World.ownsRow.lt hown8 k hk).1)
            refine hK.out _ _ (ph1 (fun o => hBc.cell (p := ⟨pp, o, none⟩) hppl) trivial) (fun hp => ?_)
            clear hK
            try simp only [Act.put, List.setIfInBounds_toArray, List.set_cons_zero, List.set_cons_succ]
            refine AnyL.one (i := 6) (by kernel_rfl) rfl (fun K hK => ?_)
            go_simp
            refine hK.out _ _ (ph1 (fun o => hBc.cell (p := ⟨pp, o, none⟩) hppl) trivial) (fun hp => ?_)
            clear hK
            try simp only [Act.put, List.setIfInBounds_toArray, List.set_cons_zero, List.set_cons_succ]
            refine AnyL.done (by kernel_rfl) ?_ _
            simp only [Exit.then]
            exact key2 _ _ _ _ _ _ _ _ hown9 hBc
          · have hE := hE.alloc (.cells #[.int .i64 cr, .string nm, .int .i64 (1 + (ev : Int)), .int .i64 la] 106 (0, 0))
            go_simp
            have hXs : Sl 4 Chk.cells (WF.heap.size + 1) (WF.heap.size + 1 + 1) ((WF.drew.alloc (.cells #[] 106 (0, 0))).alloc (.cells #[.int .i64 cr, .string nm, .int .i64 (1 + (ev : Int)), .int .i64 la] 106 (0, 0))) (.slice (some ⟨WF.heap.size + 1, 0, none⟩) 1 1) [(⟨cr, nm, 1 + (ev : Int), la⟩ : Chk)] := by have h := sl_lit Chk.len [(⟨cr, nm, 1 + (ev : Int), la⟩ : Chk)] (WF.drew.alloc (.cells #[] 106 (0, 0))) 106 rfl (m := 1) rfl (by simp); rw [show (WF.drew.alloc (.cells #[] 106 (0, 0))).heap.size = WF.heap.size + 1 by simp] at h; exact h
            have hBc := hBc.alloc hBc.size (.cells #[.int .i64 cr, .string nm, .int .i64 (1 + (ev : Int)), .int .i64 la] 106 (0, 0))
            refine hK.out _ _ (ph1 (fun o => hBc.cell (p := ⟨pp, o, none⟩) hppl) trivial) (fun hp => ?_)
            clear hK
            try simp only [Act.put, List.setIfInBounds_toArray, List.set_cons_zero, List.set_cons_succ]
            refine AnyL.one (i := 2) (by kernel_rfl) rfl (fun K hK => ?_)
            skip
            have hsrc := hsrcAt.out ((WF.drew.alloc (.cells #[] 106 (0, 0))).alloc (.cells #[.int .i64 cr, .string nm, .int .i64 (1 + (ev : Int)), .int .i64 la] 106 (0, 0))) hBc
            refine step_appC (c := Chk.cells) (bytes := 40) rfl _ _ 24 106 rfl Try.underlying24 info_impl_Check (by omega) Chk.len Chk.one WF.heap.size [] acc _ rfl hE _ _ gb go gc (by rw [← Hna.out]; rfl) hsrc (by simp; omega) (by simp; omega) hBc.size ?_
            intro v8 w8 hown8 hg8
            have hBc := hBc.grown hg8 hBc.size (fun k hk => (World.ownsRow.lt hE k hk).1)
            obtain ⟨a8, c8, rfl⟩ := own_valF hown8
            refine hK.out _ _ (ph1 (fun o => hBc.cell (p := ⟨pp, o, none⟩) hppl) trivial) (fun hp => ?_)
            clear hK hsrc
            try simp only [Act.put, List.setIfInBounds_toArray, List.set_cons_zero, List.set_cons_succ]
            have hXs := hXs.grown hg8 (by simp) (fun k hk => by have hk : WF.heap.size = k := Option.some.inj hk; omega)
            refine AnyL.one (i := 5) (by kernel_rfl) rfl (fun K hK => ?_)
            refine step_appC (c := Chk.cells) (bytes := 40) rfl _ _ 24 106 rfl Try.underlying24 info_impl_Check (by omega) Chk.len Chk.one WF.heap.size ([] ++ acc) [⟨cr, nm, 1 + (ev : Int), la⟩] _ rfl hown8 _ _ (WF.heap.size + 1) 0 1 rfl hXs (by simp; omega) (by simp; omega) hBc.size ?_
            intro v9 w9 hown9 hg9
            have hBc := hBc.grown hg9 hBc.size (fun k hk => (World.ownsRow.lt hown8 k hk).1)
            refine hK.out _ _ (ph1 (fun o => hBc.cell (p := ⟨pp, o, none⟩) hppl) trivial) (fun hp => ?_)
            clear hK
            try simp only [Act.put, List.setIfInBounds_toArray, List.set_cons_zero, List.set_cons_succ]
            refine AnyL.one (i := 6) (by kernel_rfl) rfl (fun K hK => ?_)
            go_simp
            refine hK.out _ _ (ph1 (fun o => hBc.cell (p := ⟨pp, o, none⟩) hppl) trivial) (fun hp => ?_)
            clear hK
            try simp only [Act.put, List.setIfInBounds_toArray, List.set_cons_zero, List.set_cons_succ]
            refine AnyL.done (by kernel_rfl) ?_ _
            simp only [Exit.then]
            exact key2 _ _ _ _ _ _ _ _ hown9 hBc
        · go_simp
          have hXs : Sl 4 Chk.cells (WF.heap.size) (WF.heap.size + 1) ((WF.drew).alloc (.cells #[.int .i64 cr, .string nm, .int .i64 (1 + (ev : Int)), .int .i64 la] 106 (0, 0))) (.slice (some ⟨WF.heap.size, 0, none⟩) 1 1) [(⟨cr, nm, 1 + (ev : Int), la⟩ : Chk)] := by have h := sl_lit Chk.len [(⟨cr, nm, 1 + (ev : Int), la⟩ : Chk)] (WF.drew) 106 rfl (m := 1) rfl (by simp); rw [show (WF.drew).heap.size = WF.heap.size by simp] at h; exact h
          have hBc := hBc.alloc hBc.size (.cells #[.int .i64 cr, .string nm, .int .i64 (1 + (ev : Int)), .int .i64 la] 106 (0, 0))
          refine hK.out _ _ (ph1 (fun o => hBc.cell (p := ⟨pp, o, none⟩) hppl) trivial) (fun hp => ?_)
          clear hK
          try simp only [Act.put, List.setIfInBounds_toArray, List.set_cons_zero, List.set_cons_succ]
          refine AnyL.one (i := 0) (by kernel_rfl) rfl (fun K hK => ?_)
          go_simp
          have hE : Own 4 Chk.cells WF.heap.size 106 ((WF.drew.alloc (.cells #[.int .i64 cr, .string nm, .int .i64 (1 + (ev : Int)), .int .i64 la] 106 (0, 0))).alloc (.cells #[] 106 (0, 0))) (.slice (some ⟨WF.heap.size + 1, 0, none⟩) 0 0) ([] : List Chk) := by have h := own_empty (c := Chk.cells) (n := 4) (WF.drew.alloc (.cells #[.int .i64 cr, .string nm, .int .i64 (1 + (ev : Int)), .int .i64 la] 106 (0, 0))) 106 WF.heap.size hBc.size; rw [show (WF.drew.alloc (.cells #[.int .i64 cr, .string nm, .int .i64 (1 + (ev : Int)), .int .i64 la] 106 (0, 0))).heap.size = WF.heap.size + 1 by simp] at h; exact h
          have hBc := hBc.alloc hBc.size (.cells #[] 106 (0, 0))
          refine hK.out _ _ (ph1 (fun o => hBc.cell (p := ⟨pp, o, none⟩) hppl) trivial) (fun hp => ?_)
          clear hK
          try simp only [Act.put, List.setIfInBounds_toArray, List.set_cons_zero, List.set_cons_succ]
          have hXs := hXs.ext ((Below.refl _ (WF.drew.alloc (.cells #[.int .i64 cr, .string nm, .int .i64 (1 + (ev : Int)), .int .i64 la] 106 (0, 0)))).alloc (Nat.le_refl _) (.cells #[] 106 (0, 0)))
          refine AnyL.one (i := 2) (by kernel_rfl) rfl (fun K hK => ?_)
          skip
          have hsrc := hsrcAt.out ((WF.drew.alloc (.cells #[.int .i64 cr, .string nm, .int .i64 (1 + (ev : Int)), .int .i64 la] 106 (0, 0))).alloc (.cells #[] 106 (0, 0))) hBc
          refine step_appC (c := Chk.cells) (bytes := 40) rfl _ _ 24 106 rfl Try.underlying24 info_impl_Check (by omega) Chk.len Chk.one WF.heap.size [] acc _ rfl hE _ _ gb go gc (by rw [← Hna.out]; rfl) hsrc (by simp; omega) (by simp; omega) hBc.size ?_
          intro v8 w8 hown8 hg8
          have hBc := hBc.grown hg8 hBc.size (fun k hk => (World.ownsRow.lt hE k hk).1)
          obtain ⟨a8, c8, rfl⟩ := own_valF hown8
          refine hK.out _ _ (ph1 (fun o => hBc.cell (p := ⟨pp, o, none⟩) hppl) trivial) (fun hp => ?_)
          clear hK hsrc
          try simp only [Act.put, List.setIfInBounds_toArray, List.set_cons_zero, List.set_cons_succ]
          have hXs := hXs.grown hg8 (by simp) (fun k hk => by have hk : WF.heap.size + 1 = k := Option.some.inj hk; omega)
          refine AnyL.one (i := 5) (by kernel_rfl) rfl (fun K hK => ?_)
          refine step_appC (c := Chk.cells) (bytes := 40) rfl _ _ 24 106 rfl Try.underlying24 info_impl_Check (by omega) Chk.len Chk.one WF.heap.size ([] ++ acc) [⟨cr, nm, 1 + (ev : Int), la⟩] _ rfl hown8 _ _ (WF.heap.size) 0 1 rfl hXs (by simp; omega) (by simp; omega) hBc.size ?_
          intro v9 w9 hown9 hg9
          have hBc := hBc.grown hg9 hBc.size (fun k hk => (World.ownsRow.lt hown8 k hk).1)
          refine hK.out _ _ (ph1 (fun o => hBc.cell (p := ⟨pp, o, none⟩) hppl) trivial) (fun hp => ?_)
          clear hK
          try simp only [Act.put, List.setIfInBounds_toArray, List.set_cons_zero, List.set_cons_succ]
          refine AnyL.one (i := 6) (by kernel_rfl) rfl (fun K hK => ?_)
          go_simp
          refine hK.out _ _ (ph1 (fun o => hBc.cell (p := ⟨pp, o, none⟩) hppl) trivial) (fun hp => ?_)
          clear hK
          try simp only [Act.put, List.setIfInBounds_toArray, List.set_cons_zero, List.set_cons_succ]
          refine AnyL.done (by kernel_rfl) ?_ _
          simp only [Exit.then]
          exact key2 _ _ _ _ _ _ _ _ hown9 hBc
      refine region_ph 14 (fun w' => ∀ o, w'.cell? ⟨w.heap.size, o, none⟩ = wr.cell? ⟨w.heap.size, o, none⟩) (fun _ => True) (by kernel_rfl) (fun _ => rfl) trivial (fun hp => ?_)
      refine take_ph 16 (i := 0) rfl rfl (by decide) (by kernel_rfl) (by kernel_rfl) (by kernel_rfl) (fun _ _ _ h => h) (by rfl) (fun w hSw => by (try dsimp only at hSw); go_simp; first | done | with_reducible rfl) hp (fun hp => ?_)
      try simp only [Act.put, List.setIfInBounds_toArray, List.set_cons_zero, List.set_cons_succ]
      refine take_ph 18 (i := 2) rfl rfl (by decide) (by kernel_rfl) (by kernel_rfl) (by kernel_rfl) (fun _ _ _ h => h) (by rfl) (fun w hSw => by (try dsimp only at hSw); go_simp; first | done | with_reducible rfl) hp (fun hp => ?_)
      try simp only [Act.put, List.setIfInBounds_toArray, List.set_cons_zero, List.set_cons_succ]
      refine take_ph 19 (i := 3) rfl rfl (by decide) (by kernel_rfl) (by kernel_rfl) (by kernel_rfl) (fun _ _ _ h => h) (by rfl) (fun w hSw => by (try dsimp only at hSw); go_simp; first | done | with_reducible rfl) hp (fun hp => ?_)
      try simp only [Act.put, List.setIfInBounds_toArray, List.set_cons_zero, List.set_cons_succ]
      refine take_ph 23 (i := 7) rfl rfl (by decide) (by kernel_rfl) (by kernel_rfl) (by kernel_rfl) (fun _ _ _ h => h) (by rfl) (fun w hSw => by (try dsimp only at hSw); go_simp; first | done | with_reducible rfl) hp (fun hp => ?_)
      try simp only [Act.put, List.setIfInBounds_toArray, List.set_cons_zero, List.set_cons_succ]
      refine take_ph 26 (i := 10) rfl rfl (by decide) (by kernel_rfl) (by kernel_rfl) (by kernel_rfl) (fun _ _ _ h => h) (by rfl) (fun w hSw => by (try dsimp only at hSw); go_simp; first | done | with_reducible rfl) hp (fun hp => ?_)
      try simp only [Act.put, List.setIfInBounds_toArray, List.set_cons_zero, List.set_cons_succ]
      refine AnyL.two (i := 1) (j := 13) (by kernel_rfl) rfl rfl (fun K hK => ?_) (fun K hK => ?_)
      · skip
        go_simp
        refine (hpk.out _ _ hSc (by omega) 2 (by omega)).mono ?_
        rintro e wj ⟨cr, rfl, ⟨_, hcr⟩, hSd, hmd⟩
        have hcr := hcr (by omega)
        have hMc := hMc.trans hmd
        have hSc := hSd
        refine hK.out _ _ (ph1 (fun o => World.cell?_of_block (hMc.block w.heap.size htl (by omega))) trivial) (fun hp => ?_)
        clear hK hSd hmd
        try simp only [Act.put, List.setIfInBounds_toArray, List.set_cons_zero, List.set_cons_succ]
        refine AnyL.two (i := 4) (j := 13) (by kernel_rfl) rfl rfl (fun K hK => ?_) (fun K hK => ?_)
        · skip
          go_simp
          refine (hpk.out _ _ hSc (by omega) 4 (by omega)).mono ?_
          rintro e wj ⟨ix, rfl, ⟨_, hix⟩, hSd, hmd⟩
          have hix := hix (by omega)
          have hMc := hMc.trans hmd
          have hSc := hSd
          refine hK.out _ _ (ph1 (fun o => World.cell?_of_block (hMc.block w.heap.size htl (by omega))) trivial) (fun hp => ?_)
          clear hK hSd hmd
          try simp only [Act.put, List.setIfInBounds_toArray, List.set_cons_zero, List.set_cons_succ]
          obtain ⟨nm, hn0, hnsz⟩ := Hnm.out ix (by omega)
          have tx : wr.cell? ⟨w.heap.size, ix, none⟩ = some (.string nm) := (Lib.cell_of_heap hT.out ix).trans hn0
          clear hn0
          refine take_ph 21 (i := 5) rfl rfl (by decide) (by kernel_rfl) (by kernel_rfl) (by kernel_rfl) (fun _ _ _ h => h) (by rfl) (fun w hSw => by (try dsimp only at hSw); go_simp; first | done | with_reducible rfl) hp (fun hp => ?_)
          try simp only [Act.put, List.setIfInBounds_toArray, List.set_cons_zero, List.set_cons_succ]
          refine take_ph 22 (i := 6) rfl rfl (by decide) (by kernel_rfl) (by kernel_rfl) (by kernel_rfl) (fun _ _ _ h => h) (by rfl) (fun w hSw => by (try dsimp only at hSw); go_simp; first | done | with_reducible rfl) hp (fun hp => ?_)
          try simp only [Act.put, List.setIfInBounds_toArray, List.set_cons_zero, List.set_cons_succ]
          refine AnyL.two (i := 8) (j := 13) (by kernel_rfl) rfl rfl (fun K hK => ?_) (fun K hK => ?_)
          · skip
            go_simp
            refine (hpk.out _ _ hSc (by omega) 30 (by omega)).mono ?_
            rintro e wj ⟨ev, rfl, ⟨_, hev⟩, hSd, hmd⟩
            have hev := hev (by omega)
            have hMc := hMc.trans hmd
            have hSc := hSd
            refine hK.out _ _ (ph1 (fun o => World.cell?_of_block (hMc.block w.heap.size htl (by omega))) trivial) (fun hp => ?_)
            clear hK hSd hmd
            try simp only [Act.put, List.setIfInBounds_toArray, List.set_cons_zero, List.set_cons_succ]
            have hwv : IntKind.i64.wrap (1 + (ev : Int)) = 1 + (ev : Int) := IntWalk.i64_in _ (by omega)
            refine take_ph 25 (i := 9) rfl rfl (by decide) (by kernel_rfl) (by kernel_rfl) (by kernel_rfl) (fun _ _ _ h => h) (by rfl) (fun w hSw => by (try dsimp only at hSw); go_simp; first | done | with_reducible rfl) hp (fun hp => ?_)
            try simp only [Act.put, List.setIfInBounds_toArray, List.set_cons_zero, List.set_cons_succ]
            refine AnyL.two (i := 11) (j := 13) (by kernel_rfl) rfl rfl (fun K hK => ?_) (fun K hK => ?_)
            · skip
              go_simp
              refine (hpk.out _ _ hSc (by omega) 60 (by omega)).mono ?_
              rintro e wj ⟨la, rfl, ⟨_, hla⟩, hSd, hmd⟩
              have hla := hla (by omega)
              have hMc := hMc.trans hmd
              have hSc := hSd
              refine hK.out _ _ (ph1 (fun o => World.cell?_of_block (hMc.block w.heap.size htl (by omega))) trivial) (fun hp => ?_)
              clear hK hSd hmd
              try simp only [Act.put, List.setIfInBounds_toArray, List.set_cons_zero, List.set_cons_succ]
              refine take_ph 28 (i := 12) rfl rfl (by decide) (by kernel_rfl) (by kernel_rfl) (by kernel_rfl) (fun _ _ _ h => h) (by rfl) (fun w hSw => by (try dsimp only at hSw); go_simp; first | done | with_reducible rfl) hp (fun hp => ?_)
              try simp only [Act.put, List.setIfInBounds_toArray, List.set_cons_zero, List.set_cons_succ]
              have hM4 := hMc
              have hS4 := hSc
              refine AnyL.one (i := 13) (by kernel_rfl) rfl (fun K hK => ?_)
              go_simp
              have hXc : ((wj).alloc (.cells #[.int .i64 0, .string ByteArray.empty, .int .i64 0, .int .i64 0] 106 (0, 0))).heap[wj.heap.size]? = some (.cells #[.int .i64 0, .string ByteArray.empty, .int .i64 0, .int .i64 0] 106 (0, 0)) := Array.getElem?_push_size
              have hbx := (Below.refl (wj).heap.size (wj)).alloc (Nat.le_refl _) (.cells #[.int .i64 0, .string ByteArray.empty, .int .i64 0, .int .i64 0] 106 (0, 0))
              have hpz : wr.heap.size ≤ wj.heap.size := hMc.size
              have hSc := hSc.below hbx
              have hMc := hMc.then hbx
              refine hK.out _ _ (ph1 (fun o => World.cell?_of_block (hMc.block w.heap.size htl (by omega))) trivial) (fun hp => ?_)
              clear hK hbx
              try simp only [Act.put, List.setIfInBounds_toArray, List.set_cons_zero, List.set_cons_succ]
              refine AnyL.one (i := 14) (by kernel_rfl) rfl (fun K hK => ?_)
              have hbz := (Below.refl wj.heap.size wj).alloc (Nat.le_refl _) (.cells #[.int .i64 cr, .string nm, .int .i64 (1 + (ev : Int)), .int .i64 la] 106 (0, 0))
              go_simp
              refine hK.out _ _ (ph1 (fun o => World.cell?_of_block ((hM4.then hbz).block w.heap.size htl (by omega))) trivial) (fun hp => ?_)
              clear hK
              refine AnyL.done (by kernel_rfl) ?_ _
              simp only [Exit.then]
              exact key cr ev la nm _ _ _ _ _ _ _ _ _ _ _ _ _ _ _ _ _ _ _ _ _ _ _ _ _ _ _ _ _ Array.getElem?_push_size (hS4.below hbz) (hM4.then hbz) hM4.size (by omega) (by omega) (by omega) hnsz
            · go_simp
              have hXc : ((wj).alloc (.cells #[.int .i64 0, .string ByteArray.empty, .int .i64 0, .int .i64 0] 106 (0, 0))).heap[wj.heap.size]? = some (.cells #[.int .i64 0, .string ByteArray.empty, .int .i64 0, .int .i64 0] 106 (0, 0)) := Array.getElem?_push_size
              have hbx := (Below.refl (wj).heap.size (wj)).alloc (Nat.le_refl _) (.cells #[.int .i64 0, .string ByteArray.empty, .int .i64 0, .int .i64 0] 106 (0, 0))
              have hpz : wr.heap.size ≤ wj.heap.size := hMc.size
              have hSc := hSc.below hbx
              have hMc := hMc.then hbx
              refine hK.out _ _ (ph1 (fun o => World.cell?_of_block (hMc.block w.heap.size htl (by omega))) trivial) (fun hp => ?_)
              clear hK hbx
              try simp only [Act.put, List.setIfInBounds_toArray, List.set_cons_zero, List.set_cons_succ]
              refine AnyL.one (i := 11) (by kernel_rfl) rfl (fun K hK => ?_)
              skip
              go_simp
              refine (hpk.out _ _ hSc (by omega) 60 (by omega)).mono ?_
              rintro e wj ⟨la, rfl, ⟨_, hla⟩, hSd, hmd⟩
              have hla := hla (by omega)
              have hMc := hMc.trans hmd
              have hXc := (hmd.block _ (Array.getElem?_eq_some_iff.1 hXc).1 (by omega)).trans hXc
              have hSc := hSd
              refine hK.out _ _ (ph1 (fun o => World.cell?_of_block (hMc.block w.heap.size htl (by omega))) trivial) (fun hp => ?_)
              clear hK hSd hmd
              try simp only [Act.put, List.setIfInBounds_toArray, List.set_cons_zero, List.set_cons_succ]
              refine take_ph 28 (i := 12) rfl rfl (by decide) (by kernel_rfl) (by kernel_rfl) (by kernel_rfl) (fun _ _ _ h => h) (by rfl) (fun w hSw => by (try dsimp only at hSw); go_simp; first | done | with_reducible rfl) hp (fun hp => ?_)
              try simp only [Act.put, List.setIfInBounds_toArray, List.set_cons_zero, List.set_cons_succ]
              refine AnyL.one (i := 14) (by kernel_rfl) rfl (fun K hK => ?_)
              have s0 := (Lib.cell_of_heap hXc 0).trans rfl
              have s1 := (Lib.cell_of_heap hXc 1).trans rfl
              have s2 := (Lib.cell_of_heap hXc 2).trans rfl
              have s3 := (Lib.cell_of_heap hXc 3).trans rfl
              have g0 := Lib.frozen_of_heap hXc 0
              have g1 := Lib.frozen_of_heap hXc 1
              have g2 := Lib.frozen_of_heap hXc 2
              have g3 := Lib.frozen_of_heap hXc 3
              go_simp
              refine hK.out _ _ (ph1 (fun o => (four_cell (by omega)).trans (World.cell?_of_block (hMc.block w.heap.size htl (by omega)))) trivial) (fun hp => ?_)
              clear hK
              refine AnyL.done (by kernel_rfl) ?_ _
              simp only [Exit.then]
              exact key cr ev la nm _ _ _ _ _ _ _ _ _ _ _ _ _ _ _ _ _ _ _ _ _ _ _ _ _ _ _ _ _ (four_at hXc) (hSc.lo (four_below _ (show b + 1 ≤ _ by omega)) (Nat.le_refl _)) (hMc.on (four_below _ hpz)) hpz (by omega) (by omega) (by omega) hnsz
          · go_simp
            have hXc : ((wj).alloc (.cells #[.int .i64 0, .string ByteArray.empty, .int .i64 0, .int .i64 0] 106 (0, 0))).heap[wj.heap.size]? = some (.cells #[.int .i64 0, .string ByteArray.empty, .int .i64 0, .int .i64 0] 106 (0, 0)) := Array.getElem?_push_size
            have hbx := (Below.refl (wj).heap.size (wj)).alloc (Nat.le_refl _) (.cells #[.int .i64 0, .string ByteArray.empty, .int .i64 0, .int .i64 0] 106 (0, 0))
            have hpz : wr.heap.size ≤ wj.heap.size := hMc.size
            have hSc := hSc.below hbx
            have hMc := hMc.then hbx
            refine hK.out _ _ (ph1 (fun o => World.cell?_of_block (hMc.block w.heap.size htl (by omega))) trivial) (fun hp => ?_)
            clear hK hbx
            try simp only [Act.put, List.setIfInBounds_toArray, List.set_cons_zero, List.set_cons_succ]
            refine AnyL.one (i := 8) (by kernel_rfl) rfl (fun K hK => ?_)
            skip
            go_simp
            refine (hpk.out _ _ hSc (by omega) 30 (by omega)).mono ?_
            rintro e wj ⟨ev, rfl, ⟨_, hev⟩, hSd, hmd⟩
            have hev := hev (by omega)
            have hMc := hMc.trans hmd
            have hXc := (hmd.block _ (Array.getElem?_eq_some_iff.1 hXc).1 (by omega)).trans hXc
            have hSc := hSd
            refine hK.out _ _ (ph1 (fun o => World.cell?_of_block (hMc.block w.heap.size htl (by omega))) trivial) (fun hp => ?_)
            clear hK hSd hmd
            try simp only [Act.put, List.setIfInBounds_toArray, List.set_cons_zero, List.set_cons_succ]
            have hwv : IntKind.i64.wrap (1 + (ev : Int)) = 1 + (ev : Int) := IntWalk.i64_in _ (by omega)
            refine take_ph 25 (i := 9) rfl rfl (by decide) (by kernel_rfl) (by kernel_rfl) (by kernel_rfl) (fun _ _ _ h => h) (by rfl) (fun w hSw => by (try dsimp only at hSw); go_simp; first | done | with_reducible rfl) hp (fun hp => ?_)
            try simp only [Act.put, List.setIfInBounds_toArray, List.set_cons_zero, List.set_cons_succ]
            refine AnyL.one (i := 11) (by kernel_rfl) rfl (fun K hK => ?_)
            skip
            go_simp
            refine (hpk.out _ _ hSc (by omega) 60 (by omega)).mono ?_
            rintro e wj ⟨la, rfl, ⟨_, hla⟩, hSd, hmd⟩
            have hla := hla (by omega)
            have hMc := hMc.trans hmd
            have hXc := (hmd.block _ (Array.getElem?_eq_some_iff.1 hXc).1 (by omega)).trans hXc
            have hSc := hSd
            refine hK.out _ _ (ph1 (fun o => World.cell?_of_block (hMc.block w.heap.size htl (by omega))) trivial) (fun hp => ?_)
            clear hK hSd hmd
            try simp only [Act.put, List.setIfInBounds_toArray, List.set_cons_zero, List.set_cons_succ]
            refine take_ph 28 (i := 12) rfl rfl (by decide) (by kernel_rfl) (by kernel_rfl) (by kernel_rfl) (fun _ _ _ h => h) (by rfl) (fun w hSw => by (try dsimp only at hSw); go_simp; first | done | with_reducible rfl) hp (fun hp => ?_)
            try simp only [Act.put, List.setIfInBounds_toArray, List.set_cons_zero, List.set_cons_succ]
            refine AnyL.one (i := 14) (by kernel_rfl) rfl (fun K hK => ?_)
            have s0 := (Lib.cell_of_heap hXc 0).trans rfl
            have s1 := (Lib.cell_of_heap hXc 1).trans rfl
            have s2 := (Lib.cell_of_heap hXc 2).trans rfl
            have s3 := (Lib.cell_of_heap hXc 3).trans rfl
            have g0 := Lib.frozen_of_heap hXc 0
            have g1 := Lib.frozen_of_heap hXc 1
            have g2 := Lib.frozen_of_heap hXc 2
            have g3 := Lib.frozen_of_heap hXc 3
            go_simp
            refine hK.out _ _ (ph1 (fun o => (four_cell (by omega)).trans (World.cell?_of_block (hMc.block w.heap.size htl (by omega)))) trivial) (fun hp => ?_)
            clear hK
            refine AnyL.done (by kernel_rfl) ?_ _
            simp only [Exit.then]
            exact key cr ev la nm _ _ _ _ _ _ _ _ _ _ _ _ _ _ _ _ _ _ _ _ _ _ _ _ _ _ _ _ _ (four_at hXc) (hSc.lo (four_below _ (show b + 1 ≤ _ by omega)) (Nat.le_refl _)) (hMc.on (four_below _ hpz)) hpz (by omega) (by omega) (by omega) hnsz
        · go_simp
          have hXc : ((wj).alloc (.cells #[.int .i64 0, .string ByteArray.empty, .int .i64 0, .int .i64 0] 106 (0, 0))).heap[wj.heap.size]? = some (.cells #[.int .i64 0, .string ByteArray.empty, .int .i64 0, .int .i64 0] 106 (0, 0)) := Array.getElem?_push_size
          have hbx := (Below.refl (wj).heap.size (wj)).alloc (Nat.le_refl _) (.cells #[.int .i64 0, .string ByteArray.empty, .int .i64 0, .int .i64 0] 106 (0, 0))
          have hpz : wr.heap.size ≤ wj.heap.size := hMc.size
          have hSc := hSc.below hbx
          have hMc := hMc.then hbx
          refine hK.out _ _ (ph1 (fun o => World.cell?_of_block (hMc.block w.heap.size htl (by omega))) trivial) (fun hp => ?_)
          clear hK hbx
          try simp only [Act.put, List.setIfInBounds_toArray, List.set_cons_zero, List.set_cons_succ]
          refine AnyL.one (i := 4) (by kernel_rfl) rfl (fun K hK => ?_)
          skip
          go_simp
          refine (hpk.out _ _ hSc (by omega) 4 (by omega)).mono ?_
          rintro e wj ⟨ix, rfl, ⟨_, hix⟩, hSd, hmd⟩
          have hix := hix (by omega)
          have hMc := hMc.trans hmd
          have hXc := (hmd.block _ (Array.getElem?_eq_some_iff.1 hXc).1 (by omega)).trans hXc
          have hSc := hSd
          refine hK.out _ _ (ph1 (fun o => World.cell?_of_block (hMc.block w.heap.size htl (by omega))) trivial) (fun hp => ?_)
          clear hK hSd hmd
          try simp only [Act.put, List.setIfInBounds_toArray, List.set_cons_zero, List.set_cons_succ]
          obtain ⟨nm, hn0, hnsz⟩ := Hnm.out ix (by omega)
          have tx : wr.cell? ⟨w.heap.size, ix, none⟩ = some (.string nm) := (Lib.cell_of_heap hT.out ix).trans hn0
          clear hn0
          refine take_ph 21 (i := 5) rfl rfl (by decide) (by kernel_rfl) (by kernel_rfl) (by kernel_rfl) (fun _ _ _ h => h) (by rfl) (fun w hSw => by (try dsimp only at hSw); go_simp; first | done | with_reducible rfl) hp (fun hp => ?_)
          try simp only [Act.put, List.setIfInBounds_toArray, List.set_cons_zero, List.set_cons_succ]
          refine take_ph 22 (i := 6) rfl rfl (by decide) (by kernel_rfl) (by kernel_rfl) (by kernel_rfl) (fun _ _ _ h => h) (by rfl) (fun w hSw => by (try dsimp only at hSw); go_simp; first | done | with_reducible rfl) hp (fun hp => ?_)
          try simp only [Act.put, List.setIfInBounds_toArray, List.set_cons_zero, List.set_cons_succ]
          refine AnyL.one (i := 8) (by kernel_rfl) rfl (fun K hK => ?_)
          skip
          go_simp
          refine (hpk.out _ _ hSc (by omega) 30 (by omega)).mono ?_
          rintro e wj ⟨ev, rfl, ⟨_, hev⟩, hSd, hmd⟩
          have hev := hev (by omega)
          have hMc := hMc.trans hmd
          have hXc := (hmd.block _ (Array.getElem?_eq_some_iff.1 hXc).1 (by omega)).trans hXc
          have hSc := hSd
          refine hK.out _ _ (ph1 (fun o => World.cell?_of_block (hMc.block w.heap.size htl (by omega))) trivial) (fun hp => ?_)
          clear hK hSd hmd
          try simp only [Act.put, List.setIfInBounds_toArray, List.set_cons_zero, List.set_cons_succ]
          have hwv : IntKind.i64.wrap (1 + (ev : Int)) = 1 + (ev : Int) := IntWalk.i64_in _ (by omega)
          refine take_ph 25 (i := 9) rfl rfl (by decide) (by kernel_rfl) (by kernel_rfl) (by kernel_rfl) (fun _ _ _ h => h) (by rfl) (fun w hSw => by (try dsimp only at hSw); go_simp; first | done | with_reducible rfl) hp (fun hp => ?_)
          try simp only [Act.put, List.setIfInBounds_toArray, List.set_cons_zero, List.set_cons_succ]
          refine AnyL.one (i := 11) (by kernel_rfl) rfl (fun K hK => ?_)
          skip
          go_simp
          refine (hpk.out _ _ hSc (by omega) 60 (by omega)).mono ?_
          rintro e wj ⟨la, rfl, ⟨_, hla⟩, hSd, hmd⟩
          have hla := hla (by omega)
          have hMc := hMc.trans hmd
          have hXc := (hmd.block _ (Array.getElem?_eq_some_iff.1 hXc).1 (by omega)).trans hXc
          have hSc := hSd
          refine hK.out _ _ (ph1 (fun o => World.cell?_of_block (hMc.block w.heap.size htl (by omega))) trivial) (fun hp => ?_)
          clear hK hSd hmd
          try simp only [Act.put, List.setIfInBounds_toArray, List.set_cons_zero, List.set_cons_succ]
          refine take_ph 28 (i := 12) rfl rfl (by decide) (by kernel_rfl) (by kernel_rfl) (by kernel_rfl) (fun _ _ _ h => h) (by rfl) (fun w hSw => by (try dsimp only at hSw); go_simp; first | done | with_reducible rfl) hp (fun hp => ?_)
          try simp only [Act.put, List.setIfInBounds_toArray, List.set_cons_zero, List.set_cons_succ]
          refine AnyL.one (i := 14) (by kernel_rfl) rfl (fun K hK => ?_)
          have s0 := (Lib.cell_of_heap hXc 0).trans rfl
          have s1 := (Lib.cell_of_heap hXc 1).trans rfl
          have s2 := (Lib.cell_of_heap hXc 2).trans rfl
          have s3 := (Lib.cell_of_heap hXc 3).trans rfl
          have g0 := Lib.frozen_of_heap hXc 0
          have g1 := Lib.frozen_of_heap hXc 1
          have g2 := Lib.frozen_of_heap hXc 2
          have g3 := Lib.frozen_of_heap hXc 3
          go_simp
          refine hK.out _ _ (ph1 (fun o => (four_cell (by omega)).trans (World.cell?_of_block (hMc.block w.heap.size htl (by omega)))) trivial) (fun hp => ?_)
          clear hK
          refine AnyL.done (by kernel_rfl) ?_ _
          simp only [Exit.then]
          exact key cr ev la nm _ _ _ _ _ _ _ _ _ _ _ _ _ _ _ _ _ _ _ _ _ _ _ _ _ _ _ _ _ (four_at hXc) (hSc.lo (four_below _ (show b + 1 ≤ _ by omega)) (Nat.le_refl _)) (hMc.on (four_below _ hpz)) hpz (by omega) (by omega) (by omega) hnsz
      · go_simp
        have hXc : ((wr.drew).alloc (.cells #[.int .i64 0, .string ByteArray.empty, .int .i64 0, .int .i64 0] 106 (0, 0))).heap[wr.heap.size]? = some (.cells #[.int .i64 0, .string ByteArray.empty, .int .i64 0, .int .i64 0] 106 (0, 0)) := Array.getElem?_push_size
        have hbx := (Below.refl (wr.drew).heap.size (wr.drew)).alloc (Nat.le_refl _) (.cells #[.int .i64 0, .string ByteArray.empty, .int .i64 0, .int .i64 0] 106 (0, 0))
        have hpz : wr.heap.size ≤ wr.heap.size := hMc.size
        have hSc := hSc.below hbx
        have hMc := hMc.then hbx
        refine hK.out _ _ (ph1 (fun o => World.cell?_of_block (hMc.block w.heap.size htl (by omega))) trivial) (fun hp => ?_)
        clear hK hbx
        try simp only [Act.put, List.setIfInBounds_toArray, List.set_cons_zero, List.set_cons_succ]
        refine AnyL.one (i := 1) (by kernel_rfl) rfl (fun K hK => ?_)
        skip
        go_simp
        refine (hpk.out _ _ hSc (by omega) 2 (by omega)).mono ?_
        rintro e wj ⟨cr, rfl, ⟨_, hcr⟩, hSd, hmd⟩
        have hcr := hcr (by omega)
        have hMc := hMc.trans hmd
        have hXc := (hmd.block _ (Array.getElem?_eq_some_iff.1 hXc).1 (by omega)).trans hXc
        have hSc := hSd
        refine hK.out _ _ (ph1 (fun o => World.cell?_of_block (hMc.block w.heap.size htl (by omega))) trivial) (fun hp => ?_)
        clear hK hSd hmd
        try simp only [Act.put, List.setIfInBounds_toArray, List.set_cons_zero, List.set_cons_succ]
        refine AnyL.one (i := 4) (by kernel_rfl) rfl (fun K hK => ?_)
        skip
        go_simp
        refine (hpk.out _ _ hSc (by omega) 4 (by omega)).mono ?_
        rintro e wj ⟨ix, rfl, ⟨_, hix⟩, hSd, hmd⟩
        have hix := hix (by omega)
        have hMc := hMc.trans hmd
        have hXc := (hmd.block _ (Array.getElem?_eq_some_iff.1 hXc).1 (by omega)).trans hXc
        have hSc := hSd
        refine hK.out _ _ (ph1 (fun o => World.cell?_of_block (hMc.block w.heap.size htl (by omega))) trivial) (fun hp => ?_)
        clear hK hSd hmd
        try simp only [Act.put, List.setIfInBounds_toArray, List.set_cons_zero, List.set_cons_succ]
        obtain ⟨nm, hn0, hnsz⟩ := Hnm.out ix (by omega)
        have tx : wr.cell? ⟨w.heap.size, ix, none⟩ = some (.string nm) := (Lib.cell_of_heap hT.out ix).trans hn0
        clear hn0
        refine take_ph 21 (i := 5) rfl rfl (by decide) (by kernel_rfl) (by kernel_rfl) (by kernel_rfl) (fun _ _ _ h => h) (by rfl) (fun w hSw => by (try dsimp only at hSw); go_simp; first | done | with_reducible rfl) hp (fun hp => ?_)
        try simp only [Act.put, List.setIfInBounds_toArray, List.set_cons_zero, List.set_cons_succ]
        refine take_ph 22 (i := 6) rfl rfl (by decide) (by kernel_rfl) (by kernel_rfl) (by kernel_rfl) (fun _ _ _ h => h) (by rfl) (fun w hSw => by (try dsimp only at hSw); go_simp; first | done | with_reducible rfl) hp (fun hp => ?_)
        try simp only [Act.put, List.setIfInBounds_toArray, List.set_cons_zero, List.set_cons_succ]
        refine AnyL.one (i := 8) (by kernel_rfl) rfl (fun K hK => ?_)
        skip
        go_simp
        refine (hpk.out _ _ hSc (by omega) 30 (by omega)).mono ?_
        rintro e wj ⟨ev, rfl, ⟨_, hev⟩, hSd, hmd⟩
        have hev := hev (by omega)
        have hMc := hMc.trans hmd
        have hXc := (hmd.block _ (Array.getElem?_eq_some_iff.1 hXc).1 (by omega)).trans hXc
        have hSc := hSd
        refine hK.out _ _ (ph1 (fun o => World.cell?_of_block (hMc.block w.heap.size htl (by omega))) trivial) (fun hp => ?_)
        clear hK hSd hmd
        try simp only [Act.put, List.setIfInBounds_toArray, List.set_cons_zero, List.set_cons_succ]
        have hwv : IntKind.i64.wrap (1 + (ev : Int)) = 1 + (ev : Int) := IntWalk.i64_in _ (by omega)
        refine take_ph 25 (i := 9) rfl rfl (by decide) (by kernel_rfl) (by kernel_rfl) (by kernel_rfl) (fun _ _ _ h => h) (by rfl) (fun w hSw => by (try dsimp only at hSw); go_simp; first | done | with_reducible rfl) hp (fun hp => ?_)
        try simp only [Act.put, List.setIfInBounds_toArray, List.set_cons_zero, List.set_cons_succ]
        refine AnyL.one (i := 11) (by kernel_rfl) rfl (fun K hK => ?_)
        skip
        go_simp
        refine (hpk.out _ _ hSc (by omega) 60 (by omega)).mono ?_
        rintro e wj ⟨la, rfl, ⟨_, hla⟩, hSd, hmd⟩
        have hla := hla (by omega)
        have hMc := hMc.trans hmd
        have hXc := (hmd.block _ (Array.getElem?_eq_some_iff.1 hXc).1 (by omega)).trans hXc
        have hSc := hSd
        refine hK.out _ _ (ph1 (fun o => World.cell?_of_block (hMc.block w.heap.size htl (by omega))) trivial) (fun hp => ?_)
        clear hK hSd hmd
        try simp only [Act.put, List.setIfInBounds_toArray, List.set_cons_zero, List.set_cons_succ]
        refine take_ph 28 (i := 12) rfl rfl (by decide) (by kernel_rfl) (by kernel_rfl) (by kernel_rfl) (fun _ _ _ h => h) (by rfl) (fun w hSw => by (try dsimp only at hSw); go_simp; first | done | with_reducible rfl) hp (fun hp => ?_)
        try simp only [Act.put, List.setIfInBounds_toArray, List.set_cons_zero, List.set_cons_succ]
        refine AnyL.one (i := 14) (by kernel_rfl) rfl (fun K hK => ?_)
        have s0 := (Lib.cell_of_heap hXc 0).trans rfl
        have s1 := (Lib.cell_of_heap hXc 1).trans rfl
        have s2 := (Lib.cell_of_heap hXc 2).trans rfl
        have s3 := (Lib.cell_of_heap hXc 3).trans rfl
        have g0 := Lib.frozen_of_heap hXc 0
        have g1 := Lib.frozen_of_heap hXc 1
        have g2 := Lib.frozen_of_heap hXc 2
        have g3 := Lib.frozen_of_heap hXc 3
        go_simp
        refine hK.out _ _ (ph1 (fun o => (four_cell (by omega)).trans (World.cell?_of_block (hMc.block w.heap.size htl (by omega)))) trivial) (fun hp => ?_)
        clear hK
        refine AnyL.done (by kernel_rfl) ?_ _
        simp only [Exit.then]
        exact key cr ev la nm _ _ _ _ _ _ _ _ _ _ _ _ _ _ _ _ _ _ _ _ _ _ _ _ _ _ _ _ _ (four_at hXc) (hSc.lo (four_below _ (show b + 1 ≤ _ by omega)) (Nat.le_refl _)) (hMc.on (four_below _ hpz)) hpz (by omega) (by omega) (by omega) hnsz
    · go_wp2
      go_ret
      exact ⟨_, _, rfl, (hO.out.slw Chk.len).mono' (by omega), hwf.out, by omega, hS.out.mono (by omega), hM.out⟩
end Go.Proofs.Ytmkhapgkiecmaaa
