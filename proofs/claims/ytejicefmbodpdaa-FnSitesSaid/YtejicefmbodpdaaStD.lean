/- The draw of a site: l04DrawSite, A2Site; three places. -/
import Derived.Test.YtejicefmbodpdaaDsB
import Derived.Test.YtejicefmbodpdaaCpy
namespace Go.Proofs.Ytejicefmbodpdaa
open Go.RowKit
section
variable {ρ φ α : Type} {n m : Nat} {c : ρ → List Value} {d : α → List Value} {fl : ρ → φ} {sv : ρ → SV}
theorem own_offV {lo p o : Nat} {e t : TypeId} {fz : Nat × Nat} {cs : Array Value} {w : World} {v u : Value} {l : List α} (h : Own m d lo e w v l) (hp : w.heap[p]? = some (.cells cs t fz)) (h1 : t ≠ e) : Own m d lo e (w.setCell ⟨p, o, none⟩ u) v l := by
  refine own_keep h fun g hg => Below.heap_setCell _ _ _ _ fun e => ?_
  obtain ⟨cur, fz', hc⟩ := h.block hg
  dsimp only at e
  rw [e, hp] at hc
  cases hc; exact h1 rfl
/-- A list of structs that has grown by one whose own memory lies behind B: it reads, also when a box of another type is written then. -/
theorem grow_read {lo B p : Nat} {te e t : TypeId} {fz : Nat × Nat} {cs : Array Value} {u : Value} (hte : te ≠ e) (hc : ∀ x, (c x).length = n) (hd : ∀ x, (d x).length = m) {w1 w2 : World} {v v' : Value} {rs : List ρ} {L : List (φ × List α)} {r : ρ} {x : φ × List α} (h1 : OwnN n c fl sv m d lo te e w1 v rs L)
    (hvB : ∀ g, v.ownBlock = some g → g < B) (hlo : lo ≤ B) (hf : fl r = x.1) (hr : Sl m d B w1.heap.size w1 (sv r).v x.2) (hv : Own n c lo te w2 v' (rs ++ [r])) (hg : (w1.alloc (.cells (c r).toArray te)).grownBy w2 v.ownBlock)
    (hp : w2.heap[p]? = some (.cells cs t fz)) (ht1 : t ≠ te) (ht2 : t ≠ e) (hpB : p < B) : NSr n c fl sv m d lo w2.heap.size (w2.setCell ⟨p, 0, none⟩ u) v' (rs ++ [r]) (L ++ [x]) := by
  have hsz : w1.heap.size ≤ w2.heap.size := by have := hg.size; simp at this; omega
  have hz2 : (w2.setCell ⟨p, 0, none⟩ u).heap.size = w2.heap.size := by simp
  refine ⟨by have h := ((own_offV (o := 0) (u := u) hv hp ht1).slw hc).1; rw [hz2] at h; exact h, by simp [h1.len], ?_⟩
  intro i s y hs hy
  rw [List.getElem?_append] at hs
  by_cases hi : i < rs.length
  · rw [if_pos hi] at hs
    rw [List.getElem?_append_left (by rw [← h1.len]; exact hi)] at hy
    have hrow := (h1.row i s y hs hy).2
    have k : Own m d lo e w2 (sv s).v y.2 := by
      refine World.ownsRow.kept (hrow.alloc _) hg ?_
      cases hsb : (sv s).v.ownBlock with
      | none => exact .inl rfl
      | some g =>
        refine .inr fun hgv => ?_
        obtain ⟨cur, fz, hc⟩ := hrow.block hsb
        obtain ⟨cur', fz', hc'⟩ := h1.out.block hgv.symm
        rw [hc] at hc'
        cases hc'
        exact hte rfl
    exact ⟨(h1.row i s y hs hy).1, by have h := ((own_offV (o := 0) (u := u) k hp ht2).slw hd).1; rw [hz2] at h; exact h⟩
  · rw [if_neg hi] at hs
    by_cases h0 : i - rs.length = 0
    · rw [h0] at hs
      simp at hs
      subst hs
      have hi2 : i = L.length := by rw [← h1.len]; omega
      subst hi2
      rw [List.getElem?_append_right (Nat.le_refl _), Nat.sub_self] at hy
      simp at hy
      subst hy
      refine ⟨hf, (hr.keep (fun k hk1 hk2 => ?_)).mono hlo hsz⟩
      refine (Below.heap_setCell _ _ _ _ (show k ≠ p by omega)).trans ((hg.block k (by simp; omega) (fun he => ?_)).trans (((Below.refl w1.heap.size w1).alloc (Nat.le_refl _) _).block k hk2))
      have := hvB k he.symm
      omega
    · rw [List.getElem?_eq_none (by simp; omega)] at hs; cases hs
end
def zoe : ByteArray := ⟨#[122, 111, 101]⟩
/-- A site that is drawn. -/
def DrS (L : SiteL) : Prop := ∀ x ∈ L, (x.1.wf ∧ ∀ y ∈ x.2, y.wf) ∧ x.1.name ≠ zoe ∧ (-600 ≤ x.1.x ∧ x.1.x ≤ 600) ∧ (-600 ≤ x.1.y ∧ x.1.y ≤ 600) ∧ (1 ≤ x.2.length ∧ x.2.length ≤ 5)
theorem DrS.wf {L : SiteL} (h : DrS L) : L.wf := fun x hx => (h x hx).1
theorem DrS.rows {L : SiteL} (h : DrS L) : ∀ k (hk : k < L.length), 0 < L[k].2.length ∧ L[k].2.length ≤ 1048576 := fun k hk => by have := (h L[k] (List.getElem_mem hk)).2.2.2.2; omega
theorem DrS.push {L : SiteL} (h : DrS L) {x : CraneF × List Chs} (hx : (x.1.wf ∧ ∀ y ∈ x.2, y.wf) ∧ x.1.name ≠ zoe ∧ (-600 ≤ x.1.x ∧ x.1.x ≤ 600) ∧ (-600 ≤ x.1.y ∧ x.1.y ≤ 600) ∧ (1 ≤ x.2.length ∧ x.2.length ≤ 5)) : DrS (L ++ [x]) := fun y hy => by
  rcases List.mem_append.1 hy with hy | hy
  · exact h y hy
  · rw [List.mem_singleton.1 hy]; exact hx
theorem steps_wf {l : List Chs} (h : stepsOk l) : ∀ y ∈ l, y.wf := fun y hy => by
  obtain ⟨i, hi, rfl⟩ := List.getElem_of_mem hy
  obtain ⟨h1, h2, _⟩ := h i hi
  exact ⟨⟨by omega, by omega⟩, ⟨by omega, by omega⟩⟩
theorem i64_sm (x : Int) (h : -1000 ≤ x ∧ x ≤ 1000) : I64 x := ⟨by omega, by omega⟩
theorem drs_mk {nm : ByteArray} {x1 x2 x3 x4 x5 : Int} {lc : List Chs} (h0 : nm.size ≤ 100) (hz : nm ≠ zoe) (h1 : -600 ≤ x1 ∧ x1 ≤ 600) (h2 : -600 ≤ x2 ∧ x2 ≤ 600) (h3 : 200 ≤ x3 ∧ x3 ≤ 600) (h4 : 200 ≤ x4 ∧ x4 ≤ 600) (h5 : 0 ≤ x5 ∧ x5 ≤ 150) (hst : stepsOk lc) (hl : 1 ≤ lc.length ∧ lc.length ≤ 5) :
    (CraneF.wf ⟨nm, x1, x2, x3, x4, x5⟩ ∧ ∀ y ∈ lc, y.wf) ∧ nm ≠ zoe ∧ (-600 ≤ x1 ∧ x1 ≤ 600) ∧ (-600 ≤ x2 ∧ x2 ≤ 600) ∧ (1 ≤ lc.length ∧ lc.length ≤ 5) :=
  ⟨⟨⟨Nat.le_trans h0 (by unfold maxLen; omega), i64_sm x1 (by omega), i64_sm x2 (by omega), i64_sm x3 (by omega), i64_sm x4 (by omega), i64_sm x5 (by omega)⟩, steps_wf hst⟩, hz, h1, h2, hl⟩
def StOut (b A : Nat) (w : World) (e : Ending) (w' : World) : Prop :=
  ∃ (s : SV) (rs : List CraneR) (L : SiteL), e = .returned (.agg #[s.v]) ∧ Cranes w.heap.size w'.heap.size w' s.v rs L ∧ siteOk L ∧ L.length ≤ 4 ∧ DrS L ∧ Src b A w' ∧ Mod b (b + 1) w w'
theorem ada_nm : isNm ⟨#[97, 100, 97]⟩ := by
  refine ⟨by decide, by decide, fun i hi => ?_⟩
  have hi3 : i < 3 := hi
  match i, hi3 with
  | 0, _ => exact .inl (show 97 ≤ (97 : UInt8).toNat ∧ (97 : UInt8).toNat ≤ 122 by decide)
  | 1, _ => exact .inl (show 97 ≤ (100 : UInt8).toNat ∧ (100 : UInt8).toNat ≤ 122 by decide)
  | 2, _ => exact .inl (show 97 ≤ (97 : UInt8).toNat ∧ (97 : UInt8).toNat ≤ 122 by decide)
theorem ada_ok {x1 x2 x3 x4 x5 : Int} {lc : List Chs} (h1 : -600 ≤ x1 ∧ x1 ≤ 600) (h2 : -600 ≤ x2 ∧ x2 ≤ 600) (h3 : 200 ≤ x3 ∧ x3 ≤ 600) (h4 : 200 ≤ x4 ∧ x4 ≤ 600) (h5 : 0 ≤ x5 ∧ x5 ≤ 150) (hst : stepsOk lc) (hl : 1 ≤ lc.length ∧ lc.length ≤ 5) (hj : ∀ i (h : i < lc.length), lc[i].radius ≤ x4) :
    siteOk ([] ++ [((⟨⟨#[97, 100, 97]⟩, x1, x2, x3, x4, x5⟩, lc) : CraneF × List Chs)]) := by
  refine ⟨fun i hi => ?_, by simp, by simp⟩
  have hi0 : i = 0 := by simp at hi; exact hi
  subst hi0
  refine ⟨⟨?_, ⟨by show -10000 ≤ x1 ∧ x1 ≤ 10000; omega, by show -10000 ≤ x2 ∧ x2 ≤ 10000; omega⟩, by show 1 ≤ x3 ∧ x3 ≤ 2000; omega, by show 1 ≤ x4 ∧ x4 ≤ 1000; omega, by show 0 ≤ x5 ∧ x5 ≤ x4; omega, ?_, ?_⟩, fun j hj => absurd hj (by omega)⟩
  · exact ada_nm
  · show chartOk lc
    exact ⟨fun i hi => ⟨⟨(hst i hi).1, (hst i hi).2.1⟩, (hst i hi).2.2⟩, by omega, by omega⟩
  · show lastR lc ≤ x4
    rw [lastR_eq (by omega)]
    exact hj _ _
def nm6 : Array Value := #[.string ⟨#[97, 100, 97]⟩, .string ⟨#[98, 111]⟩, .string ⟨#[99, 114, 97, 110, 101, 45, 51]⟩, .string ⟨#[100]⟩, .string ⟨#[101]⟩, .string ⟨#[102]⟩]
theorem nm6_at (i : Nat) (h : i < 6) : ∃ nm : ByteArray, nm6[i]? = some (.string nm) ∧ nm.size ≤ 100 ∧ nm ≠ zoe := by
  match i, h with
  | 0, _ => exact ⟨_, rfl, by decide, by decide⟩
  | 1, _ => exact ⟨_, rfl, by decide, by decide⟩
  | 2, _ => exact ⟨_, rfl, by decide, by decide⟩
  | 3, _ => exact ⟨_, rfl, by decide, by decide⟩
  | 4, _ => exact ⟨_, rfl, by decide, by decide⟩
  | 5, _ => exact ⟨_, rfl, by decide, by decide⟩
theorem dkx3V (w : World) (o p q : Obj) : ∃ W, (((w.alloc o).alloc p).alloc q) = W ∧ W.heap[w.heap.size]? = some o ∧ W.heap[w.heap.size + 1]? = some p ∧ W.heap[w.heap.size + 1 + 1]? = some q ∧ Below w.heap.size w W ∧ W.heap.size = w.heap.size + 3 := by
  have h1 := blkN_new w o
  have h2 := blkN_new (w.alloc o) p
  have h3 := blkN_new ((w.alloc o).alloc p) q
  have b1 : Below (w.alloc o).heap.size (w.alloc o) ((w.alloc o).alloc p) := (Below.refl _ _).alloc (Nat.le_refl _) _
  have b2 : Below ((w.alloc o).alloc p).heap.size ((w.alloc o).alloc p) (((w.alloc o).alloc p).alloc q) := (Below.refl _ _).alloc (Nat.le_refl _) _
  refine ⟨_, rfl, blkN_below b2 (blkN_below b1 h1), ?_, ?_, (((Below.refl _ _).alloc (Nat.le_refl _) _).alloc (by simp) _).alloc (by simp; omega) _, by simp⟩
  · rw [show w.heap.size + 1 = (w.alloc o).heap.size by simp]; exact blkN_below b2 h2
  · rw [show w.heap.size + 1 + 1 = ((w.alloc o).alloc p).heap.size by simp]; exact h3
theorem cranes_v {lo hi : Nat} {w : World} {v : Value} {rs : List CraneR} {L : SiteL} (h : Cranes lo hi w v rs L) : ∃ a c, v = .slice a L.length c := by
  obtain ⟨a, cap, hv, _⟩ := h.out
  exact ⟨a, cap, by rw [← h.len]; exact hv⟩
theorem nxtV {w w1 : World} {p : Nat} {o : Obj} (hb : Below w.heap.size w w1) (h : w.heap[p]? = some o) : w1.heap[p]? = some o := (hb.block p (Array.getElem?_eq_some_iff.1 h).1).trans h
set_option maxRecDepth 100000 in
set_option maxHeartbeats 8000000 in
theorem draw_Site (b A : Nat) (w : World) (h : Src b A w) (hA : A ≤ 80000) : Calls Try.prog 18 #[.pointer (some ⟨b, 0, none⟩), .int .i64 4] w (StOut b (A + 300) w) := by
  have hpk := Lib.hid (fun A w' h hA n hn => src_pick b A n w' h hA hn)
  have hbl := h.lt
  have Hs := Lib.hid h
  clear h
  go_enter Try.func18, Try.ntmps18
  go_wp2_with fail
  obtain ⟨W1, hW1, hX4, hX5, hX6, hB1, hz1⟩ := dkx3V w (.cells #[.slice none 0 0] 26 (0, 0)) (.cells nm6 9 (0, 0)) (.cells #[.slice none 0 0] 26 (0, 0))
  unfold nm6 at hW1
  rw [hW1]
  clear hW1
  have hS1 := Lib.hid (Hs.out.below hB1)
  have hM1 := Lib.hid (Mod.of_below (lo := b) (hi := b + 1) hB1)
  clear Hs
  refine (hpk.out A _ hS1.out (by omega) 4 (by omega)).mono ?_
  rintro e w2 ⟨k0, rfl, ⟨_, hk0⟩, hs2, hm2⟩
  have hk0 := hk0 (by omega)
  have hS2 := Lib.hid hs2
  have hM2 := Lib.hid (hM1.out.trans hm2)
  have hY4 := Lib.hid (blk_modV hX4 hm2 (by omega))
  have hY5 := Lib.hid (blk_modV hX5 hm2 (by omega))
  have hY6 := Lib.hid (blk_modV hX6 hm2 (by omega))
  clear hX4 hX5 hX6 hs2 hm2 hS1 hM1 hB1 hz1
  go_wp2_with fail
  go_loopw [7] (fun i wr => ∃ (k : Nat) (s : SV) (rs : List CraneR) (L : SiteL), i = .int .i64 k ∧ k ≤ 4 ∧ L.length + k ≤ 4 ∧ Hid ((L = [] ∧ s = ⟨none, 0, 0⟩) ∨ siteOk L) ∧ Hid (DrS L) ∧ Hid (Cranes (w.heap.size + 3) wr.heap.size wr s.v rs L) ∧ Hid (wr.heap[w.heap.size + 1 + 1]? = some (.cells #[s.v] 26 (0, 0))) ∧ Hid (wr.heap[w.heap.size + 1]? = some (.cells nm6 9 (0, 0))) ∧ Hid (wr.heap[w.heap.size]? = some (.cells #[.slice none 0 0] 26 (0, 0))) ∧ Hid (Src b (A + 2 + 60 * (4 - k)) wr) ∧ Hid (Mod b (b + 1) w wr)) (fun i _ => (intOf i).toNat)
  case atStart => exact ⟨1 + k0, ⟨none, 0, 0⟩, [], [], congrArg (Value.int .i64) (by omega), by omega, by simp; omega, Lib.hid (.inl ⟨rfl, rfl⟩), Lib.hid (fun x hx => by simp at hx), Lib.hid nsr_nil, hY6, hY5, hY4, Lib.hid (hS2.out.mono (by omega)), hM2⟩
  case round =>
    clear hY4 hY5 hY6 hS2 hM2
    obtain ⟨k, s, rs, L, rfl, hk4, hlk, hsite, hdr, hcr, hY6, hY5, hY4, hS, hM⟩ := hrel
    have hszr := hM.out.size
    have hl6 := (Array.getElem?_eq_some_iff.1 hY6.out).1
    by_cases hk : 0 < k
    · have hcp := Lib.hid (spec_CopyW (w.heap.size + 1 + 1) s.v rs L _ _ wr ((Lib.cell_of_heap hY6.out 0).trans rfl) hcr.out hdr.out.rows (by omega))
      go_wp2_with fail
      refine hcp.out.mono ?_
      rintro e w3 ⟨⟨ta, tl, tc⟩, rk, rfl, hO, hb3⟩
      obtain ⟨sa, sl, sc⟩ := s
      obtain ⟨a', c', hv⟩ := cranes_v hcr.out
      simp only [SV.v] at hO hcr hY6 hv ⊢
      obtain ⟨n, hn⟩ : ∃ n, L.length = n := ⟨_, rfl⟩
      rw [hn] at hv hlk
      obtain rfl : n = sl := by cases hv; rfl
      clear hv hcp
      have Hn := Lib.hid hn
      clear hn
      have hz3 := hb3.size
      have hlr := hS.out.lt
      have hrkl : rk.length = n := hO.len.trans Hn.out
      have htl : n = tl := by obtain ⟨a9, c9, h9⟩ := own_sv hO.out; cases h9; exact hrkl.symm
      subst htl
      have hB4 := (Below.refl w3.heap.size w3).alloc (Nat.le_refl _) (.cells #[.slice ta n tc] 26 (0, 0))
      have hX8 : (w3.alloc (.cells #[.slice ta n tc] 26 (0, 0))).heap[w3.heap.size]? = some (.cells #[.slice ta n tc] 26 (0, 0)) := blkN_new _ _
      have hr4 := hb3.trans (hB4.mono hz3)
      have hO4 := hO.below hB4
      have hY6 := Lib.hid (nxtV hr4 hY6.out)
      have hY5 := Lib.hid (nxtV hr4 hY5.out)
      have hY4 := Lib.hid (nxtV hr4 hY4.out)
      have hS4 := hS.out.below hr4
      have hM4 := hM.out.onV (hr4.mono hszr)
      have hCr4 := Lib.hid (hcr.out.ext hr4)
      obtain ⟨nm, hnm0, hnsz, hnz⟩ := nm6_at n (by omega)
      have hz4 : (w3.alloc (.cells #[.slice ta n tc] 26 (0, 0))).heap.size = w3.heap.size + 1 := by simp
      clear hO hb3 hB4 hr4 hS hM hcr
      go_wp2_with fail
      generalize w3.alloc (.cells #[.slice ta n tc] 26 (0, 0)) = w4 at *
      have d4 := (Below.refl w4.heap.size w4).drew
      have hp8 := (Array.getElem?_eq_some_iff.1 hX8).1
      have hp6 := (Array.getElem?_eq_some_iff.1 hY6.out).1
      have hn6 : (n : Int) < 6 := by omega
      have hn0 : (0 : Int) ≤ (n : Int) := Int.natCast_nonneg _
      refine region_ph 11 (fun w' => w'.cell? ⟨w.heap.size + 1 + 1, 0, none⟩ = some (.slice sa n sc) ∧ w'.cell? ⟨w.heap.size + 1, n, none⟩ = some (.string nm)) (fun w' => w'.cell? ⟨w3.heap.size, 0, none⟩ = some (.slice ta n tc)) (by kernel_rfl) ⟨(Lib.cell_of_heap hY6.out 0).trans rfl, (Lib.cell_of_heap hY5.out n).trans hnm0⟩ ((Lib.cell_of_heap hX8 0).trans rfl) (fun hp => ?_)
      refine take_ph 20 (i := 0) rfl rfl (by decide) (by kernel_rfl) (by kernel_rfl) (by kernel_rfl) (fun _ _ _ h => h) (by rfl) (fun w hSw => by (try dsimp only at hSw); go_simp; first | done | with_reducible rfl) hp (fun hp => ?_)
      try simp only [Act.put, List.setIfInBounds_toArray, List.set_cons_zero, List.set_cons_succ]
      refine take_ph1 21 (i := 1) rfl rfl (by decide) (by rfl) (by kernel_rfl) (by kernel_rfl) (by kernel_rfl) (by kernel_rfl) (fun _ _ _ h => h) (by rfl) (fun w hSw hBw => by (try dsimp only at hSw hBw); go_simp; first | done | with_reducible rfl) hp (fun hp => ?_)
      try simp only [Act.put, List.setIfInBounds_toArray, List.set_cons_zero, List.set_cons_succ]
      refine take_ph 22 (i := 2) rfl rfl (by decide) (by kernel_rfl) (by kernel_rfl) (by kernel_rfl) (fun _ _ _ h => h) (by rfl) (fun w hSw => by (try dsimp only at hSw); go_simp; first | done | with_reducible rfl) hp (fun hp => ?_)
      try simp only [Act.put, List.setIfInBounds_toArray, List.set_cons_zero, List.set_cons_succ]
      refine take_ph 23 (i := 3) rfl rfl (by decide) (by kernel_rfl) (by kernel_rfl) (by kernel_rfl) (fun _ _ _ h => h) (by rfl) (fun w hSw => by (try dsimp only at hSw); go_simp; first | done | with_reducible rfl) hp (fun hp => ?_)
      try simp only [Act.put, List.setIfInBounds_toArray, List.set_cons_zero, List.set_cons_succ]
      refine take_ph 24 (i := 4) rfl rfl (by decide) (by kernel_rfl) (by kernel_rfl) (by kernel_rfl) (fun _ _ _ h => h) (by rfl) (fun w hSw => by (try dsimp only at hSw); go_simp; first | done | with_reducible rfl) hp (fun hp => ?_)
      try simp only [Act.put, List.setIfInBounds_toArray, List.set_cons_zero, List.set_cons_succ]
      refine take_ph 25 (i := 5) rfl rfl (by decide) (by kernel_rfl) (by kernel_rfl) (by kernel_rfl) (fun _ _ _ h => h) (by rfl) (fun w hSw => by (try dsimp only at hSw); go_simp; first | done | with_reducible rfl) hp (fun hp => ?_)
      try simp only [Act.put, List.setIfInBounds_toArray, List.set_cons_zero, List.set_cons_succ]
      refine take_ph 26 (i := 6) rfl rfl (by decide) (by kernel_rfl) (by kernel_rfl) (by kernel_rfl) (fun _ _ _ h => h) (by rfl) (fun w hSw => by (try dsimp only at hSw); go_simp; first | done | with_reducible rfl) hp (fun hp => ?_)
      try simp only [Act.put, List.setIfInBounds_toArray, List.set_cons_zero, List.set_cons_succ]
      refine take_ph 27 (i := 7) rfl rfl (by decide) (by kernel_rfl) (by kernel_rfl) (by kernel_rfl) (fun _ _ _ h => h) (by rfl) (fun w hSw => by (try dsimp only at hSw); go_simp; first | done | with_reducible rfl) hp (fun hp => ?_)
      try simp only [Act.put, List.setIfInBounds_toArray, List.set_cons_zero, List.set_cons_succ]
      refine take_ph 28 (i := 8) rfl rfl (by decide) (by kernel_rfl) (by kernel_rfl) (by kernel_rfl) (fun _ _ _ h => h) (by rfl) (fun w hSw => by (try dsimp only at hSw); go_simp; first | done | with_reducible rfl) hp (fun hp => ?_)
      try simp only [Act.put, List.setIfInBounds_toArray, List.set_cons_zero, List.set_cons_succ]
      refine AnyL.one (i := 9) (by kernel_rfl) rfl (fun K hK => ?_)
      go_simp
      refine (draw_CraneV b _ nm _ (hS4.below d4) (by omega)).mono ?_
      rintro e w5 ⟨x1, x2, x3, x4, x5, cv, lc, rfl, hx1, hx2, hx3, hx4, hx5, hsl, hst, hln, hjb, hs5, hm5⟩
      obtain ⟨ca, cn, cc, rfl⟩ : ∃ ca cn cc, cv = .slice ca cn cc := by obtain ⟨⟨a, cap, hv, _⟩, _⟩ := hsl; exact ⟨a, _, cap, hv⟩
      have hO5 := (hO4.below d4).mod hm5 (show b + 1 ≤ wr.heap.size by omega)
      have hY6 := Lib.hid (blk_modV (w := w4.drew) hY6.out hm5 (by omega))
      have hY5 := Lib.hid (blk_modV (w := w4.drew) hY5.out hm5 (by omega))
      have hY4 := Lib.hid (blk_modV (w := w4.drew) hY4.out hm5 (by omega))
      have hX8 := blk_modV (w := w4.drew) hX8 hm5 (by omega)
      have hM5 := (hM4.then d4).trans hm5
      have hCr5 := Lib.hid (NSr.keep (NSr.below hCr4.out d4 (by omega)) (fun k hk1 hk2 => hm5.block k (show k < w4.heap.size by omega) (by omega)))
      have hz5 := hm5.size
      have hz45 : w4.drew.heap.size = w4.heap.size := rfl
      rw [hz45] at hz5 hsl
      refine hK.out _ _ (ph1 ⟨(Lib.cell_of_heap hY6.out 0).trans rfl, (Lib.cell_of_heap hY5.out n).trans hnm0⟩ ((Lib.cell_of_heap hX8 0).trans rfl)) (fun hp => ?_)
      have hvb : ∀ g, (Value.slice ta n tc).ownBlock = some g → g < w4.heap.size := fun g hg => (World.ownsRow.lt hO4.out g hg).2
      clear hK hS4 hM4 hm5 hCr4 hO4
      try simp only [Act.put, List.setIfInBounds_toArray, List.set_cons_zero, List.set_cons_succ]
      refine AnyL.one (i := 10) (by kernel_rfl) rfl (fun K hK => ?_)
      go_simp
      have hBl := (Below.refl w5.heap.size w5).alloc (Nat.le_refl _) (.cells #[.string nm, .int .i64 x1, .int .i64 x2, .int .i64 x3, .int .i64 x4, .int .i64 x5, .slice ca cn cc] 35 (0, 0))
      refine hK.out _ _ (ph1 ⟨(Lib.cell_of_heap (nxtV hBl hY6.out) 0).trans rfl, (Lib.cell_of_heap (nxtV hBl hY5.out) n).trans hnm0⟩ ((Lib.cell_of_heap (nxtV hBl hX8) 0).trans rfl)) (fun hp => ?_)
      clear hK hBl
      try simp only [Act.put, List.setIfInBounds_toArray, List.set_cons_zero, List.set_cons_succ]
      refine AnyL.one (i := 11) (by kernel_rfl) rfl (fun K hK => ?_)
      refine step_app1 (c := CraneR.cells) (bytes := 80) rfl _ _ 24 35 rfl Try.underlying24 info_impl_Crane (by omega) CraneR.len CraneR.one wr.heap.size rk ⟨⟨nm, x1, x2, x3, x4, x5⟩, ⟨ca, cn, cc⟩⟩ (.slice ta n tc) rfl w5 rfl hO5.out rfl (by omega) (by omega) (by omega) ?_
      intro v' w6 hown6 hg6
      have hB6 : Below wr.heap.size w5 w6 := hO5.out.app (Below.refl _ _) (Nat.le_refl _) (by omega) hg6
      have hz6 := hB6.size
      have hY6 := Lib.hid (grown_block hO5.out hY6.out (by decide) hg6)
      have hY5 := Lib.hid (grown_block hO5.out hY5.out (by decide) hg6)
      have hY4 := Lib.hid (grown_block hO5.out hY4.out (by decide) hg6)
      have hX8 := grown_block hO5.out hX8 (by decide) hg6
      have hCr6 := Lib.hid (NSr.below hCr5.out hB6 (Nat.le_refl _))
      have hS6 := hs5.lo hB6 (show b + 1 ≤ wr.heap.size by omega)
      have hM6 := hM5.onV (hB6.mono hszr)
      obtain ⟨va, vc, rfl⟩ := own_sv hown6
      have hrd := fun u => grow_read (B := w4.heap.size) (p := w3.heap.size) (u := u) (r := ⟨⟨nm, x1, x2, x3, x4, x5⟩, ⟨ca, cn, cc⟩⟩) (x := (⟨nm, x1, x2, x3, x4, x5⟩, lc)) TK_TC CraneR.len Chs.len hO5 hvb (by omega) rfl hsl.1 hown6 hg6 hX8 (by decide) (by decide) (by omega)
      have hdr6 := Lib.hid (hdr.out.push (x := (⟨nm, x1, x2, x3, x4, x5⟩, lc)) (drs_mk hnsz hnz hx1 hx2 hx3 hx4 hx5 hst hln))
      have hl6 : (rk ++ [(⟨⟨nm, x1, x2, x3, x4, x5⟩, ⟨ca, cn, cc⟩⟩ : CraneR)]).length = n + 1 := by rw [List.length_append, hrkl]; rfl
      have hL6 : (L ++ [((⟨nm, x1, x2, x3, x4, x5⟩, lc) : CraneF × List Chs)]).length = n + 1 := by rw [List.length_append, Hn.out]; rfl
      rw [hl6] at hrd ⊢
      generalize L ++ [((⟨nm, x1, x2, x3, x4, x5⟩, lc) : CraneF × List Chs)] = L6 at *
      generalize rk ++ [(⟨⟨nm, x1, x2, x3, x4, x5⟩, ⟨ca, cn, cc⟩⟩ : CraneR)] = rk6 at *
      refine hK.out _ _ (ph2 rfl ⟨(Lib.cell_of_heap hY6.out 0).trans rfl, (Lib.cell_of_heap hY5.out n).trans hnm0⟩) (fun hp => ?_)
      clear hK hown6 hg6 hl6 hO5 hvb hst hln hjb hCr5 hM5 hs5 hsl
      try simp only [Act.put, List.setIfInBounds_toArray]
      refine take_ph 32 (i := 12) rfl rfl (by decide) (by kernel_rfl) (by kernel_rfl) (by kernel_rfl) (fun _ _ _ h => h) (by rfl) (fun w hSw => by (try dsimp only at hSw); go_simp; first | done | with_reducible rfl) hp (fun hp => ?_)
      try simp only [Act.put]
      refine AnyL.one (i := 13) (by kernel_rfl) rfl (fun K hK => ?_)
      have c8 := (Lib.cell_of_heap hX8 0).trans rfl
      have f8 := Lib.frozen_of_heap hX8 0
      go_simp
      have hrd := Lib.hid (hrd (.slice va (n + 1) vc))
      have hX8 := Lib.hid (blk_onV (q := w3.heap.size) (j := 0) hX8 (cs' := #[.slice va (n + 1) vc]) (v := .slice va (n + 1) vc) rfl)
      have hY6 := Lib.hid (blk_offV (q := w3.heap.size) (j := 0) hY6.out (by omega) (.slice va (n + 1) vc))
      have hY5 := Lib.hid (blk_offV (q := w3.heap.size) (j := 0) hY5.out (by omega) (.slice va (n + 1) vc))
      have hY4 := Lib.hid (blk_offV (q := w3.heap.size) (j := 0) hY4.out (by omega) (.slice va (n + 1) vc))
      have hS7 := Lib.hid (src_setV (j := 0) (q := w3.heap.size) hS6 (by omega) (.slice va (n + 1) vc))
      have hM7 := Lib.hid (mod_setV (j := 0) (q := w3.heap.size) hM6 (by omega) (.slice va (n + 1) vc))
      have hCr7 := Lib.hid (NSr.keep hCr6.out (fun k hk1 hk2 => Below.heap_setCell w6 ⟨w3.heap.size, 0, none⟩ (.slice va (n + 1) vc) k (show k ≠ w3.heap.size by omega)))
      have hz7 : (w6.setCell ⟨w3.heap.size, 0, none⟩ (.slice va (n + 1) vc)).heap.size = w6.heap.size := by simp
      refine hK.out _ _ (ph2 rfl ⟨(Lib.cell_of_heap hY6.out 0).trans rfl, (Lib.cell_of_heap hY5.out n).trans hnm0⟩) (fun hp => ?_)
      clear hK c8 f8 hCr6 hS6 hM6
      generalize w6.setCell ⟨w3.heap.size, 0, none⟩ (.slice va (n + 1) vc) = w7 at *
      refine AnyL.done (by kernel_rfl) ?_ _
      simp only [Exit.then]
      go_wp2_with fail
      refine (spec_SiteOk w3.heap.size _ _ _ _ _ w7 ((Lib.cell_of_heap hX8.out 0).trans rfl) hrd.out hdr6.out.wf).mono ?_
      rintro e w8 ⟨rfl, hb8⟩
      have hM8 := Lib.hid (hM7.out.onV (hb8.mono (by omega)))
      have hS8 := Lib.hid (hS7.out.below hb8)
      have hY6 := Lib.hid (nxtV hb8 hY6.out)
      have hY5 := Lib.hid (nxtV hb8 hY5.out)
      have hY4 := Lib.hid (nxtV hb8 hY4.out)
      have hX8 := Lib.hid (nxtV hb8 hX8.out)
      have hz8 := hb8.size
      cases hsb : siteB L6
      · have hCr8 := Lib.hid ((NSr.ext hCr7.out hb8).mono (Nat.le_refl _) (show wr.heap.size ≤ w8.heap.size by omega))
        clear hrd hM7 hS7 hCr7 hb8 hdr6
        go_wp2_with fail
        go_roundw
        case rel => exact ⟨k - 1, ⟨sa, n, sc⟩, rs, L, congrArg (Value.int .i64) (by omega), by omega, by rw [Hn.out]; omega, hsite, hdr, hCr8, hY6, hY5, hY4, Lib.hid (hS8.out.mono (by omega)), hM8⟩
        case measure => simp [intOf]; omega
      · have hok := Lib.hid (siteB_iff.1 hsb)
        have c8 := (Lib.cell_of_heap hX8.out 0).trans rfl
        have c6 := (Lib.cell_of_heap hY6.out 0).trans rfl
        have f6 := Lib.frozen_of_heap hY6.out 0
        have hCr8 := Lib.hid ((NSr.ext hrd.out hb8).mono (show w.heap.size + 3 ≤ wr.heap.size by omega) (show w6.heap.size ≤ w8.heap.size by omega))
        have hCr9 := Lib.hid (NSr.keep hCr8.out (fun k hk1 hk2 => Below.heap_setCell w8 ⟨w.heap.size + 1 + 1, 0, none⟩ (.slice va (n + 1) vc) k (show k ≠ w.heap.size + 1 + 1 by omega)))
        have hYY6 := Lib.hid (blk_onV (q := w.heap.size + 1 + 1) (j := 0) hY6.out (cs' := #[.slice va (n + 1) vc]) (v := .slice va (n + 1) vc) rfl)
        have hYY5 := Lib.hid (blk_offV (q := w.heap.size + 1 + 1) (j := 0) hY5.out (by omega) (.slice va (n + 1) vc))
        have hYY4 := Lib.hid (blk_offV (q := w.heap.size + 1 + 1) (j := 0) hY4.out (by omega) (.slice va (n + 1) vc))
        have hS9 := Lib.hid (src_setV (j := 0) (q := w.heap.size + 1 + 1) hS8.out (by omega) (.slice va (n + 1) vc))
        have hM9 := Lib.hid (mod_setV (j := 0) (q := w.heap.size + 1 + 1) hM8.out (by omega) (.slice va (n + 1) vc))
        have hz9 : (w8.setCell ⟨w.heap.size + 1 + 1, 0, none⟩ (.slice va (n + 1) vc)).heap.size = w8.heap.size := by simp
        clear hrd hM7 hS7 hCr7 hb8 hY6 hY5 hY4 hX8 hM8 hS8 hCr8
        go_wp2_with fail
        go_roundw
        case rel => exact ⟨k - 1, ⟨va, n + 1, vc⟩, rk6, L6, congrArg (Value.int .i64) (by omega), by omega, by omega, Lib.hid (.inr hok.out), hdr6, Lib.hid (by rw [hz9]; exact hCr9.out), hYY6, hYY5, hYY4, Lib.hid (hS9.out.mono (by omega)), hM9⟩
        case measure => simp [intOf]; omega
    · have hk0' : k = 0 := by omega
      subst hk0'
      obtain ⟨sa, sl, sc⟩ := s
      obtain ⟨a', c', hv⟩ := cranes_v hcr.out
      simp only [SV.v] at hcr hY6 hv
      obtain ⟨n, hn⟩ : ∃ n, L.length = n := ⟨_, rfl⟩
      rw [hn] at hv hlk
      obtain rfl : n = sl := by cases hv; rfl
      clear hv
      have Hn := Lib.hid hn
      clear hn
      by_cases hn0 : n = 0
      · subst hn0
        have hL0 : L = [] := List.length_eq_zero_iff.1 Hn.out
        subst hL0
        obtain ⟨rfl, rfl⟩ : sa = none ∧ sc = 0 := by
          rcases hsite.out with ⟨_, h⟩ | h
          · cases h; exact ⟨rfl, rfl⟩
          · exact absurd h.2.1 (by simp)
        clear hsite hdr hcr Hn hlk
        have c6 := (Lib.cell_of_heap hY6.out 0).trans rfl
        have d4 := (Below.refl wr.heap.size wr).drew
        have hlr := hS.out.lt
        go_wp2_with fail
        refine region_ph 5 (fun _ => True) (fun w' => w'.cell? ⟨w.heap.size + 1 + 1, 0, none⟩ = some (.slice none 0 0)) (by kernel_rfl) trivial c6 (fun hp => ?_)
        clear c6
        refine take_ph 39 (i := 0) rfl rfl (by decide) (by kernel_rfl) (by kernel_rfl) (by kernel_rfl) (fun _ _ _ h => h) (by rfl) (fun w hSw => by (try dsimp only at hSw); go_simp; first | done | with_reducible rfl) hp (fun hp => ?_)
        try simp only [Act.put, List.setIfInBounds_toArray, List.set_cons_zero, List.set_cons_succ]
        refine take_ph1 40 (i := 1) rfl rfl (by decide) (by rfl) (by kernel_rfl) (by kernel_rfl) (by kernel_rfl) (by kernel_rfl) (fun _ _ _ h => h) (by rfl) (fun w hSw hBw => by (try dsimp only at hSw hBw); go_simp; first | done | with_reducible rfl) hp (fun hp => ?_)
        try simp only [Act.put, List.setIfInBounds_toArray, List.set_cons_zero, List.set_cons_succ]
        refine take_ph 41 (i := 2) rfl rfl (by decide) (by kernel_rfl) (by kernel_rfl) (by kernel_rfl) (fun _ _ _ h => h) (by rfl) (fun w hSw => by (try dsimp only at hSw); go_simp; first | done | with_reducible rfl) hp (fun hp => ?_)
        try simp only [Act.put, List.setIfInBounds_toArray, List.set_cons_zero, List.set_cons_succ]
        refine AnyL.one (i := 3) (by kernel_rfl) rfl (fun K hK => ?_)
        go_simp
        refine (draw_CraneV b _ _ _ (hS.out.below d4) (by omega)).mono ?_
        rintro e w5 ⟨x1, x2, x3, x4, x5, cv, lc, rfl, hx1, hx2, hx3, hx4, hx5, hsl, hst, hln, hjb, hs5, hm5⟩
        obtain ⟨ca, cn, cc, rfl⟩ : ∃ ca cn cc, cv = .slice ca cn cc := by obtain ⟨⟨a, cap, hv, _⟩, _⟩ := hsl; exact ⟨a, _, cap, hv⟩
        have hO5 : OwnN 7 CraneR.cells CraneR.f CraneR.s 2 Chs.cells wr.heap.size 35 32 w5 (.slice none 0 0) ([] : List CraneR) ([] : SiteL) := ownN_nil (own_nil _ _ _)
        have hY6 := Lib.hid (blk_modV (w := wr.drew) hY6.out hm5 (by omega))
        have hY4 := Lib.hid (blk_modV (w := wr.drew) hY4.out hm5 (by omega))
        have hM5 := (hM.out.then d4).trans hm5
        have hz5 := hm5.size
        have hz45 : wr.drew.heap.size = wr.heap.size := rfl
        rw [hz45] at hz5 hsl
        refine hK.out _ _ (ph1 trivial ((Lib.cell_of_heap hY6.out 0).trans rfl)) (fun hp => ?_)
        clear hK hm5
        try simp only [Act.put, List.setIfInBounds_toArray, List.set_cons_zero, List.set_cons_succ]
        refine AnyL.one (i := 4) (by kernel_rfl) rfl (fun K hK => ?_)
        go_simp
        have hBl := (Below.refl w5.heap.size w5).alloc (Nat.le_refl _) (.cells #[.string ⟨#[97, 100, 97]⟩, .int .i64 x1, .int .i64 x2, .int .i64 x3, .int .i64 x4, .int .i64 x5, .slice ca cn cc] 35 (0, 0))
        refine hK.out _ _ (ph1 trivial ((Lib.cell_of_heap (nxtV hBl hY6.out) 0).trans rfl)) (fun hp => ?_)
        clear hK hBl
        try simp only [Act.put, List.setIfInBounds_toArray, List.set_cons_zero, List.set_cons_succ]
        refine AnyL.one (i := 5) (by kernel_rfl) rfl (fun K hK => ?_)
        refine step_app1 (c := CraneR.cells) (bytes := 80) rfl _ _ 24 35 rfl Try.underlying24 info_impl_Crane (by omega) CraneR.len CraneR.one wr.heap.size [] ⟨⟨⟨#[97, 100, 97]⟩, x1, x2, x3, x4, x5⟩, ⟨ca, cn, cc⟩⟩ (.slice none 0 0) rfl w5 rfl hO5.out rfl (by simp) (by simp) (by omega) ?_
        intro v' w6 hown6 hg6
        have hB6 : Below wr.heap.size w5 w6 := hO5.out.app (Below.refl _ _) (Nat.le_refl _) (by omega) hg6
        have hz6 := hB6.size
        have hY6 := Lib.hid (grown_block hO5.out hY6.out (by decide) hg6)
        have hY4 := Lib.hid (grown_block hO5.out hY4.out (by decide) hg6)
        have hS6 := hs5.lo hB6 (show b + 1 ≤ wr.heap.size by omega)
        have hM6 := hM5.onV (hB6.mono hszr)
        obtain ⟨va, vc, rfl⟩ := own_sv hown6
        have hrd := fun u => grow_read (B := wr.heap.size) (p := w.heap.size + 1 + 1) (u := u) (r := ⟨⟨⟨#[97, 100, 97]⟩, x1, x2, x3, x4, x5⟩, ⟨ca, cn, cc⟩⟩) (x := (⟨⟨#[97, 100, 97]⟩, x1, x2, x3, x4, x5⟩, lc)) TK_TC CraneR.len Chs.len hO5 (fun g hg => by cases hg) (Nat.le_refl _) rfl hsl.1 hown6 hg6 hY6.out (by decide) (by decide) (by omega)
        have hdr6 := Lib.hid ((show DrS [] from fun x hx => by simp at hx).push (x := (⟨⟨#[97, 100, 97]⟩, x1, x2, x3, x4, x5⟩, lc)) (drs_mk (by decide) (by decide) hx1 hx2 hx3 hx4 hx5 hst hln))
        have hok6 := Lib.hid (ada_ok hx1 hx2 hx3 hx4 hx5 hst hln hjb)
        have hrd := Lib.hid (hrd (.slice va 1 vc))
        refine hK.out _ _ (ph2 rfl trivial) (fun hp => ?_)
        clear hK hown6 hg6 hO5 hst hln hjb hM5 hs5 hsl
        try simp only [Act.put, List.setIfInBounds_toArray]
        refine take_ph 45 (i := 6) rfl rfl (by decide) (by kernel_rfl) (by kernel_rfl) (by kernel_rfl) (fun _ _ _ h => h) (by rfl) (fun w hSw => by (try dsimp only at hSw); go_simp; first | done | with_reducible rfl) hp (fun hp => ?_)
        try simp only [Act.put]
        refine AnyL.one (i := 7) (by kernel_rfl) rfl (fun K hK => ?_)
        have c6 := (Lib.cell_of_heap hY6.out 0).trans rfl
        have f6 := Lib.frozen_of_heap hY6.out 0
        go_simp
        have hY6 := Lib.hid (blk_onV (q := w.heap.size + 1 + 1) (j := 0) hY6.out (cs' := #[.slice va 1 vc]) (v := .slice va 1 vc) rfl)
        have hY4 := Lib.hid (blk_offV (q := w.heap.size + 1 + 1) (j := 0) hY4.out (by omega) (.slice va 1 vc))
        have hS7 := Lib.hid (src_setV (j := 0) (q := w.heap.size + 1 + 1) hS6 (by omega) (.slice va 1 vc))
        have hM7 := Lib.hid (mod_setV (j := 0) (q := w.heap.size + 1 + 1) hM6 (by omega) (.slice va 1 vc))
        have hz7 : (w6.setCell ⟨w.heap.size + 1 + 1, 0, none⟩ (.slice va 1 vc)).heap.size = w6.heap.size := by simp
        refine hK.out _ _ (ph2 rfl trivial) (fun hp => ?_)
        clear hK c6 f6 hS6 hM6
        generalize w6.setCell ⟨w.heap.size + 1 + 1, 0, none⟩ (.slice va 1 vc) = w7 at *
        refine AnyL.done (by kernel_rfl) ?_ _
        simp only [Exit.then]
        have c6 := (Lib.cell_of_heap hY6.out 0).trans rfl
        have c4 := (Lib.cell_of_heap hY4.out 0).trans rfl
        have f4 := Lib.frozen_of_heap hY4.out 0
        have hM9 := Lib.hid (mod_setV (j := 0) (q := w.heap.size) hM7.out (Nat.le_refl _) (.slice va 1 vc))
        have hS9 := Lib.hid (src_setV (j := 0) (q := w.heap.size) hS7.out (by omega) (.slice va 1 vc))
        have hCr9 := Lib.hid (NSr.keep hrd.out (fun k hk1 hk2 => Below.heap_setCell w7 ⟨w.heap.size, 0, none⟩ (.slice va 1 vc) k (show k ≠ w.heap.size by omega)))
        have c9 : (w7.setCell ⟨w.heap.size, 0, none⟩ (.slice va 1 vc)).cell? ⟨w.heap.size, 0, none⟩ = some (.slice va 1 vc) := World.cell?_setCell_same _ _ _ c4
        go_wp2_with fail
        exact bodyPost_ret (v := .agg #[.slice va 1 vc]) (by simp [results, Try.results18, go_sem, c9]) rfl ⟨⟨va, 1, vc⟩, _, _, rfl, NSr.mono hCr9.out (by omega) (by simp; omega), hok6.out, by simp, hdr6.out, hS9.out.mono (by omega), hM9.out⟩
      · have hok := Lib.hid (show siteOk L from hsite.out.resolve_left (fun e => by have := Hn.out; rw [e.1] at this; simp at this; omega))
        have c6 := (Lib.cell_of_heap hY6.out 0).trans rfl
        have c4 := (Lib.cell_of_heap hY4.out 0).trans rfl
        have f4 := Lib.frozen_of_heap hY4.out 0
        have hnn : ((n : Int) == 0) = false := by simp; omega
        have hM9 := Lib.hid (mod_setV (j := 0) (q := w.heap.size) hM.out (Nat.le_refl _) (.slice sa n sc))
        have hS9 := Lib.hid (src_setV (j := 0) (q := w.heap.size) hS.out (by omega) (.slice sa n sc))
        have hCr9 := Lib.hid (NSr.keep hcr.out (fun k hk1 hk2 => Below.heap_setCell wr ⟨w.heap.size, 0, none⟩ (.slice sa n sc) k (show k ≠ w.heap.size by omega)))
        have c9 : (wr.setCell ⟨w.heap.size, 0, none⟩ (.slice sa n sc)).cell? ⟨w.heap.size, 0, none⟩ = some (.slice sa n sc) := World.cell?_setCell_same _ _ _ c4
        go_wp2_with fail
        exact bodyPost_ret (v := .agg #[.slice sa n sc]) (by simp [results, Try.results18, go_sem, c9]) rfl ⟨⟨sa, n, sc⟩, rs, L, rfl, NSr.mono hCr9.out (by omega) (by simp), hok.out, by rw [Hn.out]; omega, hdr.out, hS9.out.mono (by omega), hM9.out⟩
def SiOut (w : World) (e : Ending) (w' : World) : Prop :=
  ∃ (s : SV) (rs : List CraneR) (L : SiteL), e = .returned (.agg #[s.v]) ∧ Cranes w.heap.size w'.heap.size w' s.v rs L ∧ siteOk L ∧ L.length ≤ 4 ∧ DrS L ∧ Below w.heap.size w w'
set_option maxRecDepth 100000 in
set_option maxHeartbeats 2000000 in
theorem draw_A2Site (v : Value) (l : List UInt8) (hi : Nat) (w : World) (h : Sl 1 byteC 0 hi w v l) (hhi : hi ≤ w.heap.size) (hl : l.length ≤ 1048576) : Calls Try.prog 5 #[v] w (SiOut w) := by
  have hb0 := (Below.refl w.heap.size w).alloc (Nat.le_refl _) (.cells #[.slice none 0 0] 26 (0, 0))
  have hX0 := blkN_new w (.cells #[.slice none 0 0] 26 (0, 0))
  have hf := Lib.hid (src_from v l hi _ (h.below hb0 hhi) (by simp; omega) hl)
  obtain ⟨a, cap, rfl, _⟩ := h
  go_enter Try.func5, Try.ntmps5
  go_wp2_with fail
  refine hf.out.mono ?_
  rintro e w1 ⟨rfl, hs1, hb1⟩
  have hX1 := nxtV hb1 hX0
  have hB1 := hb0.trans (hb1.mono (by simp))
  have hz1 := hb1.size
  simp only [World.size_alloc] at hz1
  clear hb0 hb1 hX0 hf
  go_wp2_with fail
  refine (draw_Site _ 0 w1 (by simpa using hs1) (by omega)).mono ?_
  rintro e w2 ⟨⟨sa, sl, sc⟩, rs, L, rfl, hcr, hok, hl4, hdr, hs2, hm2⟩
  have hX2 := (hm2.block w.heap.size (by omega) (by omega)).trans hX1
  have c0 := (Lib.cell_of_heap hX2 0).trans rfl
  have f0 := Lib.frozen_of_heap hX2 0
  have hCr9 := Lib.hid (NSr.keep hcr (fun k hk1 hk2 => Below.heap_setCell w2 ⟨w.heap.size, 0, none⟩ (.slice sa sl sc) k (show k ≠ w.heap.size by omega)))
  have c9 : (w2.setCell ⟨w.heap.size, 0, none⟩ (.slice sa sl sc)).cell? ⟨w.heap.size, 0, none⟩ = some (.slice sa sl sc) := World.cell?_setCell_same _ _ _ c0
  have hB2 := (hB1.trans (hm2.below (show w.heap.size ≤ w.heap.size + 1 by omega) (by omega))).setCell (p := ⟨w.heap.size, 0, none⟩) (Nat.le_refl _) (.slice sa sl sc)
  have Hok := Lib.hid hok
  have Hdr := Lib.hid hdr
  have HB := Lib.hid hB2
  have Hl4 := Lib.hid hl4
  clear hm2 hs2 hcr hX1 hX2 hok hdr hB2 hl4 hB1 hs1
  simp only [SV.v]
  go_wp2_with fail
  exact bodyPost_ret (v := .agg #[.slice sa sl sc]) (by simp [results, Try.results5, go_sem, c9]) rfl ⟨⟨sa, sl, sc⟩, rs, L, rfl, NSr.mono hCr9.out (by omega) (by simp), Hok.out, Hl4.out, Hdr.out, HB.out⟩
def PlOut (w : World) (e : Ending) (w' : World) : Prop :=
  ∃ x1 y1 x2 y2 x3 y3 : Int, e = .returned (.tuple #[.agg #[.int .i64 x1, .int .i64 y1], .agg #[.int .i64 x2, .int .i64 y2], .agg #[.int .i64 x3, .int .i64 y3]]) ∧ ((-600 ≤ x1 ∧ x1 ≤ 600) ∧ (-600 ≤ y1 ∧ y1 ≤ 600)) ∧ Below w.heap.size w w'
theorem blk_offM {b p : Nat} {w w' : World} {o : Obj} (hm : Mod b (b + 1) w w') (h : w.heap[p]? = some o) (hp : p < b ∨ b < p) : w'.heap[p]? = some o := (hm.block p (Array.getElem?_eq_some_iff.1 h).1 (by omega)).trans h
theorem blk_two {W : World} {p : Nat} {T : TypeId} {fz : Nat × Nat} {c0 c1 : Value} (h : W.heap[p]? = some (.cells #[c0, c1] T fz)) (a0 a1 : Value) : ((W.setCell ⟨p, 0, none⟩ a0).setCell ⟨p, 1, none⟩ a1).heap[p]? = some (.cells #[a0, a1] T fz) := by
  simp [World.setCell, Array.getElem?_modify, h]
theorem blk_far2 {W : World} {p k : Nat} {o : Obj} (h : W.heap[k]? = some o) (hk : k ≠ p) (a0 a1 : Value) : ((W.setCell ⟨p, 0, none⟩ a0).setCell ⟨p, 1, none⟩ a1).heap[k]? = some o := blk_offV (blk_offV h hk _) hk _
theorem below_two {B p : Nat} {W V : World} (h : Below B V W) (hp : B ≤ p) (a0 a1 : Value) : Below B V ((W.setCell ⟨p, 0, none⟩ a0).setCell ⟨p, 1, none⟩ a1) := (h.setCell (p := ⟨p, 0, none⟩) hp _).setCell (p := ⟨p, 1, none⟩) hp _
set_option maxRecDepth 100000 in
set_option maxHeartbeats 4000000 in
theorem draw_A2Places (v : Value) (l : List UInt8) (hi : Nat) (w : World) (h : Sl 1 byteC 0 hi w v l) (hhi : hi ≤ w.heap.size) (hl : l.length ≤ 1048576) : Calls Try.prog 15 #[v] w (PlOut w) := by
  obtain ⟨W0, hW0, hX2, hX3, hX4, hB0, hz0⟩ := dkx3V w (.cells #[.int .i64 0, .int .i64 0] 30 (0, 0)) (.cells #[.int .i64 0, .int .i64 0] 30 (0, 0)) (.cells #[.int .i64 0, .int .i64 0] 30 (0, 0))
  have hf := Lib.hid (src_from v l hi _ (h.below hB0 hhi) (by omega) hl)
  obtain ⟨a, cap, rfl, _⟩ := h
  go_enter Try.func15, Try.ntmps15
  go_wp2_with fail
  clear hW0
  refine hf.out.mono ?_
  rintro e w1 ⟨rfl, hs1, hb1⟩
  have hX2 := nxtV hb1 hX2
  have hX3 := nxtV hb1 hX3
  have hX4 := nxtV hb1 hX4
  have hB1 := hB0.trans (hb1.mono hB0.size)
  have hz1 := hb1.size
  clear hB0 hb1 hf
  obtain ⟨q, hq⟩ : ∃ q, W0.heap.size = q := ⟨_, rfl⟩
  rw [hq] at hs1 hz1 hz0 ⊢
  have Hz0 := Lib.hid hz0
  have hz0a : w.heap.size + 3 ≤ q := by omega
  clear hz0 hq
  go_wp2_with fail
  refine (draw_PtV _ 0 _ hs1 (by omega)).mono ?_
  rintro e w2 ⟨x1, y1, rfl, hx1, hy1, hs2, hm2⟩
  have hl2 := hs2.lt
  have hX2 := blk_offM hm2 hX2 (by omega)
  have hX3 := blk_offM hm2 hX3 (by omega)
  have hX4 := blk_offM hm2 hX4 (by omega)
  have hB2 := hB1.trans (hm2.below (show w.heap.size ≤ q by omega) (by omega))
  have hbx := (Below.refl w2.heap.size w2).alloc (Nat.le_refl _) (.cells #[.int .i64 x1, .int .i64 y1] 30 (0, 0))
  have hX6 := blkN_new w2 (.cells #[.int .i64 x1, .int .i64 y1] 30 (0, 0))
  have hX2 := nxtV hbx hX2
  have hX3 := nxtV hbx hX3
  have hX4 := nxtV hbx hX4
  have hB3 := hB2.trans (hbx.mono hB2.size)
  have hs3 := hs2.below hbx
  have hz3 : (w2.alloc (.cells #[.int .i64 x1, .int .i64 y1] 30 (0, 0))).heap.size = w2.heap.size + 1 := by simp
  clear hm2 hs2 hs1 hbx hB1 hB2
  go_wp2_with fail
  generalize w2.alloc (.cells #[.int .i64 x1, .int .i64 y1] 30 (0, 0)) = w3 at *
  refine (draw_PtV _ _ _ hs3 (by omega)).mono ?_
  rintro e w4 ⟨x2, y2, rfl, hx2, hy2, hs4, hm4⟩
  have hz4 := hm4.size
  have hX2 := blk_offM hm4 hX2 (by omega)
  have hX3 := blk_offM hm4 hX3 (by omega)
  have hX4 := blk_offM hm4 hX4 (by omega)
  have hX6 := blk_offM hm4 hX6 (by omega)
  have hB4 := hB3.trans (hm4.below (show w.heap.size ≤ q by omega) (by omega))
  have hbx := (Below.refl w4.heap.size w4).alloc (Nat.le_refl _) (.cells #[.int .i64 x2, .int .i64 y2] 30 (0, 0))
  have hX7 := blkN_new w4 (.cells #[.int .i64 x2, .int .i64 y2] 30 (0, 0))
  have hX2 := nxtV hbx hX2
  have hX3 := nxtV hbx hX3
  have hX4 := nxtV hbx hX4
  have hX6 := nxtV hbx hX6
  have hB5 := hB4.trans (hbx.mono hB4.size)
  have hs5 := hs4.below hbx
  have hz5 : (w4.alloc (.cells #[.int .i64 x2, .int .i64 y2] 30 (0, 0))).heap.size = w4.heap.size + 1 := by simp
  clear hm4 hs4 hs3 hbx hB3 hB4
  go_wp2_with fail
  generalize w4.alloc (.cells #[.int .i64 x2, .int .i64 y2] 30 (0, 0)) = w5 at *
  have d5 := (Below.refl w5.heap.size w5).drew
  refine region_ph 99 (fun w' => (w'.cell? ⟨w2.heap.size, 0, none⟩ = some (.int .i64 x1) ∧ w'.cell? ⟨w2.heap.size, 1, none⟩ = some (.int .i64 y1)) ∧ w'.cell? ⟨w4.heap.size, 0, none⟩ = some (.int .i64 x2) ∧ w'.cell? ⟨w4.heap.size, 1, none⟩ = some (.int .i64 y2)) (fun _ => True) (by kernel_rfl) ⟨⟨(Lib.cell_of_heap hX6 0).trans rfl, (Lib.cell_of_heap hX6 1).trans rfl⟩, (Lib.cell_of_heap hX7 0).trans rfl, (Lib.cell_of_heap hX7 1).trans rfl⟩ trivial (fun hp => ?_)
  refine take_ph 14 (i := 0) rfl rfl (by decide) (by kernel_rfl) (by kernel_rfl) (by kernel_rfl) (fun _ _ _ h => h) (by rfl) (fun w hSw => by (try dsimp only at hSw); go_simp; first | done | with_reducible rfl) hp (fun hp => ?_)
  try simp only [Act.put, List.setIfInBounds_toArray, List.set_cons_zero, List.set_cons_succ]
  refine take_ph 15 (i := 1) rfl rfl (by decide) (by kernel_rfl) (by kernel_rfl) (by kernel_rfl) (fun _ _ _ h => h) (by rfl) (fun w hSw => by (try dsimp only at hSw); go_simp; first | done | with_reducible rfl) hp (fun hp => ?_)
  try simp only [Act.put, List.setIfInBounds_toArray, List.set_cons_zero, List.set_cons_succ]
  refine take_ph 16 (i := 2) rfl rfl (by decide) (by kernel_rfl) (by kernel_rfl) (by kernel_rfl) (fun _ _ _ h => h) (by rfl) (fun w hSw => by (try dsimp only at hSw); go_simp; first | done | with_reducible rfl) hp (fun hp => ?_)
  try simp only [Act.put, List.setIfInBounds_toArray, List.set_cons_zero, List.set_cons_succ]
  refine AnyL.one (i := 3) (by kernel_rfl) rfl (fun K hK => ?_)
  go_simp
  refine (draw_PtV _ _ _ (hs5.below d5) (by omega)).mono ?_
  rintro e w6 ⟨x3, y3, rfl, hx3, hy3, hs6, hm6⟩
  have hz6 := hm6.size
  have hz56 : w5.drew.heap.size = w5.heap.size := rfl
  rw [hz56] at hz6
  have hX2 := blk_offM (w := w5.drew) hm6 hX2 (by omega)
  have hX3 := blk_offM (w := w5.drew) hm6 hX3 (by omega)
  have hX4 := blk_offM (w := w5.drew) hm6 hX4 (by omega)
  have hX6 := blk_offM (w := w5.drew) hm6 hX6 (by omega)
  have hX7 := blk_offM (w := w5.drew) hm6 hX7 (by omega)
  have hB6 := (hB5.trans (d5.mono hB5.size)).trans (hm6.below (show w.heap.size ≤ q by omega) (by show w.heap.size ≤ w5.heap.size; omega))
  refine hK.out _ _ (ph1 ⟨⟨(Lib.cell_of_heap hX6 0).trans rfl, (Lib.cell_of_heap hX6 1).trans rfl⟩, (Lib.cell_of_heap hX7 0).trans rfl, (Lib.cell_of_heap hX7 1).trans rfl⟩ trivial) (fun hp => ?_)
  clear hK hm6 hs6 hs5 hB5
  try simp only [Act.put, List.setIfInBounds_toArray, List.set_cons_zero, List.set_cons_succ]
  refine AnyL.one (i := 4) (by kernel_rfl) rfl (fun K hK => ?_)
  have c0 := (Lib.cell_of_heap hX2 0).trans rfl
  have c1 := (Lib.cell_of_heap hX2 1).trans rfl
  have f0 := Lib.frozen_of_heap hX2 0
  have f1 := Lib.frozen_of_heap hX2 1
  go_simp
  clear c0 c1 f0 f1
  have hX2 := blk_two hX2 (.int .i64 x1) (.int .i64 y1)
  have hX3 := blk_far2 hX3 (show w.heap.size + 1 ≠ w.heap.size by omega) (.int .i64 x1) (.int .i64 y1)
  have hX4 := blk_far2 hX4 (show w.heap.size + 1 + 1 ≠ w.heap.size by omega) (.int .i64 x1) (.int .i64 y1)
  have hX6 := blk_far2 hX6 (show w2.heap.size ≠ w.heap.size by omega) (.int .i64 x1) (.int .i64 y1)
  have hX7 := blk_far2 hX7 (show w4.heap.size ≠ w.heap.size by omega) (.int .i64 x1) (.int .i64 y1)
  have hB6 := below_two hB6 (Nat.le_refl w.heap.size) (.int .i64 x1) (.int .i64 y1)
  skip
  refine hK.out _ _ (ph1 ⟨⟨(Lib.cell_of_heap hX6 0).trans rfl, (Lib.cell_of_heap hX6 1).trans rfl⟩, (Lib.cell_of_heap hX7 0).trans rfl, (Lib.cell_of_heap hX7 1).trans rfl⟩ trivial) (fun hp => ?_)
  clear hK
  generalize ((w6).setCell ⟨w.heap.size, 0, none⟩ (.int .i64 x1)).setCell ⟨w.heap.size, 1, none⟩ (.int .i64 y1) = w7 at *
  try simp only [Act.put, List.setIfInBounds_toArray, List.set_cons_zero, List.set_cons_succ]
  refine AnyL.one (i := 5) (by kernel_rfl) rfl (fun K hK => ?_)
  have c0 := (Lib.cell_of_heap hX3 0).trans rfl
  have c1 := (Lib.cell_of_heap hX3 1).trans rfl
  have f0 := Lib.frozen_of_heap hX3 0
  have f1 := Lib.frozen_of_heap hX3 1
  go_simp
  clear c0 c1 f0 f1
  have hX2 := blk_far2 hX2 (show w.heap.size ≠ w.heap.size + 1 by omega) (.int .i64 x2) (.int .i64 y2)
  have hX3 := blk_two hX3 (.int .i64 x2) (.int .i64 y2)
  have hX4 := blk_far2 hX4 (show w.heap.size + 1 + 1 ≠ w.heap.size + 1 by omega) (.int .i64 x2) (.int .i64 y2)
  have hX6 := blk_far2 hX6 (show w2.heap.size ≠ w.heap.size + 1 by omega) (.int .i64 x2) (.int .i64 y2)
  have hX7 := blk_far2 hX7 (show w4.heap.size ≠ w.heap.size + 1 by omega) (.int .i64 x2) (.int .i64 y2)
  have hB6 := below_two hB6 (show w.heap.size ≤ w.heap.size + 1 by omega) (.int .i64 x2) (.int .i64 y2)
  skip
  refine hK.out _ _ (ph1 ⟨⟨(Lib.cell_of_heap hX6 0).trans rfl, (Lib.cell_of_heap hX6 1).trans rfl⟩, (Lib.cell_of_heap hX7 0).trans rfl, (Lib.cell_of_heap hX7 1).trans rfl⟩ trivial) (fun hp => ?_)
  clear hK
  generalize ((w7).setCell ⟨w.heap.size + 1, 0, none⟩ (.int .i64 x2)).setCell ⟨w.heap.size + 1, 1, none⟩ (.int .i64 y2) = w8 at *
  try simp only [Act.put, List.setIfInBounds_toArray, List.set_cons_zero, List.set_cons_succ]
  refine AnyL.one (i := 6) (by kernel_rfl) rfl (fun K hK => ?_)
  have c0 := (Lib.cell_of_heap hX4 0).trans rfl
  have c1 := (Lib.cell_of_heap hX4 1).trans rfl
  have f0 := Lib.frozen_of_heap hX4 0
  have f1 := Lib.frozen_of_heap hX4 1
  go_simp
  clear c0 c1 f0 f1
  have hX2 := blk_far2 hX2 (show w.heap.size ≠ w.heap.size + 1 + 1 by omega) (.int .i64 x3) (.int .i64 y3)
  have hX3 := blk_far2 hX3 (show w.heap.size + 1 ≠ w.heap.size + 1 + 1 by omega) (.int .i64 x3) (.int .i64 y3)
  have hX4 := blk_two hX4 (.int .i64 x3) (.int .i64 y3)
  have hX6 := blk_far2 hX6 (show w2.heap.size ≠ w.heap.size + 1 + 1 by omega) (.int .i64 x3) (.int .i64 y3)
  have hX7 := blk_far2 hX7 (show w4.heap.size ≠ w.heap.size + 1 + 1 by omega) (.int .i64 x3) (.int .i64 y3)
  have hB6 := below_two hB6 (show w.heap.size ≤ w.heap.size + 1 + 1 by omega) (.int .i64 x3) (.int .i64 y3)
  skip
  refine hK.out _ _ (ph1 ⟨⟨(Lib.cell_of_heap hX6 0).trans rfl, (Lib.cell_of_heap hX6 1).trans rfl⟩, (Lib.cell_of_heap hX7 0).trans rfl, (Lib.cell_of_heap hX7 1).trans rfl⟩ trivial) (fun hp => ?_)
  clear hK
  generalize ((w8).setCell ⟨w.heap.size + 1 + 1, 0, none⟩ (.int .i64 x3)).setCell ⟨w.heap.size + 1 + 1, 1, none⟩ (.int .i64 y3) = w9 at *
  try simp only [Act.put, List.setIfInBounds_toArray, List.set_cons_zero, List.set_cons_succ]
  refine AnyL.done (by kernel_rfl) ?_ _
  simp only [Exit.then]
  have r0 := (Lib.cell_of_heap hX2 0).trans rfl
  have r1 := (Lib.cell_of_heap hX2 1).trans rfl
  have r2 := (Lib.cell_of_heap hX3 0).trans rfl
  have r3 := (Lib.cell_of_heap hX3 1).trans rfl
  have r4 := (Lib.cell_of_heap hX4 0).trans rfl
  have r5 := (Lib.cell_of_heap hX4 1).trans rfl
  go_wp2_with fail
  exact bodyPost_ret (v := .tuple #[.agg #[.int .i64 x1, .int .i64 y1], .agg #[.int .i64 x2, .int .i64 y2], .agg #[.int .i64 x3, .int .i64 y3]]) (by simp [results, Try.results15, go_sem, r0, r1, r2, r3, r4, r5]) rfl ⟨x1, y1, x2, y2, x3, y3, rfl, ⟨hx1, hy1⟩, hB6⟩
end Go.Proofs.Ytejicefmbodpdaa
