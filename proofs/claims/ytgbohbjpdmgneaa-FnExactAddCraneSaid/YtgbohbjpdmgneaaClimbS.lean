/- Climbs made in a site, the reference. -/
import Derived.Test.YtgbohbjpdmgneaaClimbD
import Derived.Test.YtgbohbjpdmgneaaCpy
namespace Go.Proofs.Ytgbohbjpdmgneaa
open Go.RowKit
/-- A box of one cell. -/
structure Cb (p : Nat) (w : World) (v : Value) : Prop where
  c : w.cell? ⟨p, 0, none⟩ = some v
  f : ∀ j, w.frozen? ⟨p, j, none⟩ = false
theorem Cb.below {p B : Nat} {w w' : World} {v : Value} (h : Cb p w v) (hb : Below B w w') (hp : p < B) : Cb p w' v := ⟨(hb.cell (p := ⟨p, 0, none⟩) hp).trans h.c, fun j => (hb.frozen (p := ⟨p, j, none⟩) hp).trans (h.f j)⟩
theorem Cb.lt {p : Nat} {w : World} {v : Value} (h : Cb p w v) : p < w.heap.size := World.block_lt_of_cell? w _ h.c
theorem Cb.ext {p : Nat} {w w' : World} {v : Value} (h : Cb p w v) (hb : Below w.heap.size w w') : Cb p w' v := h.below hb h.lt
theorem Cb.mod {p lo hi : Nat} {w w' : World} {v : Value} (h : Cb p w v) (hm : Mod lo hi w w') (hp : p < lo ∨ hi ≤ p) : Cb p w' v :=
  ⟨(World.cell?_of_block (hm.block p h.lt hp)).trans h.c, fun j => (World.frozen?_of_block (a := ⟨p, j, none⟩) (hm.block p h.lt hp)).trans (h.f j)⟩
theorem Cb.new (w : World) (v : Value) (t : TypeId) : Cb w.heap.size (w.alloc (.cells #[v] t)) v := ⟨(Lib.cell_of_heap (blkN_new _ _) 0).trans rfl, fun j => Lib.frozen_of_heap (blkN_new _ _) j⟩
theorem Cb.put {p : Nat} {w : World} {v : Value} (h : Cb p w v) (u : Value) : Cb p (w.setCell ⟨p, 0, none⟩ u) u := ⟨World.cell?_setCell_same _ _ _ h.c, fun j => by rw [World.frozen?_setCell]; exact h.f j⟩
theorem Cb.far {p q : Nat} {w : World} {v : Value} (h : Cb p w v) (u : Value) (hq : q ≠ p) : Cb p (w.setCell ⟨q, 0, none⟩ u) v := ⟨(World.cell?_setCell_far _ _ _ _ hq).trans h.c, fun j => by rw [World.frozen?_setCell]; exact h.f j⟩

def runC : SiteL → Int → List Clb → Option SiteL
  | L, _, [] => some L
  | L, s, c :: r => match doC L s c with
    | none => none
    | some L' => runC L' s r
theorem runC_none {L : SiteL} {s : Int} {cl : List Clb} {k : Nat} (h : k < cl.length) (hd : doC L s cl[k] = none) : runC L s (cl.drop k) = none := by
  rw [List.drop_eq_getElem_cons h, runC, hd]
theorem runC_some {L L' : SiteL} {s : Int} {cl : List Clb} {k : Nat} (h : k < cl.length) (hd : doC L s cl[k] = some L') : runC L s (cl.drop k) = runC L' s (cl.drop (k + 1)) := by
  rw [List.drop_eq_getElem_cons h, runC, hd]
theorem runC_end {L : SiteL} {s : Int} {cl : List Clb} : runC L s (cl.drop cl.length) = some L := by rw [List.drop_length, runC]
theorem htsOk_of {L : SiteL} (h : siteOk L) : htsOk L := fun i hi => (h.1 i hi).1.2.2.1
def RunCRes (L : SiteL) (sec : Int) (cl : List Clb) (w : World) (e : Ending) (w' : World) : Prop :=
  ∃ (s : SV) (rs : List CraneR) (P : SiteL) (b : Bool), e = .returned (.tuple #[.agg #[s.v], .bool b]) ∧ CraneW w.heap.size w'.heap.size w' s.v rs P ∧ Below w.heap.size w w' ∧ ((b = true ∧ runC L sec cl = some P) ∨ (b = false ∧ runC L sec cl = none ∧ P = []))
set_option maxRecDepth 100000 in
set_option maxHeartbeats 8000000 in
theorem spec_RunC (p : Nat) (s : SV) (rs : List CraneR) (L : SiteL) (lo hi : Nat) (cv : Value) (cl : List Clb) (lo2 hi2 : Nat) (sec : Int) (w : World) (hp : w.cell? ⟨p, 0, none⟩ = some s.v) (h : Cranes lo hi w s.v rs L) (hok : siteOk L) (hcl : Clbs lo2 hi2 w cv cl) (hco : clOk cl) (hsec : 1 ≤ sec ∧ sec ≤ 100) :
    Calls Try.prog 123 #[.pointer (some ⟨p, 0, none⟩), .int .i64 sec, cv] w (RunCRes L sec cl w) := by
  have hpl := World.block_lt_of_cell? w _ hp
  have hba : Below w.heap.size w (w.alloc (.cells #[.slice none 0 0] 37)) := (Below.refl _ _).alloc (Nat.le_refl _) _
  have hC := Lib.hid (spec_Copy p s.v rs L lo hi (w.alloc (.cells #[.slice none 0 0] 37)) ((hba.cell (p := ⟨p, 0, none⟩) hpl).trans hp) (h.ext hba) hok)
  have hx0 := Lib.hid (Cb.new w (.slice none 0 0) 37)
  have Hcl := Lib.hid hcl
  have hht := Lib.hid (htsOk_of hok)
  have Hco := Lib.hid hco
  have hc60 := hco.2
  have Hsec := Lib.hid hsec
  obtain ⟨ca, ccap, rfl, hccap, -⟩ := hcl
  clear h hp hok hco hsec
  go_enter Try.func123, Try.ntmps123
  go_wp2_with fail
  refine hC.out.mono ?_
  rintro e w1 ⟨⟨sa, sl, sc⟩, rk, rfl, hO, hb1⟩
  have hN1 : Hid (CraneW (w.heap.size + 1) w1.heap.size w1 (.slice sa sl sc) rk L) := Lib.hid (by simpa [SV.v] using hO.w CraneR.len Chs.len TK_TC)
  have B1 := hba.trans (hb1.mono hba.size)
  have hs1 : w.heap.size + 1 ≤ w1.heap.size := by simpa using hb1.size
  have hx1 := Lib.hid (hx0.out.ext hb1)
  simp only [SV.v]
  have hal : Below w1.heap.size w1 (w1.alloc (.cells #[.slice sa sl sc] 37)) := (Below.refl _ _).alloc (Nat.le_refl _) _
  have hx2 := Lib.hid (hx1.out.ext hal)
  have hy2 := Lib.hid (Cb.new w1 (.slice sa sl sc) 37)
  have hN2 := Lib.hid (hN1.out.ext (Nat.le_refl _) hal)
  have B2 := B1.trans (hal.mono B1.size)
  clear hO hb1 hN1 hx0 hx1 hC hba
  generalize hHI : w1.heap.size = hi1 at *
  have hsz2 : hi1 + 1 ≤ (w1.alloc (.cells #[.slice sa sl sc] 37)).heap.size := by simp [hHI]
  clear hal B1
  go_wp2
  go_loopw [9] (fun i wr => ∃ (k : Nat) (rk : List CraneR) (Lk : SiteL), k ≤ cl.length ∧ i = .int .i64 k ∧ Below w.heap.size w wr ∧ hi1 + 1 ≤ wr.heap.size ∧ Hid (Cb w.heap.size wr (.slice none 0 0)) ∧ Hid (Cb hi1 wr (.slice sa sl sc)) ∧ Hid (CraneW (w.heap.size + 1) hi1 wr (.slice sa sl sc) rk Lk) ∧ Hid (runC L sec cl = runC Lk sec (cl.drop k)) ∧ Hid (htsOk Lk)) (fun i _ => cl.length - (intOf i).toNat)
  case atStart => exact ⟨0, rk, L, Nat.zero_le _, rfl, B2, hsz2, hx2, hy2, hN2, Lib.hid rfl, hht⟩
  case round =>
    clear hx2 hy2 hN2 hht B2 hsz2 hHI
    obtain ⟨k, rk, Lk, hk, rfl, hB, hsz, hx, hy, hN, hrun, hht⟩ := hrel
    have cx := hx.out.c
    have cy := hy.out.c
    have fx := hx.out.f
    by_cases hlt : k < cl.length
    · have hcr := Hcl.out.ext hB
      obtain ⟨b, off, rfl⟩ := hcr.addr (by omega)
      obtain ⟨c0, c1⟩ := Clbs.at hcr.get hlt
      have hb0 : b < w.heap.size := World.block_lt_of_cell? w _ (Clbs.at Hcl.out.get hlt).1
      have hD := Lib.hid (spec_Do hi1 b (off + k * 2) ⟨sa, sl, sc⟩ rk Lk (w.heap.size + 1) hi1 sec cl[k] wr hN.out (by omega) cy (.inr (Nat.le_refl _)) c0 c1 (.inl (by omega)) (Hco.out.1 k hlt) Hsec.out hht.out)
      have Hno := Lib.hid (fun (h : doC Lk sec cl[k] = none) => runC_none hlt h)
      have Hyes := Lib.hid (fun L2 (h : doC Lk sec cl[k] = some L2) => runC_some hlt h)
      have Hht2 := Lib.hid (fun L2 (h : doC Lk sec cl[k] = some L2) => (doC_hts hht.out h).1)
      clear hcr c0 c1
      generalize cl[k] = c at *
      go_wp2_with fail
      refine hD.out.mono ?_
      rintro e w2 ⟨hm, ⟨rfl, hd⟩ | ⟨rk2, L2, rfl, hd, hN2⟩⟩
      · have hx2 := Lib.hid (hx.out.mod hm (.inl (by omega)))
        have cx2 := hx2.out.c
        have fx2 := hx2.out.f
        have Hd := Lib.hid (hrun.out.trans (Hno.out hd))
        have B2 := hB.trans (hm.below (Nat.le_succ _) (by omega))
        clear hd hm
        go_wp2
        exact bodyPost_ret (v := .tuple #[.agg #[.slice none 0 0], .bool false]) (by simp [results, Try.results123, go_sem, cx2]) rfl ⟨⟨none, 0, 0⟩, [], [], false, rfl, nsw_nil, B2.setCell (p := ⟨w.heap.size, 0, none⟩) (Nat.le_refl _) _, .inr ⟨rfl, Hd.out, rfl⟩⟩
      · have hx2 := Lib.hid (hx.out.mod hm (.inl (by omega)))
        have hy2 := Lib.hid (hy.out.mod hm (.inr (Nat.le_refl _)))
        have Hd := Lib.hid (hrun.out.trans (Hyes.out L2 hd))
        have Hht := Lib.hid (Hht2.out L2 hd)
        have HN2 := Lib.hid hN2
        have B2 := hB.trans (hm.below (Nat.le_succ _) (by omega))
        have hsz2 := Nat.le_trans hsz hm.size
        clear hd hm hN2
        go_wp2
        go_roundw
        case rel => exact ⟨k + 1, rk2, L2, by omega, by go_num, B2, hsz2, hx2, hy2, HN2, Hd, Hht⟩
        case measure => simp [intOf]; omega
    · have hkk : k = cl.length := by omega
      subst hkk
      have Hd := Lib.hid (hrun.out.trans runC_end)
      have hN3 := Lib.hid ((hN.out.keep ((show Mod w.heap.size (w.heap.size + 1) wr (wr.setCell ⟨w.heap.size, 0, none⟩ (.slice sa sl sc)) from (Mod.refl _ _ _).setCell (p := ⟨w.heap.size, 0, none⟩) (Nat.le_refl _) (Nat.lt_succ_self _) _).same (by omega) (.inr (Nat.le_refl _)))).widen (lo' := w.heap.size) (hi' := (wr.setCell ⟨w.heap.size, 0, none⟩ (.slice sa sl sc)).heap.size) (Nat.le_succ _) (by simp; omega))
      go_wp2
      exact bodyPost_ret (v := .tuple #[.agg #[.slice sa sl sc], .bool true]) (by simp [results, Try.results123, go_sem, cx]) rfl ⟨⟨sa, sl, sc⟩, rk, Lk, true, rfl, hN3.out, hB.setCell (p := ⟨w.heap.size, 0, none⟩) (Nat.le_refl _) _, .inl ⟨rfl, Hd.out⟩⟩
end Go.Proofs.Ytgbohbjpdmgneaa
