/- One climb made, in both packages. -/
import Derived.Test.YtgbohbjpdmgneaaClimb
import Derived.Test.YtgbohbjpdmgneaaNM
import Derived.Test.YtgbohbjpdmgneaaSiteV
import Derived.Test.YtgbohbjpdmgneaaCln
namespace Go.Proofs.Ytgbohbjpdmgneaa
open Go.RowKit
def liftH (f : CraneF) (h : Int) : CraneF := { f with height := h }
def doC (L : SiteL) (sec : Int) (c : Clb) : Option SiteL := match L[c.crane.toNat]? with
  | none => none
  | some x => if 1 ≤ x.1.height + sec * c.sections ∧ x.1.height + sec * c.sections ≤ 2000 then some (L.set c.crane.toNat (liftH x.1 (x.1.height + sec * c.sections), x.2)) else none
theorem doC_out {L : SiteL} {sec : Int} {c : Clb} (h : ¬ c.crane.toNat < L.length) : doC L sec c = none := by unfold doC; rw [List.getElem?_eq_none (by omega)]
theorem doC_no {L : SiteL} {sec : Int} {c : Clb} (h : c.crane.toNat < L.length) (h2 : ¬ (1 ≤ L[c.crane.toNat].1.height + sec * c.sections ∧ L[c.crane.toNat].1.height + sec * c.sections ≤ 2000)) : doC L sec c = none := by
  unfold doC; rw [List.getElem?_eq_getElem h]; exact if_neg h2
theorem doC_yes {L : SiteL} {sec : Int} {c : Clb} (h : c.crane.toNat < L.length) (h2 : 1 ≤ L[c.crane.toNat].1.height + sec * c.sections ∧ L[c.crane.toNat].1.height + sec * c.sections ≤ 2000) : doC L sec c = some (L.set c.crane.toNat (liftH L[c.crane.toNat].1 (L[c.crane.toNat].1.height + sec * c.sections), L[c.crane.toNat].2)) := by
  unfold doC; rw [List.getElem?_eq_getElem h]; exact if_pos h2
def htsOk (L : SiteL) : Prop := ∀ i (h : i < L.length), 1 ≤ L[i].1.height ∧ L[i].1.height ≤ 2000
theorem mulB {a s : Int} (h1 : 1 ≤ a) (h2 : a ≤ 100) (h3 : -100 ≤ s) (h4 : s ≤ 100) : -10000 ≤ a * s ∧ a * s ≤ 10000 := by
  have k1 := Int.mul_le_mul_of_nonneg_left h4 (show 0 ≤ a by omega)
  have k2 := Int.mul_le_mul_of_nonneg_left h3 (show 0 ≤ a by omega)
  omega
theorem doC_hts {L L' : SiteL} {sec : Int} {c : Clb} (h : htsOk L) (hd : doC L sec c = some L') : htsOk L' ∧ L'.length = L.length := by
  by_cases hi : c.crane.toNat < L.length
  · by_cases h2 : 1 ≤ L[c.crane.toNat].1.height + sec * c.sections ∧ L[c.crane.toNat].1.height + sec * c.sections ≤ 2000
    · rw [doC_yes hi h2] at hd
      cases hd
      refine ⟨fun i hi2 => ?_, List.length_set⟩
      rw [List.getElem_set]
      split
      · exact h2
      · exact h i (by simpa using hi2)
    · rw [doC_no hi h2] at hd; cases hd
  · rw [doC_out hi] at hd; cases hd
/-- What making a climb does: the world turns in the site's memory alone. -/
def DoRes (lo hi : Nat) (v : Value) (L : SiteL) (sec : Int) (c : Clb) (w : World) (e : Ending) (w' : World) : Prop :=
  Mod lo hi w w' ∧ ((e = .returned (.bool false) ∧ doC L sec c = none) ∨ (∃ rs' L', e = .returned (.bool true) ∧ doC L sec c = some L' ∧ CraneW lo hi w' v rs' L'))
set_option maxRecDepth 100000 in
set_option maxHeartbeats 4000000 in
theorem spec_Do (p q oq : Nat) (s : SV) (rs : List CraneR) (L : SiteL) (lo hi : Nat) (sec : Int) (c : Clb) (w : World) (h : CraneW lo hi w s.v rs L) (hhi : hi ≤ w.heap.size) (hp : w.cell? ⟨p, 0, none⟩ = some s.v) (hpo : p < lo ∨ hi ≤ p)
    (c0 : w.cell? ⟨q, oq, none⟩ = some (.int .i64 c.crane)) (c1 : w.cell? ⟨q, oq + 1, none⟩ = some (.int .i64 c.sections)) (hqo : q < lo ∨ hi ≤ q) (hc : c.ok) (hsec : 1 ≤ sec ∧ sec ≤ 100) (hht : htsOk L) :
    Calls Try.prog 169 #[.pointer (some ⟨p, 0, none⟩), .int .i64 sec, .pointer (some ⟨q, oq, none⟩)] w (DoRes lo hi s.v L sec c w) := by
  obtain ⟨sa, sl, sc⟩ := s
  simp only [SV.v] at h hp ⊢
  obtain ⟨rfl, hcp⟩ : sl = L.length ∧ sc ≤ 9223372036854775807 := by obtain ⟨a, cap, hv, hcp, _⟩ := h.out.1; cases hv; exact ⟨h.len, hcp.2⟩
  obtain ⟨⟨hc1, hc2⟩, -, ⟨hc3, hc4⟩⟩ := hc
  obtain ⟨hs1, hs2⟩ := hsec
  obtain ⟨hm1, hm2⟩ := mulB hs1 hs2 hc3 hc4
  obtain ⟨ci, hci⟩ := Int.eq_ofNat_of_zero_le hc1
  have hdo1 := fun (h : ¬ ci < L.length) => doC_out (L := L) (sec := sec) (c := c) (by rw [hci]; exact h)
  have hdo2 := fun (h : ci < L.length) h2 => doC_no (L := L) (sec := sec) (c := c) (by rw [hci]; exact h) h2
  have hdo3 := fun (h : ci < L.length) h2 => doC_yes (L := L) (sec := sec) (c := c) (by rw [hci]; exact h) h2
  simp only [hci, Int.toNat_natCast] at hdo2 hdo3
  rw [hci] at c0
  have hw1 : IntKind.i64.wrap (sec * c.sections) = sec * c.sections := IntWalk.i64_in _ (by omega)
  unfold DoRes
  generalize doC L sec c = D at *
  generalize hmm : sec * c.sections = mm at *
  by_cases hlt : ci < L.length
  · have hge : decide ((L.length : Int) ≤ (ci : Int)) = false := decide_eq_false (by omega)
    have hrl : ci < rs.length := by rw [h.len]; exact hlt
    obtain ⟨b, off, cap', hv, hcp2, hraw⟩ := Raw.of h.out CraneR.len (by omega)
    rw [h.len] at hv
    cases hv
    have hk := hraw.cell ci (by simpa using hrl) 3 (.int .i64 L[ci].1.height) (by rw [List.getElem_map]; have := (h.r.one hlt hrl).1; rw [← this]; rfl)
    have hfz := hraw.free
    have hput := Lib.hid (fun (W : World) (hW : W.heap = w.heap) (u : Int) => (show CraneW lo hi W _ rs L from h.keep (fun _ _ _ => by rw [hW])).put CraneR.len (by rw [hW]; exact hhi) hlt hrl (j := 3) (by omega) (u := .int .i64 u) (r' := ⟨liftH rs[ci].f u, rs[ci].s⟩) rfl rfl)
    have hfl := Lib.hid ((h.r.one hlt hrl).1)
    obtain ⟨hx1, hx2⟩ := hht ci hlt
    have hdo2 := hdo2 hlt
    have hdo3 := hdo3 hlt
    have hcl : (ci : Int) < (L.length : Int) := by omega
    have hpb : p ≠ b := by have := hraw.lo; have := hraw.hi; omega
    have hqb : q ≠ b := by have := hraw.lo; have := hraw.hi; omega
    have hz := Lib.hid (And.intro hraw.lo hraw.hi)
    clear hdo1 hraw h hht
    by_cases hin : 1 ≤ L[ci].1.height + mm ∧ L[ci].1.height + mm ≤ 2000
    · have Hd := Lib.hid (hdo3 hin)
      clear hdo2 hdo3
      generalize L[ci].1.height = hh at *
      rw [← hfl.out] at Hd
      have hw2 : IntKind.i64.wrap (hh + mm) = hh + mm := IntWalk.i64_in _ (by omega)
      obtain ⟨_, _⟩ := hin
      go_enter Try.func169, Try.ntmps169
      go_wp2_with fail
      go_quiet (fail)
      go_wp2_with fail
      go_quiet (fail)
      go_wp2_with (go_at_call 140; first | (refine (spec_In_t _ _ _ _ (by omega) (by omega)).mono ?_; rintro e w' ⟨rfl, rfl⟩) | (refine (spec_In_f _ _ _ _ (by omega)).mono ?_; rintro e w' ⟨rfl, rfl⟩))
      go_region_held3 (fun w' => w'.cell? ⟨p, 0, none⟩ = some (.slice (some ⟨b, off, none⟩) L.length sc) ∧ w'.cell? ⟨q, oq, none⟩ = some (.int .i64 ci)) (first | go_keep | exact ⟨(World.cell?_setCell_far _ _ _ _ (Ne.symm hpb)).trans hp, (World.cell?_setCell_far _ _ _ _ (Ne.symm hqb)).trans c0⟩) (fail)
      go_wp2
      go_ret
      obtain ⟨hN, _, _⟩ := hput.out (w.drewN _) rfl (hh + mm)
      exact ⟨(show Mod lo hi w (w.drewN _) from (by repeat (first | exact Mod.refl _ _ _ | refine Mod.drewN ?_ _))).setCell hz.out.1 hz.out.2 _, .inr ⟨_, _, rfl, Hd.out, hN⟩⟩
    · have Hd := Lib.hid (hdo2 hin)
      clear hdo2 hdo3
      generalize L[ci].1.height = hh at *
      have hw2 : IntKind.i64.wrap (hh + mm) = hh + mm := IntWalk.i64_in _ (by omega)
      go_enter Try.func169, Try.ntmps169
      go_wp2_with fail
      go_quiet (fail)
      go_wp2_with fail
      go_quiet (fail)
      go_wp2_with (go_at_call 140; first | (refine (spec_In_t _ _ _ _ (by omega) (by omega)).mono ?_; rintro e w' ⟨rfl, rfl⟩) | (refine (spec_In_f _ _ _ _ (by omega)).mono ?_; rintro e w' ⟨rfl, rfl⟩))
      go_ret
      exact ⟨(by repeat (first | exact Mod.refl _ _ _ | refine Mod.drewN ?_ _)), .inl ⟨rfl, Hd.out⟩⟩
  · have hge : decide ((L.length : Int) ≤ (ci : Int)) = true := decide_eq_true (by omega)
    have Hd := Lib.hid (hdo1 hlt)
    clear hdo1 hdo2 hdo3 h
    go_enter Try.func169, Try.ntmps169
    go_wp2_with fail
    go_quiet (fail)
    go_wp2
    go_ret
    exact ⟨(by repeat (first | exact Mod.refl _ _ _ | refine Mod.drewN ?_ _)), .inl ⟨rfl, Hd.out⟩⟩
theorem impl_index_t (n m : Int) (w : World) (h : 0 ≤ n) (h2 : n < m) (h3 : m ≤ 1048576) : Calls Try.prog 149 #[.int .i64 n, .int .i64 m] w fun e w' => e = .returned (.bool true) ∧ w = w' := by
  go_enter Try.func149, Try.ntmps149
  go_wp2_with (go_at_call 125; refine (impl_within_t _ _ _ _ (by omega) (by omega)).mono ?_; rintro e w' ⟨rfl, rfl⟩)
  go_ret; exact ⟨rfl, rfl⟩
theorem impl_index_f (n m : Int) (w : World) (h : ¬ (0 ≤ n ∧ n < m)) (h3 : 0 ≤ m ∧ m ≤ 1048576) : Calls Try.prog 149 #[.int .i64 n, .int .i64 m] w fun e w' => e = .returned (.bool false) ∧ w = w' := by
  go_enter Try.func149, Try.ntmps149
  go_wp2_with (go_at_call 125; refine (impl_within_f _ _ _ _ (by omega)).mono ?_; rintro e w' ⟨rfl, rfl⟩)
  go_ret; exact ⟨rfl, rfl⟩
set_option maxRecDepth 100000 in
set_option maxHeartbeats 4000000 in
theorem impl_Do (s : SV) (rs : List CraneR) (L : SiteL) (lo hi : Nat) (sec : Int) (c : Clb) (w : World) (h : CraneW lo hi w s.v rs L) (hhi : hi ≤ w.heap.size) (hc : c.ok) (hsec : 1 ≤ sec ∧ sec ≤ 100) (hht : htsOk L) (hl : L.length ≤ 6) :
    Calls Try.prog 126 #[.agg #[s.v], .int .i64 sec, .agg c.cells.toArray] w (DoRes lo hi s.v L sec c w) := by
  obtain ⟨sa, sl, sc⟩ := s
  simp only [SV.v] at h ⊢
  obtain ⟨rfl, hcp⟩ : sl = L.length ∧ sc ≤ 9223372036854775807 := by obtain ⟨a, cap, hv, hcp, _⟩ := h.out.1; cases hv; exact ⟨h.len, hcp.2⟩
  obtain ⟨⟨hc1, hc2⟩, -, ⟨hc3, hc4⟩⟩ := hc
  obtain ⟨hs1, hs2⟩ := hsec
  obtain ⟨hm1, hm2⟩ := mulB hs1 hs2 hc3 hc4
  obtain ⟨x0, x1⟩ := c
  simp only [Clb.cells] at *
  obtain ⟨ci, hci⟩ := Int.eq_ofNat_of_zero_le hc1
  subst hci
  have hdo1 := fun (h : ¬ ci < L.length) => doC_out (L := L) (sec := sec) (c := ⟨ci, x1⟩) h
  have hdo2 := fun (h : ci < L.length) h2 => doC_no (L := L) (sec := sec) (c := ⟨ci, x1⟩) h h2
  have hdo3 := fun (h : ci < L.length) h2 => doC_yes (L := L) (sec := sec) (c := ⟨ci, x1⟩) h h2
  simp only [Int.toNat_natCast] at hdo2 hdo3
  unfold DoRes
  have hmm' := Int.mul_comm x1 sec
  generalize doC L sec ⟨ci, x1⟩ = D at *
  generalize sec * x1 = mm at *
  have hw1 : IntKind.i64.wrap mm = mm := IntWalk.i64_in _ (by omega)
  by_cases hlt : ci < L.length
  · have hrl : ci < rs.length := by rw [h.len]; exact hlt
    obtain ⟨b, off, cap', hv, hcp2, hraw⟩ := Raw.of h.out CraneR.len (by omega)
    rw [h.len] at hv
    cases hv
    have hbw : b < w.heap.size := Nat.lt_of_lt_of_le hraw.hi hhi
    have hba : Below w.heap.size w ((w.alloc (.cells #[.slice (some ⟨b, off, none⟩) L.length sc] 37)).alloc (.cells #[.int .i64 ci, .int .i64 x1] 163)) := ((Below.refl _ _).alloc (Nat.le_refl _) _).alloc (by simp) _
    have hk0 := hraw.cell ci (by simpa using hrl) 3 (.int .i64 L[ci].1.height) (by rw [List.getElem_map]; have := (h.r.one hlt hrl).1; rw [← this]; rfl)
    have hk := (hba.cell (p := ⟨b, off + ci * 7 + 3, none⟩) hbw).trans hk0
    have hfz : ∀ j, (((w.alloc (.cells #[.slice (some ⟨b, off, none⟩) L.length sc] 37)).alloc (.cells #[.int .i64 ci, .int .i64 x1] 163))).frozen? ⟨b, j, none⟩ = false := fun j => (hba.frozen (p := ⟨b, j, none⟩) hbw).trans (hraw.free j)
    have hput := Lib.hid (fun (W : World) (hW : W.heap = (((w.alloc (.cells #[.slice (some ⟨b, off, none⟩) L.length sc] 37)).alloc (.cells #[.int .i64 ci, .int .i64 x1] 163))).heap) (u : Int) => (show CraneW lo hi W _ rs L from (h.ext hhi hba).keep (fun _ _ _ => by rw [hW])).put CraneR.len (by rw [hW]; exact Nat.le_trans hhi hba.size) hlt hrl (j := 3) (by omega) (u := .int .i64 u) (r' := ⟨liftH rs[ci].f u, rs[ci].s⟩) rfl rfl)
    have hfl := Lib.hid ((h.r.one hlt hrl).1)
    obtain ⟨hx1, hx2⟩ := hht ci hlt
    have hdo2 := hdo2 hlt
    have hdo3 := hdo3 hlt
    have hcl : (ci : Int) < (L.length : Int) := by omega
    have hz := Lib.hid (And.intro hraw.lo hraw.hi)
    have hmd := Lib.hid (show Mod lo hi w ((w.alloc (.cells #[.slice (some ⟨b, off, none⟩) L.length sc] 37)).alloc (.cells #[.int .i64 ci, .int .i64 x1] 163)) from Mod.of_below hba)
    have g0 : (((w.alloc (.cells #[.slice (some ⟨b, off, none⟩) L.length sc] 37)).alloc (.cells #[.int .i64 ci, .int .i64 x1] 163))).cell? ⟨w.heap.size + 1, 0, none⟩ = some (.int .i64 ci) := (Lib.cell_of_heap (show (((w.alloc (.cells #[.slice (some ⟨b, off, none⟩) L.length sc] 37)).alloc (.cells #[.int .i64 ci, .int .i64 x1] 163))).heap[w.heap.size + 1]? = _ by rw [show w.heap.size + 1 = (w.alloc (.cells #[.slice (some ⟨b, off, none⟩) L.length sc] 37)).heap.size from by simp]; exact blkN_new _ _) 0).trans rfl
    have g1 : (((w.alloc (.cells #[.slice (some ⟨b, off, none⟩) L.length sc] 37)).alloc (.cells #[.int .i64 ci, .int .i64 x1] 163))).cell? ⟨w.heap.size + 1, 1, none⟩ = some (.int .i64 x1) := (Lib.cell_of_heap (show (((w.alloc (.cells #[.slice (some ⟨b, off, none⟩) L.length sc] 37)).alloc (.cells #[.int .i64 ci, .int .i64 x1] 163))).heap[w.heap.size + 1]? = _ by rw [show w.heap.size + 1 = (w.alloc (.cells #[.slice (some ⟨b, off, none⟩) L.length sc] 37)).heap.size from by simp]; exact blkN_new _ _) 1).trans rfl
    have g2 : (((w.alloc (.cells #[.slice (some ⟨b, off, none⟩) L.length sc] 37)).alloc (.cells #[.int .i64 ci, .int .i64 x1] 163))).cell? ⟨w.heap.size, 0, none⟩ = some (.slice (some ⟨b, off, none⟩) L.length sc) := (Lib.cell_of_heap (blkN_below ((Below.refl _ _).alloc (Nat.le_refl _) _) (blkN_new w _)) 0).trans rfl
    clear hdo1 hraw h hht hba hk0
    by_cases hin : 1 ≤ L[ci].1.height + mm ∧ L[ci].1.height + mm ≤ 2000
    · have Hd := Lib.hid (hdo3 hin)
      clear hdo2 hdo3
      generalize L[ci].1.height = hh at *
      rw [← hfl.out] at Hd
      have hw2 : IntKind.i64.wrap (hh + mm) = hh + mm := IntWalk.i64_in _ (by omega)
      obtain ⟨_, _⟩ := hin
      go_enter Try.func126, Try.ntmps126
      go_wp2_with (go_at_call 149; refine (impl_index_t _ _ _ (by omega) (by omega) (by omega)).mono ?_; rintro e w' ⟨rfl, rfl⟩)
      go_quiet (fail)
      go_wp2_with (go_at_call 125; first | (refine (impl_within_t _ _ _ _ (by omega) (by omega)).mono ?_; rintro e w' ⟨rfl, rfl⟩) | (refine (impl_within_f _ _ _ _ (by omega)).mono ?_; rintro e w' ⟨rfl, rfl⟩))
      go_ret
      obtain ⟨hN, _, _⟩ := hput.out (World.drewN ((w.alloc (.cells #[.slice (some ⟨b, off, none⟩) L.length sc] 37)).alloc (.cells #[.int .i64 ci, .int .i64 x1] 163)) _) rfl (hh + mm)
      exact ⟨(show Mod lo hi w (World.drewN _ _) from hmd.out.drewN _).setCell hz.out.1 hz.out.2 _, .inr ⟨_, _, rfl, Hd.out, hN⟩⟩
    · have Hd := Lib.hid (hdo2 hin)
      clear hdo2 hdo3
      generalize L[ci].1.height = hh at *
      have hw2 : IntKind.i64.wrap (hh + mm) = hh + mm := IntWalk.i64_in _ (by omega)
      go_enter Try.func126, Try.ntmps126
      go_wp2_with (go_at_call 149; refine (impl_index_t _ _ _ (by omega) (by omega) (by omega)).mono ?_; rintro e w' ⟨rfl, rfl⟩)
      go_quiet (fail)
      go_wp2_with (go_at_call 125; first | (refine (impl_within_t _ _ _ _ (by omega) (by omega)).mono ?_; rintro e w' ⟨rfl, rfl⟩) | (refine (impl_within_f _ _ _ _ (by omega)).mono ?_; rintro e w' ⟨rfl, rfl⟩))
      go_ret
      exact ⟨by repeat (first | exact hmd.out | refine Mod.drewN ?_ _), .inl ⟨rfl, Hd.out⟩⟩
  · have Hd := Lib.hid (hdo1 hlt)
    clear hdo1 hdo2 hdo3 h
    go_enter Try.func126, Try.ntmps126
    go_wp2_with (go_at_call 149; refine (impl_index_f _ _ _ (by omega) (by omega)).mono ?_; rintro e w' ⟨rfl, rfl⟩)
    go_ret
    exact ⟨Mod.of_below (((Below.refl _ _).alloc (Nat.le_refl _) _).alloc (by simp) _), .inl ⟨rfl, Hd.out⟩⟩
end Go.Proofs.Ytgbohbjpdmgneaa
