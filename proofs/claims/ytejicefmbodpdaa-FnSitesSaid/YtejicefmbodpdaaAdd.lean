/- AddCrane: what the reference and the program look for. -/
import Derived.Test.YtejicefmbodpdaaCpy
import Derived.Test.YtejicefmbodpdaaSiteW
import Derived.Test.YtejicefmbodpdaaCb
namespace Go.Proofs.Ytejicefmbodpdaa
open Go.RowKit
def hasNm (L : SiteL) (s : ByteArray) : Prop := ∃ i, ∃ h : i < L.length, L[i].1.name = s
def nearAny (L : SiteL) (f : CraneF) : Prop := ∃ i, ∃ h : i < L.length, sq4 L[i].1.x L[i].1.y f.x f.y ≤ 100
/-- The first of that name, or none. -/
def NmRes (L : SiteL) (s : ByteArray) (e : Ending) : Prop := ∃ r : Int, e = .returned (.int .i64 r) ∧ ((hasNm L s ∧ decide (0 ≤ r) = true) ∨ (¬ hasNm L s ∧ decide (0 ≤ r) = false))
/-- The same, and which one. -/
def NmX (L : SiteL) (s : ByteArray) (e : Ending) : Prop := ∃ r : Int, e = .returned (.int .i64 r) ∧ ((∃ k : Nat, ∃ h : k < L.length, L[k].1.name = s ∧ (∀ i (h : i < L.length), i < k → ¬ L[i].1.name = s) ∧ r = k) ∨ (¬ hasNm L s ∧ r = -1))
theorem NmX.res {L : SiteL} {s : ByteArray} {e : Ending} (h : NmX L s e) : NmRes L s e := by
  obtain ⟨r, rfl, ⟨k, hk, h1, _, rfl⟩ | ⟨h1, rfl⟩⟩ := h
  · exact ⟨_, rfl, .inl ⟨⟨k, hk, h1⟩, decide_eq_true (Int.natCast_nonneg _)⟩⟩
  · exact ⟨_, rfl, .inr ⟨h1, rfl⟩⟩
theorem nm_step {L : SiteL} {s : ByteArray} {k : Nat} (hlt : k < L.length) (h : ∀ i (h : i < L.length), i < k → ¬ L[i].1.name = s) (hn : ¬ L[k].1.name = s) : ∀ i (h : i < L.length), i < k + 1 → ¬ L[i].1.name = s := fun i hi hik => by
  by_cases e : i < k
  · exact h i hi e
  · have : i = k := by omega
    subst this; exact hn
set_option maxRecDepth 100000 in
set_option maxHeartbeats 2000000 in
theorem impl_NmFn (x0 : ByteArray) (x1 x2 x3 x4 x5 : Int) (sa2 : Option Addr) (sl2 sc2 q : Nat) (s : ByteArray) (w : World) (hq : w.cell? ⟨q, 0, none⟩ = some (.string s)) :
    Calls Try.prog 47 #[(.agg #[.string x0, .int .i64 x1, .int .i64 x2, .int .i64 x3, .int .i64 x4, .int .i64 x5, .slice sa2 sl2 sc2]), .pointer (some ⟨q, 0, none⟩)] w fun e w' => ((x0 = s ∧ e = .returned (.bool true)) ∨ (¬ x0 = s ∧ e = .returned (.bool false))) ∧ Below w.heap.size w w' := by
  have hql := World.block_lt_of_cell? w _ hq
  have hba : Below w.heap.size w (w.alloc (.cells #[.string x0, .int .i64 x1, .int .i64 x2, .int .i64 x3, .int .i64 x4, .int .i64 x5, .slice sa2 sl2 sc2] 35)) := (Below.refl _ _).alloc (Nat.le_refl _) _
  have hq1 := (hba.cell (p := ⟨q, 0, none⟩) hql).trans hq
  clear hq
  by_cases hn : x0 = s
  · have hne := str_eq hn
    have Hn := Lib.hid hn
    clear hn
    go_enter Try.func47, Try.ntmps47
    go_wp2
    go_ret
    exact ⟨.inl ⟨Hn.out, rfl⟩, hba⟩
  · have hne := str_ne hn
    have Hn := Lib.hid hn
    clear hn
    go_enter Try.func47, Try.ntmps47
    go_wp2
    go_ret
    exact ⟨.inr ⟨Hn.out, rfl⟩, hba⟩
set_option maxRecDepth 100000 in
set_option maxHeartbeats 4000000 in
theorem impl_NmIndex (v : Value) (rs : List CraneR) (L : SiteL) (lo hi q : Nat) (s : ByteArray) (w : World) (h : Cranes lo hi w v rs L) (hq : w.cell? ⟨q, 0, none⟩ = some (.string s)) :
    Calls Try.prog 46 #[v, .func (.func 47) #[] #[.pointer (some ⟨q, 0, none⟩)]] w fun e w' => NmX L s e ∧ Below w.heap.size w w' := by
  have hl1 := h.len
  have hcap : rs.length ≤ 9223372036854775807 := by obtain ⟨a, cap, _, hc, _⟩ := h.out; omega
  have hql := World.block_lt_of_cell? w _ hq
  have Hq := Lib.hid hq
  have Hs := Lib.hid h
  obtain ⟨⟨a, cap, rfl, hcp, -⟩, -, -⟩ := h
  rw [hl1] at hcap ⊢
  have Hl1 := Lib.hid hl1
  clear hl1 hq
  go_enter Try.func46, Try.ntmps46
  go_wp2
  go_loopw [8] (fun i wr => ∃ k : Nat, k ≤ L.length ∧ i = .int .i64 k ∧ Hid (∀ i (h : i < L.length), i < k → ¬ L[i].1.name = s) ∧ Below w.heap.size w wr) (fun i _ => L.length - (intOf i).toNat)
  case atStart => exact ⟨0, Nat.zero_le _, rfl, Lib.hid (fun _ _ h => absurd h (by omega)), Below.refl _ _⟩
  case round =>
    obtain ⟨k, hk, rfl, hall, hB⟩ := hrel
    by_cases hlt : k < L.length
    · have hk1 : k < rs.length := by rw [Hl1.out]; exact hlt
      have hs : Cranes lo hi wr (.slice a L.length cap) rs L := by rw [← Hl1.out]; exact Hs.out.ext hB
      obtain ⟨hfl, -⟩ := hs.one hlt hk1
      obtain ⟨b, off, rfl⟩ := hs.out.addr (by omega)
      obtain ⟨c0, c1, c2, c3, c4, c5, c6⟩ := Cranes_at hs hk1
      rw [hfl] at c0 c1 c2 c3 c4 c5
      have Hst := Lib.hid (fun h => nm_step hlt hall.out h)
      have Hyes := Lib.hid (fun (h : L[k].1.name = s) => (show ∃ k' : Nat, ∃ h : k' < L.length, L[k'].1.name = s ∧ (∀ i (h : i < L.length), i < k' → ¬ L[i].1.name = s) ∧ (k : Int) = k' from ⟨k, hlt, h, hall.out, rfl⟩))
      have hq2 := (hB.cell (p := ⟨q, 0, none⟩) hql).trans Hq.out
      clear hs hfl
      generalize rs[k].s = sk at *
      obtain ⟨sa2, sl2, sc2⟩ := sk
      simp only [SV.v] at c6
      generalize L[k].1 = f at *
      obtain ⟨x0, x1, x2, x3, x4, x5⟩ := f
      dsimp only at *
      have hcall := Lib.hid (impl_NmFn x0 x1 x2 x3 x4 x5 sa2 sl2 sc2 q s wr hq2)
      clear hq2
      go_wp2_with fail
      refine hcall.out.mono ?_
      rintro e w1 ⟨⟨hn, rfl⟩ | ⟨hn, rfl⟩, hb1⟩
      · have Hd := Lib.hid (Hyes.out hn)
        clear hn
        go_wp2
        go_ret
        exact ⟨⟨_, rfl, .inl Hd.out⟩, hB.trans (hb1.mono hB.size)⟩
      · have Hd := Lib.hid (Hst.out hn)
        clear hn
        go_wp2
        go_roundw
        case rel => exact ⟨k + 1, by omega, by go_num, Hd, hB.trans (hb1.mono hB.size)⟩
        case measure => simp [intOf]; omega
    · have Hd := Lib.hid (show ¬ hasNm L s from fun ⟨i, h, e⟩ => hall.out i h (by omega) e)
      go_wp2
      go_ret
      exact ⟨⟨_, rfl, .inr ⟨Hd.out, rfl⟩⟩, hB⟩
set_option maxRecDepth 100000 in
set_option maxHeartbeats 2000000 in
theorem impl_NamedX (s0 : SV) (rs : List CraneR) (L : SiteL) (lo hi : Nat) (s : ByteArray) (w : World) (h : Cranes lo hi w s0.v rs L) :
    Calls Try.prog 22 #[.agg #[s0.v], .string s] w fun e w' => NmX L s e ∧ Below w.heap.size w w' := by
  have hba : Below w.heap.size w ((w.alloc (.cells #[s0.v] 26)).alloc (.cells #[.string s] 9)) := ((Below.refl _ _).alloc (Nat.le_refl _) _).alloc (by simp) _
  have hq0 : ((w.alloc (.cells #[s0.v] 26)).alloc (.cells #[.string s] 9)).cell? ⟨w.heap.size + 1, 0, none⟩ = some (.string s) := by
    simp
  have hI := impl_NmIndex s0.v rs L lo hi (w.heap.size + 1) s _ (h.ext hba) hq0
  obtain ⟨sa, sl, sc⟩ := s0
  simp only [SV.v] at hI hba ⊢
  have hI := Lib.hid hI
  clear h hq0
  go_enter Try.func22, Try.ntmps22
  go_wp2_with fail
  refine hI.out.mono ?_
  rintro e w1 ⟨⟨r, rfl, hr⟩, hb1⟩
  have Hr := Lib.hid hr
  clear hr
  go_wp2
  go_ret
  exact ⟨⟨r, rfl, Hr.out⟩, hba.trans (hb1.mono hba.size)⟩
theorem impl_Named (s0 : SV) (rs : List CraneR) (L : SiteL) (lo hi : Nat) (s : ByteArray) (w : World) (h : Cranes lo hi w s0.v rs L) :
    Calls Try.prog 22 #[.agg #[s0.v], .string s] w fun e w' => NmRes L s e ∧ Below w.heap.size w w' :=
  (impl_NamedX s0 rs L lo hi s w h).mono fun _ _ h => ⟨h.1.res, h.2⟩
theorem near_step {L : SiteL} {g : CraneF} {k : Nat} (hlt : k < L.length) (h : ∀ i (h : i < L.length), i < k → 100 < sq4 L[i].1.x L[i].1.y g.x g.y) (hn : 100 < sq4 L[k].1.x L[k].1.y g.x g.y) : ∀ i (h : i < L.length), i < k + 1 → 100 < sq4 L[i].1.x L[i].1.y g.x g.y := fun i hi hik => by
  by_cases e : i < k
  · exact h i hi e
  · have : i = k := by omega
    subst this; exact hn
def NearRes (L : SiteL) (g : CraneF) (e : Ending) : Prop := ∃ r : Int, e = .returned (.int .i64 r) ∧ ((nearAny L g ∧ decide (0 ≤ r) = true) ∨ (¬ nearAny L g ∧ decide (0 ≤ r) = false))
set_option maxRecDepth 100000 in
set_option maxHeartbeats 2000000 in
theorem impl_NearFn (x0 : ByteArray) (x1 x2 x3 x4 x5 : Int) (sa2 : Option Addr) (sl2 sc2 q : Nat) (g : CraneF) (w : World) (hp : Pl x1 x2) (hg : Pl g.x g.y) (hq : w.cell? ⟨q, 1, none⟩ = some (.int .i64 g.x)) (hq' : w.cell? ⟨q, 2, none⟩ = some (.int .i64 g.y)) :
    Calls Try.prog 24 #[(.agg #[.string x0, .int .i64 x1, .int .i64 x2, .int .i64 x3, .int .i64 x4, .int .i64 x5, .slice sa2 sl2 sc2]), .pointer (some ⟨q, 0, none⟩)] w fun e w' => ((sq4 x1 x2 g.x g.y ≤ 100 ∧ e = .returned (.bool true)) ∨ (100 < sq4 x1 x2 g.x g.y ∧ e = .returned (.bool false))) ∧ Below w.heap.size w w' := by
  have hql := World.block_lt_of_cell? w _ hq
  have hba : Below w.heap.size w (w.alloc (.cells #[.string x0, .int .i64 x1, .int .i64 x2, .int .i64 x3, .int .i64 x4, .int .i64 x5, .slice sa2 sl2 sc2] 35)) := (Below.refl _ _).alloc (Nat.le_refl _) _
  have hq1 := (hba.cell (p := ⟨q, 1, none⟩) hql).trans hq
  have hq2 := (hba.cell (p := ⟨q, 2, none⟩) hql).trans hq'
  have hN := impl_Near x1 x2 g.x g.y (w.alloc (.cells #[.string x0, .int .i64 x1, .int .i64 x2, .int .i64 x3, .int .i64 x4, .int .i64 x5, .slice sa2 sl2 sc2] 35)) hp hg
  clear hq hq' hp hg
  by_cases hn : sq4 x1 x2 g.x g.y ≤ 100
  · have Hn := Lib.hid hn
    rw [decide_eq_true hn] at hN
    have hN := Lib.hid hN
    clear hn
    go_enter Try.func24, Try.ntmps24
    go_wp2_with fail
    refine hN.out.mono ?_
    rintro e w1 ⟨rfl, hb1⟩
    go_wp2
    go_ret
    exact ⟨.inl ⟨Hn.out, rfl⟩, hba.trans (hb1.mono hba.size)⟩
  · have Hn := Lib.hid hn
    rw [decide_eq_false hn] at hN
    have hN := Lib.hid hN
    clear hn
    go_enter Try.func24, Try.ntmps24
    go_wp2_with fail
    refine hN.out.mono ?_
    rintro e w1 ⟨rfl, hb1⟩
    go_wp2
    go_ret
    exact ⟨.inr ⟨by have := Hn.out; omega, rfl⟩, hba.trans (hb1.mono hba.size)⟩
set_option maxRecDepth 100000 in
set_option maxHeartbeats 4000000 in
theorem impl_NearIndex (v : Value) (rs : List CraneR) (L : SiteL) (lo hi q : Nat) (g : CraneF) (w : World) (h : Cranes lo hi w v rs L) (hPl : ∀ i (h : i < L.length), Pl L[i].1.x L[i].1.y) (hg : Pl g.x g.y) (hq : w.cell? ⟨q, 1, none⟩ = some (.int .i64 g.x)) (hq' : w.cell? ⟨q, 2, none⟩ = some (.int .i64 g.y)) :
    Calls Try.prog 46 #[v, .func (.func 24) #[] #[.pointer (some ⟨q, 0, none⟩)]] w fun e w' => NearRes L g e ∧ Below w.heap.size w w' := by
  have hl1 := h.len
  have hcap : rs.length ≤ 9223372036854775807 := by obtain ⟨a, cap, _, hc, _⟩ := h.out; omega
  have hql := World.block_lt_of_cell? w _ hq
  have Hq := Lib.hid hq
  have Hq' := Lib.hid hq'
  have HPl := Lib.hid hPl
  have Hs := Lib.hid h
  obtain ⟨⟨a, cap, rfl, hcp, -⟩, -, -⟩ := h
  rw [hl1] at hcap ⊢
  have Hl1 := Lib.hid hl1
  clear hl1 hq hq' hPl
  go_enter Try.func46, Try.ntmps46
  go_wp2
  go_loopw [8] (fun i wr => ∃ k : Nat, k ≤ L.length ∧ i = .int .i64 k ∧ Hid (∀ i (h : i < L.length), i < k → 100 < sq4 L[i].1.x L[i].1.y g.x g.y) ∧ Below w.heap.size w wr) (fun i _ => L.length - (intOf i).toNat)
  case atStart => exact ⟨0, Nat.zero_le _, rfl, Lib.hid (fun _ _ h => absurd h (by omega)), Below.refl _ _⟩
  case round =>
    obtain ⟨k, hk, rfl, hall, hB⟩ := hrel
    by_cases hlt : k < L.length
    · have hk1 : k < rs.length := by rw [Hl1.out]; exact hlt
      have hs : Cranes lo hi wr (.slice a L.length cap) rs L := by rw [← Hl1.out]; exact Hs.out.ext hB
      obtain ⟨hfl, -⟩ := hs.one hlt hk1
      obtain ⟨b, off, rfl⟩ := hs.out.addr (by omega)
      obtain ⟨c0, c1, c2, c3, c4, c5, c6⟩ := Cranes_at hs hk1
      rw [hfl] at c0 c1 c2 c3 c4 c5
      have Hst := Lib.hid (fun h => near_step hlt hall.out h)
      have Hyes := Lib.hid (fun (h : sq4 L[k].1.x L[k].1.y g.x g.y ≤ 100) => (show nearAny L g from ⟨k, hlt, h⟩))
      have hq2 := (hB.cell (p := ⟨q, 1, none⟩) hql).trans Hq.out
      have hq3 := (hB.cell (p := ⟨q, 2, none⟩) hql).trans Hq'.out
      have hpk := HPl.out k hlt
      clear hs hfl
      generalize rs[k].s = sk at *
      obtain ⟨sa2, sl2, sc2⟩ := sk
      simp only [SV.v] at c6
      generalize L[k].1 = f at *
      obtain ⟨x0, x1, x2, x3, x4, x5⟩ := f
      dsimp only at *
      have hcall := Lib.hid (impl_NearFn x0 x1 x2 x3 x4 x5 sa2 sl2 sc2 q g wr hpk hg hq2 hq3)
      clear hq2 hq3 hpk
      go_wp2_with fail
      refine hcall.out.mono ?_
      rintro e w1 ⟨⟨hn, rfl⟩ | ⟨hn, rfl⟩, hb1⟩
      · have Hd := Lib.hid (Hyes.out hn)
        clear hn
        go_wp2
        go_ret
        exact ⟨⟨_, rfl, .inl ⟨Hd.out, decide_eq_true (Int.natCast_nonneg _)⟩⟩, hB.trans (hb1.mono hB.size)⟩
      · have Hd := Lib.hid (Hst.out hn)
        clear hn
        go_wp2
        go_roundw
        case rel => exact ⟨k + 1, by omega, by go_num, Hd, hB.trans (hb1.mono hB.size)⟩
        case measure => simp [intOf]; omega
    · have Hd := Lib.hid (show ¬ nearAny L g from fun ⟨i, h, e⟩ => by have := hall.out i h (by omega); omega)
      go_wp2
      go_ret
      exact ⟨⟨_, rfl, .inr ⟨Hd.out, rfl⟩⟩, hB⟩
set_option maxRecDepth 100000 in
set_option maxHeartbeats 2000000 in
theorem impl_NearAny (v : Value) (rs : List CraneR) (L : SiteL) (lo hi q : Nat) (g : CraneF) (w : World) (h : Cranes lo hi w v rs L) (hPl : ∀ i (h : i < L.length), Pl L[i].1.x L[i].1.y) (hg : Pl g.x g.y) (hq : w.cell? ⟨q, 1, none⟩ = some (.int .i64 g.x)) (hq' : w.cell? ⟨q, 2, none⟩ = some (.int .i64 g.y)) :
    Calls Try.prog 23 #[v, .func (.func 24) #[] #[.pointer (some ⟨q, 0, none⟩)]] w fun e w' => ((nearAny L g ∧ e = .returned (.bool true)) ∨ (¬ nearAny L g ∧ e = .returned (.bool false))) ∧ Below w.heap.size w w' := by
  have hI := impl_NearIndex v rs L lo hi q g w h hPl hg hq hq'
  obtain ⟨⟨a, cap, rfl, -⟩, -, -⟩ := h
  have hI := Lib.hid hI
  clear hq hq' hPl hg
  go_enter Try.func23, Try.ntmps23
  go_wp2_with fail
  refine hI.out.mono ?_
  rintro e w2 ⟨⟨r, rfl, hr⟩, hb2⟩
  rcases hr with ⟨h1, h2⟩ | ⟨h1, h2⟩
  · have H1 := Lib.hid h1
    clear h1
    go_wp2
    go_ret
    exact ⟨.inl ⟨H1.out, rfl⟩, hb2⟩
  · have H1 := Lib.hid h1
    clear h1
    go_wp2
    go_ret
    exact ⟨.inr ⟨H1.out, rfl⟩, hb2⟩
end Go.Proofs.Ytejicefmbodpdaa
