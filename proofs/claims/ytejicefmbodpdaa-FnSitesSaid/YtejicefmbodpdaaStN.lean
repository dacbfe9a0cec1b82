/- Neighbours and covers of a site: which cranes are found; which reach a place; a crane by its name. -/
import Derived.Test.YtejicefmbodpdaaRemI
import Derived.Test.YtejicefmbodpdaaLoadI
import Derived.Test.YtejicefmbodpdaaAdd
namespace Go.Proofs.Ytejicefmbodpdaa
open Go.RowKit
set_option maxHeartbeats 1000000 in
theorem spec_FarM (a b c d m : Int) (w : World) (h1 : Pl a b) (h2 : Pl c d) (hm : 0 ≤ m ∧ m ≤ 3000) : Calls Try.prog 35 #[.agg #[.int .i64 a, .int .i64 b], .agg #[.int .i64 c, .int .i64 d], .int .i64 m] w fun e w' => e = .returned (.bool (decide (m * m < sq4 a b c d))) ∧ Below w.heap.size w w' := by
  have hq := Lib.hid (fun w => spec_Sq a b c d w h1 h2)
  have hbm := sq_bd m (by omega)
  have hwm : IntKind.i64.wrap (m * m) = m * m := IntWalk.i64_in _ (by omega)
  clear h1 h2
  go_enter Try.func35, Try.ntmps35
  go_wp2_with fail
  refine (hq.out _).mono ?_
  rintro e w1 ⟨rfl, hb⟩
  go_wp2
  go_ret
  exact ⟨rfl, (((Below.refl _ w).alloc (Nat.le_refl _) _).alloc (by simp) _).trans (hb.mono (by simp; omega))⟩
set_option maxHeartbeats 1000000 in
theorem impl_NearM (a b c d m : Int) (w : World) (h1 : Pl a b) (h2 : Pl c d) (hm : 0 ≤ m ∧ m ≤ 3000) : Calls Try.prog 25 #[.agg #[.int .i64 a, .int .i64 b], .agg #[.int .i64 c, .int .i64 d], .int .i64 m] w fun e w' => e = .returned (.bool (decide (sq4 a b c d ≤ m * m))) ∧ Below w.heap.size w w' := by
  have hq := Lib.hid (fun w => impl_Sq a b c d w h1 h2)
  have hbm := sq_bd m (by omega)
  have hwm : IntKind.i64.wrap (m * m) = m * m := IntWalk.i64_in _ (by omega)
  clear h1 h2
  go_enter Try.func25, Try.ntmps25
  go_wp2_with fail
  refine (hq.out _).mono ?_
  rintro e w1 ⟨rfl, hb⟩
  go_wp2
  go_ret
  exact ⟨rfl, (((Below.refl _ w).alloc (Nat.le_refl _) _).alloc (by simp) _).trans (hb.mono (by simp; omega))⟩
/-- The jibs of two cranes may meet. -/
def meetB (f g : CraneF) : Bool := decide (sq4 f.x f.y g.x g.y ≤ (f.jib + g.jib) * (f.jib + g.jib))
theorem sq4_comm (a b c d : Int) : sq4 a b c d = sq4 c d a b := by
  unfold sq4
  have h1 : a - c = -(c - a) := by omega
  have h2 : b - d = -(d - b) := by omega
  rw [h1, h2, Int.neg_mul_neg, Int.neg_mul_neg]
theorem meetB_comm (f g : CraneF) : meetB f g = meetB g f := by
  unfold meetB
  rw [sq4_comm f.x f.y g.x g.y, Int.add_comm f.jib g.jib]
/-- The k-th crane is a neighbour of the i-th. -/
def nbB (L : SiteL) (i k : Nat) : Bool := match L[i]?, L[k]? with | some x, some y => decide (k ≠ i) && meetB x.1 y.1 | _, _ => false
theorem nbB_at {L : SiteL} {i k : Nat} (hi : i < L.length) (hk : k < L.length) : nbB L i k = (decide (k ≠ i) && meetB L[i].1 L[k].1) := by unfold nbB; rw [List.getElem?_eq_getElem hi, List.getElem?_eq_getElem hk]
theorem nbB_comm (L : SiteL) {i k : Nat} (hi : i < L.length) (hk : k < L.length) : nbB L i k = nbB L k i := by
  rw [nbB_at hi hk, nbB_at hk hi, meetB_comm]
  congr 1
  by_cases h : k = i
  · subst h; rfl
  · have e1 : decide (k ≠ i) = true := by simpa using h
    have e2 : decide (i ≠ k) = true := by simpa using (fun e => h e.symm)
    rw [e1, e2]
theorem nbB_self (L : SiteL) (i : Nat) : nbB L i i = false := by unfold nbB; cases L[i]? <;> simp
/-- The indices below n that are as asked, as numbers. -/
structure Picks (ok : Nat → Bool) (n : Nat) (l : List Int) : Prop where
  mem : ∀ x : Int, x ∈ l ↔ ∃ j : Nat, j < n ∧ x = j ∧ ok j = true
  len : l.length ≤ n
theorem Picks.zero (ok : Nat → Bool) : Picks ok 0 [] := ⟨fun x => by simp, by simp⟩
theorem Picks.yes {ok : Nat → Bool} {k : Nat} {l : List Int} (h : Picks ok k l) (hk : ok k = true) : Picks ok (k + 1) (l ++ [(k : Int)]) := by
  refine ⟨fun x => ?_, by have := h.len; simp; omega⟩
  rw [List.mem_append, List.mem_singleton, h.mem]
  constructor
  · rintro (⟨j, hj, rfl, ho⟩ | rfl)
    · exact ⟨j, by omega, rfl, ho⟩
    · exact ⟨k, by omega, rfl, hk⟩
  · rintro ⟨j, hj, rfl, ho⟩
    by_cases e : j = k
    · subst e; exact .inr rfl
    · exact .inl ⟨j, by omega, rfl, ho⟩
theorem Picks.no {ok : Nat → Bool} {k : Nat} {l : List Int} (h : Picks ok k l) (hk : ok k = false) : Picks ok (k + 1) l := by
  refine ⟨fun x => ?_, by have := h.len; omega⟩
  rw [h.mem]
  constructor
  · rintro ⟨j, hj, rfl, ho⟩
    exact ⟨j, by omega, rfl, ho⟩
  · rintro ⟨j, hj, rfl, ho⟩
    by_cases e : j = k
    · subst e; rw [hk] at ho; cases ho
    · exact ⟨j, by omega, rfl, ho⟩
theorem Picks.nat {ok : Nat → Bool} {n : Nat} {l : List Int} (h : Picks ok n l) {j : Nat} (hj : j < n) : decide ((j : Int) ∈ l) = ok j := by
  cases ho : ok j
  · refine decide_eq_false fun hm => ?_
    obtain ⟨k, hk, e, h2⟩ := (h.mem _).1 hm
    have : k = j := by omega
    subst this
    rw [ho] at h2; cases h2
  · exact decide_eq_true ((h.mem _).2 ⟨j, hj, rfl, ho⟩)
def PickOut (ok : Nat → Bool) (n : Nat) (w : World) (e : Ending) (w' : World) : Prop := ∃ v l, e = .returned v ∧ Slw 1 intCells w.heap.size w'.heap.size w' v l ∧ Picks ok n l ∧ Below w.heap.size w w'
theorem info_i64n : (Try.prog.info? 2).map (fun i => (i.zero.map (·.cells.size), i.size, i.bytes)) = some (some 1, 1, 8) := by kernel_rfl
set_option maxRecDepth 100000 in
set_option maxHeartbeats 2000000 in
theorem impl_NbFn (x0 : ByteArray) (x1 x2 x3 x4 x5 : Int) (sa2 : Option Addr) (sl2 sc2 : Nat) (i k q q2 : Nat) (g : CraneF) (w : World) (hp : Pl x1 x2) (hj : 0 ≤ x4 ∧ x4 ≤ 1000) (hg : Pl g.x g.y) (hgj : 0 ≤ g.jib ∧ g.jib ≤ 1000)
    (hq : w.cell? ⟨q, 0, none⟩ = some (.int .i64 i)) (h1 : w.cell? ⟨q2, 1, none⟩ = some (.int .i64 g.x)) (h2 : w.cell? ⟨q2, 2, none⟩ = some (.int .i64 g.y)) (h4 : w.cell? ⟨q2, 4, none⟩ = some (.int .i64 g.jib)) :
    Calls Try.prog 33 #[.int .i64 k, (.agg #[.string x0, .int .i64 x1, .int .i64 x2, .int .i64 x3, .int .i64 x4, .int .i64 x5, .slice sa2 sl2 sc2]), .pointer (some ⟨q, 0, none⟩), .pointer (some ⟨q2, 0, none⟩)] w fun e w' => e = .returned (.bool (decide (k ≠ i) && meetB g ⟨x0, x1, x2, x3, x4, x5⟩)) ∧ Below w.heap.size w w' := by
  have hql := World.block_lt_of_cell? w _ hq
  have hq2l := World.block_lt_of_cell? w _ h1
  have hba : Below w.heap.size w (w.alloc (.cells #[.string x0, .int .i64 x1, .int .i64 x2, .int .i64 x3, .int .i64 x4, .int .i64 x5, .slice sa2 sl2 sc2] 35)) := (Below.refl _ _).alloc (Nat.le_refl _) _
  have hq1 := (hba.cell (p := ⟨q, 0, none⟩) hql).trans hq
  have g1 := (hba.cell (p := ⟨q2, 1, none⟩) hq2l).trans h1
  have g2 := (hba.cell (p := ⟨q2, 2, none⟩) hq2l).trans h2
  have g4 := (hba.cell (p := ⟨q2, 4, none⟩) hq2l).trans h4
  have hN := impl_NearM g.x g.y x1 x2 (g.jib + x4) (w.alloc (.cells #[.string x0, .int .i64 x1, .int .i64 x2, .int .i64 x3, .int .i64 x4, .int .i64 x5, .slice sa2 sl2 sc2] 35)) hg hp (by omega)
  have hw : IntKind.i64.wrap (g.jib + x4) = g.jib + x4 := IntWalk.i64_in _ (by omega)
  have hm : decide (sq4 g.x g.y x1 x2 ≤ (g.jib + x4) * (g.jib + x4)) = meetB g ⟨x0, x1, x2, x3, x4, x5⟩ := rfl
  rw [hm] at hN
  generalize meetB g ⟨x0, x1, x2, x3, x4, x5⟩ = r at *
  have hN := Lib.hid hN
  clear hq h1 h2 h4 hp hg hm hj hgj
  by_cases hki : k = i
  · subst hki
    have hbb : ((k : Int) != (k : Int)) = false := by simp
    go_enter Try.func33, Try.ntmps33
    go_wp2
    go_ret
    exact ⟨by simp, hba⟩
  · have hbb : ((k : Int) != (i : Int)) = true := by rw [bne_iff_ne]; omega
    rw [decide_eq_true hki, Bool.true_and]
    clear hki
    go_enter Try.func33, Try.ntmps33
    go_wp2_with fail
    refine hN.out.mono ?_
    rintro e w1 ⟨rfl, hb1⟩
    go_wp2
    go_ret
    exact ⟨rfl, hba.trans (hb1.mono (by simp))⟩
set_option maxRecDepth 100000 in
set_option maxHeartbeats 4000000 in
theorem impl_ThatNb (s : SV) (rs : List CraneR) (L : SiteL) (lo hi n0 q q2 : Nat) (w : World) (h : Cranes lo hi w s.v rs L) (hok : siteOk L) (hin : n0 < L.length) (hq : w.cell? ⟨q, 0, none⟩ = some (.int .i64 n0)) (h1 : w.cell? ⟨q2, 1, none⟩ = some (.int .i64 L[n0].1.x)) (h2 : w.cell? ⟨q2, 2, none⟩ = some (.int .i64 L[n0].1.y)) (h4 : w.cell? ⟨q2, 4, none⟩ = some (.int .i64 L[n0].1.jib)) :
    Calls Try.prog 32 #[.agg #[s.v], .func (.func 33) #[] #[.pointer (some ⟨q, 0, none⟩), .pointer (some ⟨q2, 0, none⟩)]] w (PickOut (nbB L n0) L.length w) := by
  have hql := World.block_lt_of_cell? w _ hq
  have hq2l := World.block_lt_of_cell? w _ h1
  have hgk := (hok.1 n0 hin).1
  have Hq := Lib.hid (fun W (hb : Below w.heap.size w W) => (hb.cell (p := ⟨q, 0, none⟩) hql).trans hq)
  have H1 := Lib.hid (fun W (hb : Below w.heap.size w W) => (hb.cell (p := ⟨q2, 1, none⟩) hq2l).trans h1)
  have H2 := Lib.hid (fun W (hb : Below w.heap.size w W) => (hb.cell (p := ⟨q2, 2, none⟩) hq2l).trans h2)
  have H4 := Lib.hid (fun W (hb : Below w.heap.size w W) => (hb.cell (p := ⟨q2, 4, none⟩) hq2l).trans h4)
  have Hg := Lib.hid hgk
  clear hq h1 h2 h4 hgk
  have hl1 := h.len
  have hcap : rs.length ≤ 9223372036854775807 := by obtain ⟨a, cap, _, hc, _⟩ := h.out; omega
  obtain ⟨sa, sl, sc⟩ := s
  have hba : Below w.heap.size w (w.alloc (.cells #[.slice sa sl sc] 26)) := (Below.refl _ _).alloc (Nat.le_refl _) _
  have Hs := Lib.hid h
  obtain ⟨a', c', hv⟩ : ∃ a c, SV.v ⟨sa, sl, sc⟩ = .slice a L.length c := by obtain ⟨a, cap, hv, _⟩ := h.out; exact ⟨a, cap, by rw [← h.len]; exact hv⟩
  simp only [SV.v] at hv Hs ⊢
  obtain rfl : L.length = sl := by cases hv; rfl
  have hL6 := hok.2.2
  have Hl1 := Lib.hid hl1
  have Hok := Lib.hid hok
  clear hl1 h hok hv
  go_enter Try.func32, Try.ntmps32
  go_wp2
  go_loopw [5, 11] (fun o i wr => ∃ (k : Nat) (acc : List Int), k ≤ L.length ∧ i = .int .i64 k ∧ Below w.heap.size w wr ∧ Hid (Own 1 intCells w.heap.size 2 wr o acc) ∧ Hid (Picks (nbB L n0) k acc)) (fun _ i _ => L.length - (intOf i).toNat)
  case atStart => exact ⟨0, [], Nat.zero_le _, rfl, hba, Lib.hid (own_nil _ _ _), Lib.hid (Picks.zero _)⟩
  case round =>
    obtain ⟨k, acc, hk, rfl, hB, hown, hpk⟩ := hrel
    have hBs := hB.size
    obtain ⟨va, vc, rfl⟩ := own_sv hown.out
    have hal := hpk.out.len
    by_cases hlt : k < L.length
    · have hk1 : k < rs.length := by rw [Hl1.out]; exact hlt
      have hs : Cranes lo hi wr (.slice sa L.length sc) rs L := Hs.out.ext hB
      obtain ⟨hfl, hrow⟩ := hs.one hlt hk1
      obtain ⟨b, off, rfl⟩ := hs.out.addr (by omega)
      obtain ⟨c0, c1, c2, c3, c4, c5, c6⟩ := Cranes_at hs hk1
      rw [hfl] at c0 c1 c2 c3 c4 c5
      have Hyes := Lib.hid (fun h => hpk.out.yes (k := k) h)
      have Hno := Lib.hid (fun h => hpk.out.no (k := k) h)
      have hrk := (Hok.out.1 k hlt).1
      (have hcl := fun W (hb : Below wr.heap.size wr W) => impl_NbFn L[k].1.name L[k].1.x L[k].1.y L[k].1.height L[k].1.jib L[k].1.back rs[k].s.a rs[k].s.len rs[k].s.cap n0 k q q2 L[n0].1 W hrk.2.1 (by have := hrk.2.2.2.1; omega) Hg.out.2.1 (by have := Hg.out.2.2.2.1; omega) (Hq.out _ (hB.trans (hb.mono hBs))) (H1.out _ (hB.trans (hb.mono hBs))) (H2.out _ (hB.trans (hb.mono hBs))) (H4.out _ (hB.trans (hb.mono hBs))); rw [show (decide (k ≠ n0) && meetB L[n0].1 ⟨L[k].1.name, L[k].1.x, L[k].1.y, L[k].1.height, L[k].1.jib, L[k].1.back⟩) = nbB L n0 k from (nbB_at hin hlt).symm] at hcl)
      clear hs hfl
      generalize rs[k].s = sk at *
      obtain ⟨sa2, sl2, sc2⟩ := sk
      simp only [SV.v] at c6
      generalize L[k].1 = f at *
      obtain ⟨x0, x1, x2, x3, x4, x5⟩ := f
      dsimp only at *
      have hbx : Below wr.heap.size wr (wr.alloc (.cells #[.string x0, .int .i64 x1, .int .i64 x2, .int .i64 x3, .int .i64 x4, .int .i64 x5, .slice sa2 sl2 sc2] 35)) := (Below.refl _ _).alloc (Nat.le_refl _) _
      have hcall := Lib.hid (hcl _ hbx)
      clear hcl hrk
      obtain ⟨na, hna⟩ : ∃ na, acc.length = na := ⟨_, rfl⟩
      rw [hna] at hal ⊢
      cases hr : (nbB L n0) k
      · have Hd := Lib.hid (Hno.out hr)
        rw [hr] at hcall
        go_wp2_with fail
        refine hcall.out.mono ?_
        rintro e w1 ⟨rfl, hb1⟩
        have hB1 := hbx.trans (hb1.mono (by simp))
        have hown1 := Lib.hid (hown.out.below hB1)
        go_wp2
        go_roundw
        case rel => exact ⟨k + 1, acc, by omega, by go_num, hB.trans (hB1.mono hBs), by rw [← hna]; exact hown1, Hd⟩
        case measure => simp [intOf]; omega
      · have Hd := Lib.hid (Hyes.out hr)
        rw [hr] at hcall
        go_wp2_with fail
        refine hcall.out.mono ?_
        rintro e w1 ⟨rfl, hb1⟩
        have hB1 := hbx.trans (hb1.mono (by simp))
        have hB1' := hB.trans (hB1.mono hBs)
        have hBs1 := hB1'.size
        have hown1 := Lib.hid (hown.out.below hB1)
        rw [hna] at hown1
        clear hb1 hB1
        go_wp2_with (at_builtin; refine wpList_app1 (c := intCells) (bytes := 8) rfl _ _ 43 2 rfl Try.underlying43 info_i64n (by omega) intCells_len intCells_one w.heap.size acc (k : Int) _ rfl _ rfl hown1.out rfl (by omega) (by omega) hBs1 ?_; intro v' w3 hown3 hg3; have hB3 := hown1.out.app hB1' (Nat.le_refl _) hBs1 hg3; have Hown3 := Lib.hid hown3; clear hown3)
        go_roundw
        case rel => exact ⟨k + 1, acc ++ [(k : Int)], by omega, by go_num, hB3, Hown3, Hd⟩
        case measure => simp [intOf]; omega
    · have hkk : k = L.length := by omega
      subst hkk
      have Hown := Lib.hid (hown.out.slw intCells_len)
      go_wp2
      go_ret
      exact ⟨_, acc, rfl, Hown.out, hpk.out, hB⟩
def NbOut (ok : Nat → Bool) (n : Nat) (w : World) (e : Ending) (w' : World) : Prop := ∃ v l, e = .returned (.tuple #[v, .int .i64 0]) ∧ Slw 1 intCells w.heap.size w'.heap.size w' v l ∧ Picks ok n l ∧ Below w.heap.size w w'
theorem Slw.widenN {α : Type} {n : Nat} {c : α → List Value} {lo hi lo' hi' : Nat} {w : World} {v : Value} {l : List α} (h : Slw n c lo hi w v l) (h1 : lo' ≤ lo) (h2 : hi ≤ hi') : Slw n c lo' hi' w v l := ⟨h.1.mono h1 h2, h.2⟩
theorem code4_in {L : SiteL} {n : Nat} (hok : siteOk L) (hn : n < L.length) : code4 L n = 0 := by
  rcases code4_cases L n with ⟨h, _⟩ | ⟨_, h, _⟩ | ⟨_, _, h⟩
  · rw [siteB_t hok] at h; cases h
  · exact absurd ⟨by omega, by omega⟩ h
  · exact h
set_option maxRecDepth 100000 in
set_option maxHeartbeats 4000000 in
theorem impl_NeighboursOf (s : SV) (rs : List CraneR) (L : SiteL) (lo hi n0 : Nat) (w : World) (h : Cranes lo hi w s.v rs L) (hwf : L.wf) (hok : siteOk L) (hin : n0 < L.length) :
    Calls Try.prog 12 #[.agg #[s.v], .int .i64 n0] w (NbOut (nbB L n0) L.length w) := by
  have hl1 := h.len
  have hk1 : n0 < rs.length := by rw [hl1]; exact hin
  obtain ⟨sa, sl, sc⟩ := s
  obtain ⟨a', c', hv⟩ : ∃ a c, SV.v ⟨sa, sl, sc⟩ = .slice a L.length c := by obtain ⟨a, cap, hv, _⟩ := h.out; exact ⟨a, cap, by rw [← h.len]; exact hv⟩
  simp only [SV.v] at hv h ⊢
  obtain rfl : L.length = sl := by cases hv; rfl
  clear hv
  obtain ⟨b, off, rfl⟩ := h.out.addr (by omega)
  have hba : Below w.heap.size w ((w.alloc (.cells #[.slice (some ⟨b, off, none⟩) L.length sc] 26)).alloc (.cells #[.int .i64 n0] 2)) := ((Below.refl _ _).alloc (Nat.le_refl _) _).alloc (by simp) _
  have hp0 := Lib.hid ((Cb.new w (.slice (some ⟨b, off, none⟩) L.length sc) 26).ext ((Below.refl _ _).alloc (Nat.le_refl _) (.cells #[.int .i64 n0] 2)))
  have hq0 : Hid (Cb (w.heap.size + 1) ((w.alloc (.cells #[.slice (some ⟨b, off, none⟩) L.length sc] 26)).alloc (.cells #[.int .i64 n0] 2)) (.int .i64 n0)) := Lib.hid (by have := Cb.new (w.alloc (.cells #[.slice (some ⟨b, off, none⟩) L.length sc] 26)) (.int .i64 n0) 2; simpa using this)
  have hV := impl_Code4 ⟨some ⟨b, off, none⟩, L.length, sc⟩ rs L lo hi (n0 : Int) _ (h.ext hba) hwf
  rw [code4_in hok hin] at hV
  simp only [SV.v] at hV
  have hV := Lib.hid hV
  have hT := Lib.hid (fun W (hb : Below w.heap.size w W) q q2 => impl_ThatNb ⟨some ⟨b, off, none⟩, L.length, sc⟩ rs L lo hi n0 q q2 W (h.ext hb) hok hin)
  have hcs := Lib.hid (fun W (hb : Below w.heap.size w W) => Cranes_at (h.ext hb) hk1)
  obtain ⟨hfl, -⟩ := h.one hin hk1
  have Hfl := Lib.hid hfl
  have hin' : (n0 : Int) < (L.length : Int) := by omega
  clear h hwf hok hfl
  go_enter Try.func12, Try.ntmps12
  go_wp2_with fail
  refine hV.out.mono ?_
  rintro e w1 ⟨rfl, hb1⟩
  have B1 := hba.trans (hb1.mono hba.size)
  have hp1 := Lib.hid (hp0.out.ext hb1)
  have hq1 := Lib.hid (hq0.out.ext hb1)
  have cp := hp1.out.c
  have cq := hq1.out.c
  obtain ⟨c0, c1, c2, c3, c4, c5, c6⟩ := hcs.out w1 B1
  rw [Hfl.out] at c0 c1 c2 c3 c4 c5
  clear hb1 hV hcs
  generalize rs[n0].s = sk at *
  obtain ⟨sa2, sl2, sc2⟩ := sk
  simp only [SV.v] at c6
  generalize hf : L[n0].1 = f at *
  obtain ⟨x0, x1, x2, x3, x4, x5⟩ := f
  dsimp only at *
  have hbx : Below w1.heap.size w1 (w1.alloc (.cells #[.string x0, .int .i64 x1, .int .i64 x2, .int .i64 x3, .int .i64 x4, .int .i64 x5, .slice sa2 sl2 sc2] 35)) := (Below.refl _ _).alloc (Nat.le_refl _) _
  have hX := blkN_new w1 (.cells #[.string x0, .int .i64 x1, .int .i64 x2, .int .i64 x3, .int .i64 x4, .int .i64 x5, .slice sa2 sl2 sc2] 35)
  have B2 := B1.trans (hbx.mono B1.size)
  have hp2 := hp1.out.ext hbx
  have cp2 := hp2.c
  have hC := Lib.hid (hT.out _ B2 (w.heap.size + 1) w1.heap.size (hq1.out.ext hbx).c ((Lib.cell_of_heap hX 1).trans rfl) ((Lib.cell_of_heap hX 2).trans rfl) ((Lib.cell_of_heap hX 4).trans rfl))
  clear hX hT hp0 hq0 hp2
  go_wp2_with fail
  refine hC.out.mono ?_
  rintro e w3 ⟨v, l, rfl, hsl, hpk, hb3⟩
  have Hsl := Lib.hid (hsl.widenN B2.size (Nat.le_refl _))
  have Hpk := Lib.hid hpk
  have B3 := B2.trans (hb3.mono B2.size)
  clear hsl hpk hb3 hC
  go_wp2
  go_ret2
  exact ⟨_, l, rfl, Hsl.out, Hpk.out, B3⟩
set_option maxRecDepth 100000 in
set_option maxHeartbeats 8000000 in
theorem spec_NeighboursOf (s : SV) (rs : List CraneR) (L : SiteL) (lo hi n0 : Nat) (w : World) (h : Cranes lo hi w s.v rs L) (hwf : L.wf) (hok : siteOk L) (hin : n0 < L.length) :
    Calls Try.prog 14 #[.agg #[s.v], .int .i64 n0] w (NbOut (nbB L n0) L.length w) := by
  have hl1 := h.len
  have hk1 : n0 < rs.length := by rw [hl1]; exact hin
  obtain ⟨sa, sl, sc⟩ := s
  obtain ⟨a', c', hv⟩ : ∃ a c, SV.v ⟨sa, sl, sc⟩ = .slice a L.length c := by obtain ⟨a, cap, hv, _⟩ := h.out; exact ⟨a, cap, by rw [← h.len]; exact hv⟩
  simp only [SV.v] at hv h ⊢
  obtain rfl : L.length = sl := by cases hv; rfl
  clear hv
  obtain ⟨b, off, rfl⟩ := h.out.addr (by omega)
  have hba : Below w.heap.size w (w.alloc (.cells #[.slice (some ⟨b, off, none⟩) L.length sc] 26)) := (Below.refl _ _).alloc (Nat.le_refl _) _
  have hp0 := Lib.hid (Cb.new w (.slice (some ⟨b, off, none⟩) L.length sc) 26)
  have hV := spec_Code4 w.heap.size _ rs L lo hi (n0 : Int) _ hp0.out.c (h.ext hba) hwf
  rw [code4_in hok hin] at hV
  have hV := Lib.hid hV
  have hcs := Lib.hid (fun W (hb : Below w.heap.size w W) k (hk : k < rs.length) => Cranes_at (h.ext hb) hk)
  have hfl := Lib.hid (fun k (hk : k < L.length) (hk' : k < rs.length) => (h.one hk hk').1)
  have Hl1 := Lib.hid hl1
  have Hok := Lib.hid hok
  have hL6 := hok.2.2
  have hin' : (n0 : Int) < (L.length : Int) := by omega
  clear h hwf hok hl1
  go_enter Try.func14, Try.ntmps14
  go_wp2_with fail
  refine hV.out.mono ?_
  rintro e w1 ⟨rfl, hb1⟩
  have B1 := hba.trans (hb1.mono hba.size)
  have hp1 := Lib.hid (hp0.out.ext hb1)
  have cp1 := hp1.out.c
  have hBe := (Below.refl w1.heap.size w1).alloc (Nat.le_refl _) (.cells #[] 2 (0, 0))
  have hp2 := hp1.out.ext hBe
  have cp2 := hp2.c
  have hw1 := hp1.out.lt
  clear hb1 hV hba hp0
  go_wp2_with fail
  go_loopw [7, 9] (fun o i wr => ∃ (k : Nat) (acc : List Int), k ≤ L.length ∧ i = .int .i64 k ∧ Below w1.heap.size w1 wr ∧ Hid (Own 1 intCells w1.heap.size 2 wr o acc) ∧ Hid (Picks (nbB L n0) k acc)) (fun _ i _ => L.length - (intOf i).toNat)
  case atStart => exact ⟨0, [], Nat.zero_le _, rfl, hBe, Lib.hid (own_empty w1 _ _ (Nat.le_refl _)), Lib.hid (Picks.zero _)⟩
  case round =>
    obtain ⟨k, acc, hk, rfl, hB, hown, hpk⟩ := hrel
    clear hBe hp2 cp2 cp1
    have hBs := hB.size
    obtain ⟨va, vc, rfl⟩ := own_sv hown.out
    have hal := hpk.out.len
    have cp := (hB.cell (p := ⟨w.heap.size, 0, none⟩) hw1).trans hp1.out.c
    obtain ⟨na, hna⟩ : ∃ na, acc.length = na := ⟨_, rfl⟩
    rw [hna] at hal ⊢
    by_cases hlt : k < L.length
    · have hk2 : k < rs.length := by rw [Hl1.out]; exact hlt
      have Bw := B1.trans (hB.mono B1.size)
      obtain ⟨c0, c1, c2, c3, c4, c5, c6⟩ := hcs.out wr Bw k hk2
      obtain ⟨d0, d1, d2, d3, d4, d5, d6⟩ := hcs.out wr Bw n0 hk1
      rw [hfl.out k hlt hk2] at c0 c1 c2 c3 c4 c5
      rw [hfl.out n0 hin hk1] at d0 d1 d2 d3 d4 d5
      have Hyes := Lib.hid (fun h => hpk.out.yes (k := k) h)
      have Hno := Lib.hid (fun h => hpk.out.no (k := k) h)
      have hrk := (Hok.out.1 k hlt).1
      have hri := (Hok.out.1 n0 hin).1
      have hcl := fun W => spec_FarM L[n0].1.x L[n0].1.y L[k].1.x L[k].1.y (L[n0].1.jib + L[k].1.jib) W hri.2.1 hrk.2.1 (by have := hri.2.2.2.1; have := hrk.2.2.2.1; omega)
      have hat := nbB_at hin hlt
      have hwj : IntKind.i64.wrap (L[n0].1.jib + L[k].1.jib) = L[n0].1.jib + L[k].1.jib := IntWalk.i64_in _ (by have := hri.2.2.2.1; have := hrk.2.2.2.1; omega)
      clear hrk hri c0 c3 c5 c6 d0 d3 d5 d6
      by_cases hki : k = n0
      · have hr : nbB L n0 k = false := by rw [hki]; exact nbB_self L n0
        have Hd := Lib.hid (Hno.out hr)
        have hbb : ((k : Int) != (n0 : Int)) = false := by simp; omega
        clear hat hr hcl hki hwj
        clear c1 c2 c4 d1 d2 d4
        go_wp2_with fail
        go_quiet (fail)
        go_wp2
        go_roundw
        case rel => exact ⟨k + 1, acc, by omega, by go_num, below_dN hB _, by rw [← hna]; exact Lib.hid (hown.out.below (below_dN (Below.refl _ _) _)), Hd⟩
        case measure => simp [intOf]; omega
      · have hx : decide ((L[n0].1.jib + L[k].1.jib) * (L[n0].1.jib + L[k].1.jib) < sq4 L[n0].1.x L[n0].1.y L[k].1.x L[k].1.y) = !nbB L n0 k := by
          have e1 : decide (k ≠ n0) = true := by simpa using hki
          rw [hat, e1, Bool.true_and]
          unfold meetB
          by_cases h : sq4 L[n0].1.x L[n0].1.y L[k].1.x L[k].1.y ≤ (L[n0].1.jib + L[k].1.jib) * (L[n0].1.jib + L[k].1.jib)
          · rw [decide_eq_true h, decide_eq_false (by omega)]; rfl
          · rw [decide_eq_false h, decide_eq_true (by omega)]; rfl
        rw [hx] at hcl
        have hbb : ((k : Int) != (n0 : Int)) = true := by rw [bne_iff_ne]; omega
        clear hat hx hki
        cases hr : nbB L n0 k
        · have Hd := Lib.hid (Hno.out hr)
          rw [hr] at hcl
          generalize L[n0].1 = g at *
          generalize L[k].1 = f at *
          have hcl := Lib.hid hcl
          have hbw := World.block_lt_of_cell? wr _ c1
          have hbw0 := World.block_lt_of_cell? wr _ cp
          go_wp2_with fail
          go_region_held3 (fun w' => (∀ b' o', b' < wr.heap.size → w'.cell? ⟨b', o', none⟩ = wr.cell? ⟨b', o', none⟩) ∧ Below wr.heap.size wr w') (first | (refine heldB ?_; go_grown; done))
            (first | (go_at_call 35; refine (hcl.out _).mono ?_; rintro e w3 ⟨rfl, hb3'⟩; have b3 : Below wr.heap.size wr w3 := Below.trans (by go_grown) (hb3'.mono (by go_size)); have q3 := (bcell b3).1; have B3 := hB.trans (b3.mono hB.size)))
          rename_i hHeld
          clear hHeld
          go_wp2_with fail
          go_roundw
          case rel => exact ⟨k + 1, acc, by omega, by go_num, B3, by rw [← hna]; exact Lib.hid (hown.out.below b3), Hd⟩
          case measure => simp [intOf]; omega
        · have Hd := Lib.hid (Hyes.out hr)
          rw [hr] at hcl
          rw [hna] at hown
          generalize L[n0].1 = g at *
          generalize L[k].1 = f at *
          have hcl := Lib.hid hcl
          have hbw := World.block_lt_of_cell? wr _ c1
          have hbw0 := World.block_lt_of_cell? wr _ cp
          go_wp2_with fail
          go_region_held3 (fun w' => (∀ b' o', b' < wr.heap.size → w'.cell? ⟨b', o', none⟩ = wr.cell? ⟨b', o', none⟩) ∧ Below wr.heap.size wr w') (first | (refine heldB ?_; go_grown; done))
            (first | (go_at_call 35; refine (hcl.out _).mono ?_; rintro e w3 ⟨rfl, hb3'⟩; have b3 : Below wr.heap.size wr w3 := Below.trans (by go_grown) (hb3'.mono (by go_size)); have q3 := (bcell b3).1; have B3 := hB.trans (b3.mono hB.size)))
          rename_i hHeld
          clear hHeld
          have hown3 := Lib.hid (hown.out.below b3)
          have hz3 := b3.size
          go_wp2_with (at_builtin; refine wpList_app1 (c := intCells) (bytes := 8) rfl _ _ 43 2 rfl Try.underlying43 info_i64n (by omega) intCells_len intCells_one w1.heap.size acc (k : Int) _ rfl _ rfl hown3.out rfl (by omega) (by omega) (by omega) ?_; intro v' w4 hown4 hg4; have hB4 := hown3.out.app B3 (Nat.le_refl _) (by omega) hg4; have Hown4 := Lib.hid hown4; clear hown4)
          go_roundw
          case rel => exact ⟨k + 1, acc ++ [(k : Int)], by omega, by go_num, hB4, Hown4, Hd⟩
          case measure => simp [intOf]; omega
    · have hkk : k = L.length := by omega
      subst hkk
      have Hown := Lib.hid ((hown.out.slw intCells_len).widenN (lo' := w.heap.size) B1.size (Nat.le_refl _))
      have Bw := B1.trans (hB.mono B1.size)
      rw [hna] at Hown
      go_wp2
      go_ret2
      exact ⟨_, acc, rfl, Hown.out, hpk.out, Bw⟩
theorem nxtC {w w1 : World} {p : Nat} {o : Obj} (hb : Below w.heap.size w w1) (h : w.heap[p]? = some o) : w1.heap[p]? = some o := (hb.block p (Array.getElem?_eq_some_iff.1 h).1).trans h
theorem dkx2C (w : World) (o p : Obj) : ∃ W, ((w.alloc o).alloc p) = W ∧ W.heap[w.heap.size]? = some o ∧ W.heap[w.heap.size + 1]? = some p ∧ Below w.heap.size w W ∧ W.heap.size = w.heap.size + 2 := by
  have b2 : Below (w.alloc o).heap.size (w.alloc o) ((w.alloc o).alloc p) := (Below.refl _ _).alloc (Nat.le_refl _) _
  refine ⟨_, rfl, blkN_below b2 (blkN_new w o), ?_, ((Below.refl _ _).alloc (Nat.le_refl _) _).alloc (by simp) _, by simp⟩
  rw [show w.heap.size + 1 = (w.alloc o).heap.size by simp]; exact blkN_new _ _
/-- A crane reaches a place. -/
noncomputable def reachB (f : CraneF) (l : List Chs) (x y : Int) : Bool := decide (0 ≤ loadI l (rootI (sq4 f.x f.y x y)))
set_option maxRecDepth 100000 in
set_option maxHeartbeats 4000000 in
theorem impl_LoadAt (x0 : ByteArray) (x1 x2 x3 x4 x5 : Int) (sa2 : Option Addr) (sl2 sc2 : Nat) (l : List Chs) (lo hi : Nat) (px py : Int) (w : World) (hk : craneOk ⟨x0, x1, x2, x3, x4, x5⟩ l) (h : Chss lo hi w (.slice sa2 sl2 sc2) l) (hp : Pl px py) :
    Calls Try.prog 55 #[(.agg #[.string x0, .int .i64 x1, .int .i64 x2, .int .i64 x3, .int .i64 x4, .int .i64 x5, .slice sa2 sl2 sc2]), .agg #[.int .i64 px, .int .i64 py]] w fun e w' => e = .returned (.tuple #[.int .i64 (loadR l (rootI (sq4 x1 x2 px py))), .bool (reachB ⟨x0, x1, x2, x3, x4, x5⟩ l px py)]) ∧ Below w.heap.size w w' := by
  have hPl : Pl x1 x2 := hk.2.1
  have hch := hk.2.2.2.2.2.1
  obtain ⟨W0, hW0, hX, hY, hb0, hz0⟩ := dkx2C w (.cells #[.string x0, .int .i64 x1, .int .i64 x2, .int .i64 x3, .int .i64 x4, .int .i64 x5, .slice sa2 sl2 sc2] 35) (.cells #[.int .i64 px, .int .i64 py] 30)
  have c0 := (Lib.cell_of_heap hX 0).trans rfl
  have c1 := (Lib.cell_of_heap hX 1).trans rfl
  have c2 := (Lib.cell_of_heap hX 2).trans rfl
  have c6 := (Lib.cell_of_heap hX 6).trans rfl
  have d0 := (Lib.cell_of_heap hY 0).trans rfl
  have d1 := (Lib.cell_of_heap hY 1).trans rfl
  have hxl := (Array.getElem?_eq_some_iff.1 hX).1
  have hyl := (Array.getElem?_eq_some_iff.1 hY).1
  have hbd := sq_bd (x1 - px) (by unfold Pl at hPl hp; omega)
  have hbd2 := sq_bd (x2 - py) (by unfold Pl at hPl hp; omega)
  have hsq : 0 ≤ sq4 x1 x2 px py ∧ sq4 x1 x2 px py ≤ 800000000 := by unfold sq4; omega
  have hrt := rootI_spec (n := sq4 x1 x2 px py) (m := 30000) (by omega)
  have hrt0 := hrt.1.1
  have hrt1 := hrt.2
  have HS := Lib.hid (fun W => impl_Sq x1 x2 px py W hPl hp)
  have HR := Lib.hid (fun W => impl_Root (sq4 x1 x2 px py) W hsq.1 (by omega))
  have HL := Lib.hid (fun W (hb : Below W0.heap.size W0 W) => impl_Load (.slice sa2 sl2 sc2) l lo hi (rootI (sq4 x1 x2 px py)) W ((h.ext hb0).ext hb) hch (by omega))
  rw [show decide (0 ≤ loadI l (rootI (sq4 x1 x2 px py))) = reachB ⟨x0, x1, x2, x3, x4, x5⟩ l px py from rfl] at HL
  generalize loadR l (rootI (sq4 x1 x2 px py)) = ld at *
  generalize rootI (sq4 x1 x2 px py) = rt at *
  generalize reachB ⟨x0, x1, x2, x3, x4, x5⟩ l px py = rb at *
  clear hk h hp hPl hch hX hY hbd hbd2 hsq hrt hrt0 hrt1
  go_enter Try.func55, Try.ntmps55
  go_wp2_with fail
  go_region_held3 (fun w' => (∀ b' o', b' < W0.heap.size → w'.cell? ⟨b', o', none⟩ = W0.cell? ⟨b', o', none⟩) ∧ Below W0.heap.size W0 w') (first | (refine heldB ?_; go_grown; done))
    (first | (go_at_call 48; refine (HS.out _).mono ?_; rintro e w3 ⟨rfl, hb3'⟩; have b3 : Below W0.heap.size W0 w3 := Below.trans (by go_grown) (hb3'.mono (by go_size)); have q3 := (bcell b3).1) | (go_at_call 65; refine (HR.out _).mono ?_; rintro e w4 ⟨rfl, rfl⟩) | (go_at_call 64; refine (HL.out _ (by go_grown)).mono ?_; rintro e w5 ⟨rfl, hb5'⟩; have b5 := b3.trans (hb5'.mono b3.size); have q5 := (bcell b5).1))
  all_goals
    go_wp2
    go_ret2
    exact ⟨rfl, hb0.trans (b5.mono hb0.size)⟩
def reachC (r : Bool) : Int := if r = true then 0 else 3
def LapOut (r : Bool) (w : World) (e : Ending) (w' : World) : Prop := ∃ ld : Int, e = .returned (.tuple #[.int .i64 ld, .int .i64 (reachC r)]) ∧ Below w.heap.size w w'
set_option maxRecDepth 100000 in
set_option maxHeartbeats 4000000 in
theorem impl_LoadAtPlace (x0 : ByteArray) (x1 x2 x3 x4 x5 : Int) (sa2 : Option Addr) (sl2 sc2 : Nat) (l : List Chs) (lo hi : Nat) (px py : Int) (w : World) (hk : craneOk ⟨x0, x1, x2, x3, x4, x5⟩ l) (hn : x0.size ≤ maxLen) (h : Chss lo hi w (.slice sa2 sl2 sc2) l) (hp : Pl px py) :
    Calls Try.prog 39 #[(.agg #[.string x0, .int .i64 x1, .int .i64 x2, .int .i64 x3, .int .i64 x4, .int .i64 x5, .slice sa2 sl2 sc2]), .agg #[.int .i64 px, .int .i64 py]] w (LapOut (reachB ⟨x0, x1, x2, x3, x4, x5⟩ l px py) w) := by
  obtain ⟨W0, hW0, hX, hY, hb0, hz0⟩ := dkx2C w (.cells #[.string x0, .int .i64 x1, .int .i64 x2, .int .i64 x3, .int .i64 x4, .int .i64 x5, .slice sa2 sl2 sc2] 35) (.cells #[.int .i64 px, .int .i64 py] 30)
  have hV := impl_CraneOk ⟨x0, x1, x2, x3, x4, x5⟩ ⟨sa2, sl2, sc2⟩ l lo hi W0 (h.ext hb0) hn
  have hP := Lib.hid (fun W => impl_Pl px py W)
  rw [craneB_t hk] at hV
  rw [decide_eq_true hp] at hP
  have hL := Lib.hid (fun W (hb : Below w.heap.size w W) => impl_LoadAt x0 x1 x2 x3 x4 x5 sa2 sl2 sc2 l lo hi px py W hk (h.ext hb) hp)
  simp only [CraneR.cells, SV.v] at hV
  have hV := Lib.hid hV
  generalize reachB ⟨x0, x1, x2, x3, x4, x5⟩ l px py = rb at *
  generalize loadR l (rootI (sq4 x1 x2 px py)) = ld at *
  have c0 := (Lib.cell_of_heap hX 0).trans rfl
  have c1 := (Lib.cell_of_heap hX 1).trans rfl
  have c2 := (Lib.cell_of_heap hX 2).trans rfl
  have c3 := (Lib.cell_of_heap hX 3).trans rfl
  have c4 := (Lib.cell_of_heap hX 4).trans rfl
  have c5 := (Lib.cell_of_heap hX 5).trans rfl
  have c6 := (Lib.cell_of_heap hX 6).trans rfl
  have hX := Lib.hid hX
  have hY := Lib.hid hY
  clear hk hn h hp hz0
  go_enter Try.func39, Try.ntmps39
  go_wp2_with fail
  refine hV.out.mono ?_
  rintro e w1 ⟨rfl, hb1⟩
  clear c0 c1 c2 c3 c4 c5 c6
  have hX := Lib.hid (nxtC hb1 hX.out)
  have hY := Lib.hid (nxtC hb1 hY.out)
  have B1 := hb0.trans (hb1.mono hb0.size)
  have d0 := (Lib.cell_of_heap hY.out 0).trans rfl
  have d1 := (Lib.cell_of_heap hY.out 1).trans rfl
  clear hb1 hb0 hV
  go_wp2_with fail
  refine (hP.out _).mono ?_
  rintro e w2 ⟨rfl, hb2⟩
  have hX := Lib.hid (nxtC hb2 hX.out)
  have hY := Lib.hid (nxtC hb2 hY.out)
  have B2 := B1.trans (hb2.mono B1.size)
  clear d0 d1 hb2 B1
  have d0 := (Lib.cell_of_heap hY.out 0).trans rfl
  have d1 := (Lib.cell_of_heap hY.out 1).trans rfl
  have c0 := (Lib.cell_of_heap hX.out 0).trans rfl
  have c1 := (Lib.cell_of_heap hX.out 1).trans rfl
  have c2 := (Lib.cell_of_heap hX.out 2).trans rfl
  have c3 := (Lib.cell_of_heap hX.out 3).trans rfl
  have c4 := (Lib.cell_of_heap hX.out 4).trans rfl
  have c5 := (Lib.cell_of_heap hX.out 5).trans rfl
  have c6 := (Lib.cell_of_heap hX.out 6).trans rfl
  go_wp2_with fail
  refine (hL.out _ B2).mono ?_
  rintro e w3 ⟨rfl, hb3⟩
  have B3 := B2.trans (hb3.mono B2.size)
  clear hb3 hL hP
  cases rb
  · go_wp2
    go_ret2
    exact ⟨0, rfl, B3⟩
  · go_wp2
    go_ret2
    exact ⟨ld, rfl, B3⟩
set_option maxRecDepth 100000 in
set_option maxHeartbeats 4000000 in
theorem impl_Reaches (x0 : ByteArray) (x1 x2 x3 x4 x5 : Int) (sa2 : Option Addr) (sl2 sc2 : Nat) (l : List Chs) (lo hi : Nat) (px py : Int) (w : World) (hk : craneOk ⟨x0, x1, x2, x3, x4, x5⟩ l) (hn : x0.size ≤ maxLen) (h : Chss lo hi w (.slice sa2 sl2 sc2) l) (hp : Pl px py) :
    Calls Try.prog 17 #[(.agg #[.string x0, .int .i64 x1, .int .i64 x2, .int .i64 x3, .int .i64 x4, .int .i64 x5, .slice sa2 sl2 sc2]), .agg #[.int .i64 px, .int .i64 py]] w fun e w' => e = .returned (.bool (reachB ⟨x0, x1, x2, x3, x4, x5⟩ l px py)) ∧ Below w.heap.size w w' := by
  obtain ⟨W0, hW0, hX, hY, hb0, hz0⟩ := dkx2C w (.cells #[.string x0, .int .i64 x1, .int .i64 x2, .int .i64 x3, .int .i64 x4, .int .i64 x5, .slice sa2 sl2 sc2] 35) (.cells #[.int .i64 px, .int .i64 py] 30)
  have hL := Lib.hid (impl_LoadAtPlace x0 x1 x2 x3 x4 x5 sa2 sl2 sc2 l lo hi px py W0 hk hn (h.ext hb0) hp)
  generalize reachB ⟨x0, x1, x2, x3, x4, x5⟩ l px py = rb at *
  have c0 := (Lib.cell_of_heap hX 0).trans rfl
  have c1 := (Lib.cell_of_heap hX 1).trans rfl
  have c2 := (Lib.cell_of_heap hX 2).trans rfl
  have c3 := (Lib.cell_of_heap hX 3).trans rfl
  have c4 := (Lib.cell_of_heap hX 4).trans rfl
  have c5 := (Lib.cell_of_heap hX 5).trans rfl
  have c6 := (Lib.cell_of_heap hX 6).trans rfl
  have d0 := (Lib.cell_of_heap hY 0).trans rfl
  have d1 := (Lib.cell_of_heap hY 1).trans rfl
  clear hX hY hk hn h hp hz0
  go_enter Try.func17, Try.ntmps17
  go_wp2_with fail
  refine hL.out.mono ?_
  rintro e w1 ⟨ld, rfl, hb1⟩
  have B1 := hb0.trans (hb1.mono hb0.size)
  clear hL hb1
  cases rb
  · have hr : reachC false = 3 := rfl
    rw [hr]
    go_wp2
    go_ret
    exact ⟨rfl, B1⟩
  · have hr : reachC true = 0 := rfl
    rw [hr]
    go_wp2
    go_ret
    exact ⟨rfl, B1⟩
noncomputable def covB (L : SiteL) (px py : Int) (k : Nat) : Bool := match L[k]? with | some x => reachB x.1 x.2 px py | none => false
theorem covB_at {L : SiteL} {px py : Int} {k : Nat} (hk : k < L.length) : covB L px py k = reachB L[k].1 L[k].2 px py := by unfold covB; rw [List.getElem?_eq_getElem hk]
set_option maxRecDepth 100000 in
set_option maxHeartbeats 2000000 in
theorem impl_CvFn (x0 : ByteArray) (x1 x2 x3 x4 x5 : Int) (sa2 : Option Addr) (sl2 sc2 : Nat) (l : List Chs) (lo hi k q : Nat) (px py : Int) (w : World) (hk : craneOk ⟨x0, x1, x2, x3, x4, x5⟩ l) (hn : x0.size ≤ maxLen) (h : Chss lo hi w (.slice sa2 sl2 sc2) l) (hp : Pl px py) (hq : w.cell? ⟨q, 0, none⟩ = some (.int .i64 px)) (hq' : w.cell? ⟨q, 1, none⟩ = some (.int .i64 py)) :
    Calls Try.prog 38 #[.int .i64 k, (.agg #[.string x0, .int .i64 x1, .int .i64 x2, .int .i64 x3, .int .i64 x4, .int .i64 x5, .slice sa2 sl2 sc2]), .pointer (some ⟨q, 0, none⟩)] w fun e w' => e = .returned (.bool (reachB ⟨x0, x1, x2, x3, x4, x5⟩ l px py)) ∧ Below w.heap.size w w' := by
  have hql := World.block_lt_of_cell? w _ hq
  have hba : Below w.heap.size w (w.alloc (.cells #[.string x0, .int .i64 x1, .int .i64 x2, .int .i64 x3, .int .i64 x4, .int .i64 x5, .slice sa2 sl2 sc2] 35)) := (Below.refl _ _).alloc (Nat.le_refl _) _
  have hX := blkN_new w (.cells #[.string x0, .int .i64 x1, .int .i64 x2, .int .i64 x3, .int .i64 x4, .int .i64 x5, .slice sa2 sl2 sc2] 35)
  have q0 := (hba.cell (p := ⟨q, 0, none⟩) hql).trans hq
  have q1 := (hba.cell (p := ⟨q, 1, none⟩) hql).trans hq'
  have hL := Lib.hid (impl_Reaches x0 x1 x2 x3 x4 x5 sa2 sl2 sc2 l lo hi px py (w.alloc (.cells #[.string x0, .int .i64 x1, .int .i64 x2, .int .i64 x3, .int .i64 x4, .int .i64 x5, .slice sa2 sl2 sc2] 35)) hk hn (h.ext hba) hp)
  generalize reachB ⟨x0, x1, x2, x3, x4, x5⟩ l px py = rb at *
  have c0 := (Lib.cell_of_heap hX 0).trans rfl
  have c1 := (Lib.cell_of_heap hX 1).trans rfl
  have c2 := (Lib.cell_of_heap hX 2).trans rfl
  have c3 := (Lib.cell_of_heap hX 3).trans rfl
  have c4 := (Lib.cell_of_heap hX 4).trans rfl
  have c5 := (Lib.cell_of_heap hX 5).trans rfl
  have c6 := (Lib.cell_of_heap hX 6).trans rfl
  clear hX hk hn h hp hq hq'
  go_enter Try.func38, Try.ntmps38
  go_wp2_with fail
  refine hL.out.mono ?_
  rintro e w1 ⟨rfl, hb1⟩
  go_wp2
  go_ret
  exact ⟨rfl, hba.trans (hb1.mono hba.size)⟩
set_option maxRecDepth 100000 in
set_option maxHeartbeats 4000000 in
theorem impl_ThatCv (s : SV) (rs : List CraneR) (L : SiteL) (lo hi q : Nat) (px py : Int) (w : World) (h : Cranes lo hi w s.v rs L) (hwf : L.wf) (hok : siteOk L) (hp : Pl px py) (hq : w.cell? ⟨q, 0, none⟩ = some (.int .i64 px)) (hq' : w.cell? ⟨q, 1, none⟩ = some (.int .i64 py)) :
    Calls Try.prog 32 #[.agg #[s.v], .func (.func 38) #[] #[.pointer (some ⟨q, 0, none⟩)]] w (PickOut (covB L px py) L.length w) := by
  have hql := World.block_lt_of_cell? w _ hq
  have Hq := Lib.hid (fun W (hb : Below w.heap.size w W) => (hb.cell (p := ⟨q, 0, none⟩) hql).trans hq)
  have H1 := Lib.hid (fun W (hb : Below w.heap.size w W) => (hb.cell (p := ⟨q, 1, none⟩) hql).trans hq')
  have Hwf := Lib.hid hwf
  clear hq hq' hwf
  have hl1 := h.len
  have hcap : rs.length ≤ 9223372036854775807 := by obtain ⟨a, cap, _, hc, _⟩ := h.out; omega
  obtain ⟨sa, sl, sc⟩ := s
  have hba : Below w.heap.size w (w.alloc (.cells #[.slice sa sl sc] 26)) := (Below.refl _ _).alloc (Nat.le_refl _) _
  have Hs := Lib.hid h
  obtain ⟨a', c', hv⟩ : ∃ a c, SV.v ⟨sa, sl, sc⟩ = .slice a L.length c := by obtain ⟨a, cap, hv, _⟩ := h.out; exact ⟨a, cap, by rw [← h.len]; exact hv⟩
  simp only [SV.v] at hv Hs ⊢
  obtain rfl : L.length = sl := by cases hv; rfl
  have hL6 := hok.2.2
  have Hl1 := Lib.hid hl1
  have Hok := Lib.hid hok
  clear hl1 h hok hv
  go_enter Try.func32, Try.ntmps32
  go_wp2
  go_loopw [5, 11] (fun o i wr => ∃ (k : Nat) (acc : List Int), k ≤ L.length ∧ i = .int .i64 k ∧ Below w.heap.size w wr ∧ Hid (Own 1 intCells w.heap.size 2 wr o acc) ∧ Hid (Picks (covB L px py) k acc)) (fun _ i _ => L.length - (intOf i).toNat)
  case atStart => exact ⟨0, [], Nat.zero_le _, rfl, hba, Lib.hid (own_nil _ _ _), Lib.hid (Picks.zero _)⟩
  case round =>
    obtain ⟨k, acc, hk, rfl, hB, hown, hpk⟩ := hrel
    have hBs := hB.size
    obtain ⟨va, vc, rfl⟩ := own_sv hown.out
    have hal := hpk.out.len
    by_cases hlt : k < L.length
    · have hk1 : k < rs.length := by rw [Hl1.out]; exact hlt
      have hs : Cranes lo hi wr (.slice sa L.length sc) rs L := Hs.out.ext hB
      obtain ⟨hfl, hrow⟩ := hs.one hlt hk1
      obtain ⟨b, off, rfl⟩ := hs.out.addr (by omega)
      obtain ⟨c0, c1, c2, c3, c4, c5, c6⟩ := Cranes_at hs hk1
      rw [hfl] at c0 c1 c2 c3 c4 c5
      have Hyes := Lib.hid (fun h => hpk.out.yes (k := k) h)
      have Hno := Lib.hid (fun h => hpk.out.no (k := k) h)
      have hrk := (Hok.out.1 k hlt).1
      (have hnm := (Hwf.out _ (List.getElem_mem hlt)).1.1; have hcl := fun W (hb : Below wr.heap.size wr W) => impl_CvFn L[k].1.name L[k].1.x L[k].1.y L[k].1.height L[k].1.jib L[k].1.back rs[k].s.a rs[k].s.len rs[k].s.cap L[k].2 lo hi k q px py W hrk hnm (hrow.ext hb) hp (Hq.out _ (hB.trans (hb.mono hBs))) (H1.out _ (hB.trans (hb.mono hBs))); rw [show reachB ⟨L[k].1.name, L[k].1.x, L[k].1.y, L[k].1.height, L[k].1.jib, L[k].1.back⟩ L[k].2 px py = covB L px py k from (covB_at hlt).symm] at hcl; clear hrow hnm)
      clear hs hfl
      generalize rs[k].s = sk at *
      obtain ⟨sa2, sl2, sc2⟩ := sk
      simp only [SV.v] at c6
      generalize L[k].1 = f at *
      obtain ⟨x0, x1, x2, x3, x4, x5⟩ := f
      dsimp only at *
      have hbx : Below wr.heap.size wr (wr.alloc (.cells #[.string x0, .int .i64 x1, .int .i64 x2, .int .i64 x3, .int .i64 x4, .int .i64 x5, .slice sa2 sl2 sc2] 35)) := (Below.refl _ _).alloc (Nat.le_refl _) _
      have hcall := Lib.hid (hcl _ hbx)
      clear hcl hrk
      obtain ⟨na, hna⟩ : ∃ na, acc.length = na := ⟨_, rfl⟩
      rw [hna] at hal ⊢
      cases hr : (covB L px py) k
      · have Hd := Lib.hid (Hno.out hr)
        rw [hr] at hcall
        go_wp2_with fail
        refine hcall.out.mono ?_
        rintro e w1 ⟨rfl, hb1⟩
        have hB1 := hbx.trans (hb1.mono (by simp))
        have hown1 := Lib.hid (hown.out.below hB1)
        go_wp2
        go_roundw
        case rel => exact ⟨k + 1, acc, by omega, by go_num, hB.trans (hB1.mono hBs), by rw [← hna]; exact hown1, Hd⟩
        case measure => simp [intOf]; omega
      · have Hd := Lib.hid (Hyes.out hr)
        rw [hr] at hcall
        go_wp2_with fail
        refine hcall.out.mono ?_
        rintro e w1 ⟨rfl, hb1⟩
        have hB1 := hbx.trans (hb1.mono (by simp))
        have hB1' := hB.trans (hB1.mono hBs)
        have hBs1 := hB1'.size
        have hown1 := Lib.hid (hown.out.below hB1)
        rw [hna] at hown1
        clear hb1 hB1
        go_wp2_with (at_builtin; refine wpList_app1 (c := intCells) (bytes := 8) rfl _ _ 43 2 rfl Try.underlying43 info_i64n (by omega) intCells_len intCells_one w.heap.size acc (k : Int) _ rfl _ rfl hown1.out rfl (by omega) (by omega) hBs1 ?_; intro v' w3 hown3 hg3; have hB3 := hown1.out.app hB1' (Nat.le_refl _) hBs1 hg3; have Hown3 := Lib.hid hown3; clear hown3)
        go_roundw
        case rel => exact ⟨k + 1, acc ++ [(k : Int)], by omega, by go_num, hB3, Hown3, Hd⟩
        case measure => simp [intOf]; omega
    · have hkk : k = L.length := by omega
      subst hkk
      have Hown := Lib.hid (hown.out.slw intCells_len)
      go_wp2
      go_ret
      exact ⟨_, acc, rfl, Hown.out, hpk.out, hB⟩
set_option maxRecDepth 100000 in
set_option maxHeartbeats 4000000 in
theorem impl_CoverOf (s : SV) (rs : List CraneR) (L : SiteL) (lo hi : Nat) (px py : Int) (w : World) (h : Cranes lo hi w s.v rs L) (hwf : L.wf) (hok : siteOk L) (hp : Pl px py) :
    Calls Try.prog 16 #[.agg #[s.v], .agg #[.int .i64 px, .int .i64 py]] w (NbOut (covB L px py) L.length w) := by
  obtain ⟨W0, hW0, hX, hY, hb0, hz0⟩ := dkx2C w (.cells #[s.v] 26) (.cells #[.int .i64 px, .int .i64 py] 30)
  have hV := impl_SiteOk s rs L lo hi W0 (h.ext hb0) hwf
  rw [siteB_t hok] at hV
  have hP := Lib.hid (fun W => impl_Pl px py W)
  rw [decide_eq_true hp] at hP
  have hT := Lib.hid (fun W (hb : Below w.heap.size w W) q => impl_ThatCv s rs L lo hi q px py W (h.ext hb) hwf hok hp)
  have hln : ∃ a cap, s.v = .slice a L.length cap := by obtain ⟨a, cap, hv, _⟩ := h.out; exact ⟨a, cap, by rw [← h.len]; exact hv⟩
  obtain ⟨a, cap, hsv⟩ := hln
  rw [hsv] at hV hT hX hW0 ⊢
  have hV := Lib.hid hV
  have c0 := (Lib.cell_of_heap hX 0).trans rfl
  have hX := Lib.hid hX
  have hY := Lib.hid hY
  clear h hwf hok hsv hz0
  go_enter Try.func16, Try.ntmps16
  go_wp2_with fail
  refine hV.out.mono ?_
  rintro e w1 ⟨rfl, hb1⟩
  clear c0
  have hX := Lib.hid (nxtC hb1 hX.out)
  have hY := Lib.hid (nxtC hb1 hY.out)
  have B1 := hb0.trans (hb1.mono hb0.size)
  have d0 := (Lib.cell_of_heap hY.out 0).trans rfl
  have d1 := (Lib.cell_of_heap hY.out 1).trans rfl
  clear hb1 hb0 hV
  go_wp2_with fail
  refine (hP.out _).mono ?_
  rintro e w2 ⟨rfl, hb2⟩
  have hX := Lib.hid (nxtC hb2 hX.out)
  have hY := Lib.hid (nxtC hb2 hY.out)
  have B2 := B1.trans (hb2.mono B1.size)
  clear d0 d1 hb2 B1
  have c0 := (Lib.cell_of_heap hX.out 0).trans rfl
  have hC := Lib.hid (hT.out w2 B2 (w.heap.size + 1) ((Lib.cell_of_heap hY.out 0).trans rfl) ((Lib.cell_of_heap hY.out 1).trans rfl))
  go_wp2_with fail
  refine hC.out.mono ?_
  rintro e w3 ⟨v, l, rfl, hsl, hpk, hb3⟩
  have Hsl := Lib.hid (hsl.widenN B2.size (Nat.le_refl _))
  have Hpk := Lib.hid hpk
  have B3 := B2.trans (hb3.mono B2.size)
  clear hsl hpk hb3 hC hT hP
  go_wp2
  go_ret2
  exact ⟨_, l, rfl, Hsl.out, Hpk.out, B3⟩
set_option maxRecDepth 100000 in
set_option maxHeartbeats 2000000 in
theorem impl_CraneNamed (s : SV) (rs : List CraneR) (L : SiteL) (lo hi : Nat) (nm : ByteArray) (w : World) (h : Cranes lo hi w s.v rs L) (hwf : L.wf) (hok : siteOk L) (k : Nat) (hk : k < L.length) (hnm : L[k].1.name = nm) (hfi : ∀ i (h : i < L.length), i < k → ¬ L[i].1.name = nm) :
    Calls Try.prog 9 #[.agg #[s.v], .string nm] w fun e w' => e = .returned (.tuple #[.int .i64 k, .int .i64 0]) ∧ Below w.heap.size w w' := by
  have hba : Below w.heap.size w (w.alloc (.cells #[s.v] 26)) := (Below.refl _ _).alloc (Nat.le_refl _) _
  have hX := blkN_new w (.cells #[s.v] 26)
  have hV := impl_SiteOk s rs L lo hi _ (h.ext hba) hwf
  rw [siteB_t hok] at hV
  have hN := fun W (hb : Below w.heap.size w W) => impl_NamedX s rs L lo hi nm W (h.ext hb)
  have hres : Hid (∀ e, NmX L nm e → e = .returned (.int .i64 k)) := Lib.hid (by
    rintro e ⟨r, rfl, ⟨j, hj, h1, h2, rfl⟩ | ⟨h1, rfl⟩⟩
    · rcases Nat.lt_trichotomy j k with hjk | rfl | hjk
      · exact absurd h1 (hfi j hj hjk)
      · rfl
      · exact absurd hnm (h2 k hk hjk)
    · exact absurd ⟨k, hk, hnm⟩ h1)
  have hln : ∃ a cap, s.v = .slice a L.length cap := by obtain ⟨a, cap, hv, _⟩ := h.out; exact ⟨a, cap, by rw [← h.len]; exact hv⟩
  obtain ⟨a, cap, hsv⟩ := hln
  rw [hsv] at hV hN hX hba ⊢
  have hV := Lib.hid hV
  have hN := Lib.hid hN
  have hX := Lib.hid hX
  have hk6 := hok.2.2
  have hk0 : (0 : Int) ≤ (k : Int) := Int.natCast_nonneg _
  clear h hwf hok hsv hnm hfi
  go_enter Try.func9, Try.ntmps9
  go_wp2_with fail
  refine hV.out.mono ?_
  rintro e w1 ⟨rfl, hb1⟩
  have B1 := hba.trans (hb1.mono hba.size)
  have c0 := (Lib.cell_of_heap (nxtC hb1 hX.out) 0).trans rfl
  clear hb1 hba hV
  go_wp2_with fail
  refine (hN.out _ B1).mono ?_
  rintro e w2 ⟨hr, hb2⟩
  obtain rfl := hres.out e hr
  have B2 := B1.trans (hb2.mono B1.size)
  clear hr hb2 hN hres
  go_wp2
  go_ret2
  exact ⟨rfl, B2⟩
end Go.Proofs.Ytejicefmbodpdaa
