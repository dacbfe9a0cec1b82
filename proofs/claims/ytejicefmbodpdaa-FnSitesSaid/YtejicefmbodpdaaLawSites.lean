/- The law FnSites. -/
import Derived.Test.YtejicefmbodpdaaStD
import Derived.Test.YtejicefmbodpdaaStN
import Derived.Test.YtejicefmbodpdaaAddI
import Derived.Test.YtejicefmbodpdaaSmC
import Derived.Test.YtejicefmbodpdaaAt
import Derived.WideShapes
namespace Go.Proofs.Ytejicefmbodpdaa
open Go.RowKit Go.Deep
theorem cells_uint8 : Try.prog.cellsOf 5 = 1 := by kernel_rfl
set_option maxRecDepth 100000 in
theorem open_Byte {H : Type} {enc : TypeId × Value → H} {W : World} {base : Nat} {spare : Nat → Bool} {held : Bool} (fuel : Nat) (cs : List Value) (y : DataW H × List MemPlace) (hy : DataW.trod enc Try.prog W base spare held fuel 5 cs = some y) :
    ∃ x : UInt8, cs = byteC x ∧ True := by
  obtain ⟨x, h1, _, hw⟩ := DataW.trod_int Try.underlying5 hy
  have hx : 0 ≤ x ∧ x ≤ 255 := by simpa [Lit.wf, IntKind.min, IntKind.max, IntKind.signed, IntKind.bits] using hw
  exact ⟨UInt8.ofNat x.toNat, by rw [h1]; unfold byteC; rw [UInt8.toNat_ofNat']; congr 2; omega, trivial⟩
set_option maxRecDepth 100000 in
theorem open_SByte {H : Type} {enc : TypeId × Value → H} {W : World} {base : Nat} {v : Value} {d : DataW H} {p : List MemPlace} (hv : Value.okWide Try.prog W .any base 22 v)
    (h : DataW.Trod enc Try.prog W 0 (fun _ => true) true 22 v d p) (_hlt : ∀ x ∈ p, x.block < W.heap.size) : ∃ l : List UInt8, Sl 1 byteC 0 W.heap.size W v l := by
  obtain ⟨l, hl, _⟩ := open_list Try.underlying22 cells_uint8 (by omega) open_Byte h (Go.WideShapes.okWide_slice Try.underlying22 hv)
  exact ⟨l, hl⟩
/-- The crane that the law adds. -/
def zoeF (q : Nat) : CraneF := ⟨zoe, 1000, 1000 + (q : Int), 300, 400, 50⟩
def zoeL : List Chs := [⟨100, 3000⟩]
theorem zoe_nm : isNm zoe := by
  refine ⟨by decide, by decide, fun i hi => ?_⟩
  have hi3 : i < 3 := hi
  match i, hi3 with
  | 0, _ => exact .inl (show 97 ≤ (122 : UInt8).toNat ∧ (122 : UInt8).toNat ≤ 122 by decide)
  | 1, _ => exact .inl (show 97 ≤ (111 : UInt8).toNat ∧ (111 : UInt8).toNat ≤ 122 by decide)
  | 2, _ => exact .inl (show 97 ≤ (101 : UInt8).toNat ∧ (101 : UInt8).toNat ≤ 122 by decide)
theorem i64_b (x : Int) (h : 0 ≤ x ∧ x ≤ 1000000) : I64 x := ⟨by omega, by omega⟩
theorem zoe_ok {q : Nat} (h : (q : Int) < 50) : craneOk (zoeF q) zoeL := by
  refine ⟨zoe_nm, ⟨?_, ?_⟩, ?_, ?_, ?_, ⟨fun i hi => ?_, by decide, by decide⟩, ?_⟩
  · show -10000 ≤ (1000 : Int) ∧ (1000 : Int) ≤ 10000
    omega
  · show -10000 ≤ 1000 + (q : Int) ∧ 1000 + (q : Int) ≤ 10000
    omega
  · show 1 ≤ (300 : Int) ∧ (300 : Int) ≤ 2000
    omega
  · show 1 ≤ (400 : Int) ∧ (400 : Int) ≤ 1000
    omega
  · show 0 ≤ (50 : Int) ∧ (50 : Int) ≤ 400
    omega
  · have hi0 : i = 0 := by simp [zoeL] at hi; exact hi
    subst hi0
    refine ⟨?_, fun h => absurd h (by omega)⟩
    show (1 ≤ (100 : Int) ∧ (100 : Int) ≤ 1000) ∧ (0 ≤ (3000 : Int) ∧ (3000 : Int) ≤ 50000)
    omega
  · show (100 : Int) ≤ 400
    omega
theorem zoe_wf {q : Nat} (h : (q : Int) < 50) : (zoeF q).wf ∧ ∀ y ∈ zoeL, y.wf := by
  refine ⟨⟨?_, i64_b 1000 (by omega), i64_b (1000 + (q : Int)) (by omega), i64_b 300 (by omega), i64_b 400 (by omega), i64_b 50 (by omega)⟩, fun y hy => ?_⟩
  · show (3 : Nat) ≤ maxLen
    unfold maxLen; omega
  · simp [zoeL] at hy; subst hy; exact ⟨i64_b 100 (by omega), i64_b 3000 (by omega)⟩
theorem zoe_added {L : SiteL} {q : Nat} (hok : siteOk L) (hdr : DrS L) (hl : L.length ≤ 4) (h : (q : Int) < 50) : added L (zoeF q, zoeL) = (L ++ [(zoeF q, zoeL)], 0) := by
  have hn : ¬ hasNm L (zoeF q).name := fun ⟨i, hi, e⟩ => (hdr _ (List.getElem_mem hi)).2.1 e
  have hnr : ¬ nearAny L (zoeF q) := fun ⟨i, hi, e⟩ => by
    have hx := (hdr _ (List.getElem_mem hi)).2.2.1
    have hy := (hdr _ (List.getElem_mem hi)).2.2.2.1
    generalize L[i].1 = f at *
    have e1 : sq4 f.x f.y 1000 (1000 + (q : Int)) ≤ 100 := e
    unfold sq4 at e1
    have h1 := sq_mono (a := 400) (b := 1000 - f.x) (by omega) (by omega)
    have h2 : (f.x - 1000) * (f.x - 1000) = (1000 - f.x) * (1000 - f.x) := by rw [← Int.neg_mul_neg]; congr 1 <;> omega
    have h3 : 0 ≤ (f.y - (1000 + (q : Int))) * (f.y - (1000 + (q : Int))) := by
      rcases Int.le_total 0 (f.y - (1000 + (q : Int))) with h | h
      · exact Int.mul_nonneg h h
      · have := Int.mul_nonneg_of_nonpos_of_nonpos h h; exact this
    omega
  rcases added_cases L (zoeF q, zoeL) with ⟨h1, _⟩ | ⟨_, h2, _⟩ | ⟨_, _, h3, _⟩ | ⟨_, _, _, h4, _⟩ | ⟨_, _, _, _, h5, _⟩ | ⟨_, _, _, _, _, h6⟩
  · rw [siteB_t hok] at h1; cases h1
  · rw [craneB_t (zoe_ok h)] at h2; cases h2
  · exact absurd h3 hn
  · omega
  · exact absurd h5 hnr
  · exact h6
theorem zoe_site {L : SiteL} {q : Nat} (hok : siteOk L) (hdr : DrS L) (hl : L.length ≤ 4) (h : (q : Int) < 50) : siteOk (L ++ [(zoeF q, zoeL)]) := by
  have hn : ¬ hasNm L (zoeF q).name := fun ⟨i, hi, e⟩ => (hdr _ (List.getElem_mem hi)).2.1 e
  refine (added_ok (x := (zoeF q, zoeL)) hok (zoe_ok h) hn (by omega)).2 fun hnr => ?_
  have h0 := zoe_added hok hdr hl h
  unfold added at h0
  rw [if_pos ⟨siteB_t hok, craneB_t (zoe_ok h)⟩, if_neg hn, if_neg (by omega), if_pos hnr] at h0
  have h9 := congrArg Prod.snd h0
  simp at h9
theorem zoe_removed {L : SiteL} {x : CraneF × List Chs} (hok : siteOk (L ++ [x])) (hl : 1 ≤ L.length) : removed (L ++ [x]) (L.length : Int) = (L, 0) := by
  have h0 := code4_in hok (n := L.length) (by simp)
  rw [removed_yes h0 (fun e => by rw [List.length_append, List.length_singleton] at e; omega), Int.toNat_natCast]
  congr 1
  rw [List.eraseIdx_append_of_length_le (Nat.le_refl _)]
  simp
theorem zoe_first {L : SiteL} {q : Nat} (hdr : DrS L) : ∀ i (h : i < (L ++ [(zoeF q, zoeL)]).length), i < L.length → ¬ (L ++ [(zoeF q, zoeL)])[i].1.name = zoe := fun i h hi => by
  rw [List.getElem_append_left hi]
  exact (hdr _ (List.getElem_mem hi)).2.1
theorem sl_chart {w : World} {p : Nat} {T : TypeId} {fz : Nat × Nat} (h : w.heap[p]? = some (.cells #[.int .i64 100, .int .i64 3000] T fz)) : Chss 0 w.heap.size w (.slice (some ⟨p, 0, none⟩) 1 1) zoeL := by
  refine ⟨_, 1, rfl, ⟨by decide, by decide⟩, fun _ => ⟨p, 0, rfl, Nat.zero_le _, (Array.getElem?_eq_some_iff.1 h).1, fun i hi j u hu => ?_⟩⟩
  have hi0 : i = 0 := by simp [zoeL] at hi; exact hi
  subst hi0
  have e : (Chs.cells zoeL[0])[j]? = (#[Value.int .i64 100, .int .i64 3000] : Array Value)[j]? := by simp [zoeL, Chs.cells]
  rw [e] at hu
  rw [show 0 + 0 * 2 + j = j by omega, Lib.cell_of_heap h j]
  exact hu
/-- The world of the law: the site with one more crane is boxed, and reads. -/
structure StE (w : World) (p : Nat) (s : SV) (rs : List CraneR) (L : SiteL) (W : World) : Prop where
  b : Below w.heap.size w W
  x : W.heap[p]? = some (.cells #[s.v] 26 (0, 0))
  r : Cranes 0 W.heap.size W s.v rs L
theorem StE.on {w W W' : World} {p : Nat} {s : SV} {rs : List CraneR} {L : SiteL} (h : StE w p s rs L W) (hb : Below W.heap.size W W') : StE w p s rs L W' :=
  ⟨h.b.trans (hb.mono h.b.size), nxtV hb h.x, (NSr.ext h.r hb).mono (Nat.le_refl _) hb.size⟩
theorem spec_VSite (s : SV) (rs : List CraneR) (L : SiteL) (lo hi : Nat) (w : World) (h : Cranes lo hi w s.v rs L) (hwf : L.wf) : Calls Try.prog 8 #[.agg #[s.v]] w fun e w' => e = .returned (.bool (siteB L)) ∧ Below w.heap.size w w' := by
  have hba : Below w.heap.size w (w.alloc (.cells #[s.v] 26)) := (Below.refl _ _).alloc (Nat.le_refl _) _
  have hX := blkN_new w (.cells #[s.v] 26)
  have hV := Lib.hid (spec_SiteOk w.heap.size s.v rs L lo hi _ ((Lib.cell_of_heap hX 0).trans rfl) (h.ext hba) hwf)
  obtain ⟨sa, sl, sc⟩ := s
  simp only [SV.v] at *
  clear h hX
  go_enter Try.func8, Try.ntmps8
  go_wp2_with fail
  refine hV.out.mono ?_
  rintro e w1 ⟨rfl, hb1⟩
  go_wp2
  go_ret
  exact ⟨rfl, hba.trans (hb1.mono hba.size)⟩
theorem spec_SSite (s s2 : SV) (rs rs2 : List CraneR) (L : SiteL) (lo hi lo2 hi2 : Nat) (w : World) (h : Cranes lo hi w s.v rs L) (h2 : Cranes lo2 hi2 w s2.v rs2 L) : Calls Try.prog 11 #[.agg #[s.v], .agg #[s2.v]] w fun e w' => e = .returned (.bool true) ∧ Below w.heap.size w w' := by
  obtain ⟨W0, hW0, hX, hY, hb0, hz0⟩ := dkx2C w (.cells #[s.v] 26) (.cells #[s2.v] 26)
  have hV := spec_SameSCrane w.heap.size (w.heap.size + 1) 0 0 s.v s2.v rs rs2 L L lo hi lo2 hi2 W0 ((Lib.cell_of_heap hX 0).trans rfl) ((Lib.cell_of_heap hY 0).trans rfl) (h.ext hb0) (h2.ext hb0)
  rw [eqL_t rfl] at hV
  have hV := Lib.hid hV
  obtain ⟨sa, sl, sc⟩ := s
  obtain ⟨ta, tl, tc⟩ := s2
  simp only [SV.v] at *
  clear h h2 hX hY hz0
  go_enter Try.func11, Try.ntmps11
  go_wp2_with fail
  refine hV.out.mono ?_
  rintro e w1 ⟨rfl, m, rfl⟩
  go_wp2
  go_ret
  exact ⟨rfl, below_dN hb0 _⟩
set_option maxRecDepth 100000 in
set_option maxHeartbeats 8000000 in
theorem law_Sites {v v2 : Value} (l l2 : List UInt8) (w : World) (h : Sl 1 byteC 0 w.heap.size w v l) (h2 : Sl 1 byteC 0 w.heap.size w v2 l2) :
    Calls Try.prog 3 #[v, v2] w fun e w' => e = .returned (.bool true) ∧ Below w.heap.size w w' := by
  have hcap : l.length ≤ 9223372036854775807 := by obtain ⟨a, cap, _, h, _⟩ := h; omega
  have hcap2 : l2.length ≤ 9223372036854775807 := by obtain ⟨a, cap, _, h, _⟩ := h2; omega
  by_cases hbig : 3000 < l.length
  · obtain ⟨a, cap, rfl, -⟩ := h
    obtain ⟨a2, cap2, rfl, -⟩ := h2
    have hn : decide ((3000 : Int) < (l.length : Int)) = true := decide_eq_true (by omega)
    go_enter Try.func3, Try.ntmps3
    go_wp2_with (first | (go_at_call 4; go_in))
    go_ret
    exact ⟨rfl, Below.refl _ _⟩
  by_cases hbig2 : 3000 < l2.length
  · obtain ⟨a, cap, rfl, -⟩ := h
    obtain ⟨a2, cap2, rfl, -⟩ := h2
    have hn : decide ((3000 : Int) < (l.length : Int)) = false := decide_eq_false (by omega)
    have hn2 : decide ((3000 : Int) < (l2.length : Int)) = true := decide_eq_true (by omega)
    go_enter Try.func3, Try.ntmps3
    go_wp2_with (first | (go_at_call 4; go_in))
    go_ret
    exact ⟨rfl, Below.refl _ _⟩
  have hd := Lib.hid (draw_A2Site v l _ w h (Nat.le_refl _) (by omega))
  have hdp := Lib.hid (fun W (hb : Below w.heap.size w W) => draw_A2Places v2 l2 w.heap.size W (h2.ext hb) hb.size (by omega))
  have hAt := Lib.hid (fun (kI n : Int) W (hb : Below w.heap.size w W) (hk : 0 ≤ kI ∧ kI ≤ 1000000) (hn : 1 ≤ n ∧ n ≤ 1000000) => show Calls Try.prog 6 #[v2, .int .i64 kI, .int .i64 n] W fun e w'' => (∃ q : Nat, e = .returned (.int .i64 q) ∧ (q : Int) < n) ∧ Below W.heap.size W w'' by
    obtain ⟨k, rfl⟩ : ∃ k : Nat, kI = k := ⟨kI.toNat, by omega⟩
    exact law_at v2 l2 0 _ k n W (h2.below hb (Nat.le_refl _)) (by omega) (by omega) hn)
  obtain ⟨a, cap, rfl, -⟩ := h
  obtain ⟨a2, cap2, rfl, -⟩ := h2
  have hn : decide ((3000 : Int) < (l.length : Int)) = false := decide_eq_false (by omega)
  have hn2 : decide ((3000 : Int) < (l2.length : Int)) = false := decide_eq_false (by omega)
  clear hbig hbig2 hcap hcap2
  go_enter Try.func3, Try.ntmps3
  go_wp2_with (first | (go_at_call 4; go_in) | fail)
  refine hd.out.mono ?_
  rintro e w1 ⟨⟨sa, sl, sc⟩, rs, L, rfl, hcr1, hok, hl4, hdr, hb1⟩
  clear hd hn hn2
  have hn1 : 1 ≤ L.length := hok.2.1
  obtain ⟨a', c', hv⟩ := cranes_v hcr1
  simp only [SV.v] at hv hcr1 ⊢
  obtain rfl : L.length = sl := by cases hv; rfl
  obtain rfl : a' = sa := by cases hv; rfl
  obtain rfl : c' = sc := by cases hv; rfl
  clear hv
  obtain ⟨n, hn⟩ : ∃ n, L.length = n := ⟨_, rfl⟩
  have hb2 := (Below.refl w1.heap.size w1).alloc (Nat.le_refl _) (.cells #[.slice a' n c'] 26 (0, 0))
  have X5 := Lib.hid (blkN_new w1 (.cells #[.slice a' n c'] 26 (0, 0)))
  have B2 := hb1.trans (hb2.mono hb1.size)
  have hcr2 := Lib.hid ((NSr.ext hcr1 hb2).mono (show 0 ≤ w.heap.size by omega) (show w1.heap.size ≤ (w1.alloc (.cells #[.slice a' n c'] 26 (0, 0))).heap.size by simp))
  rw [hn] at hcr2 hl4 hn1 ⊢
  have Hn := Lib.hid hn
  have Hok := Lib.hid hok
  have Hdr := Lib.hid hdr
  clear hcr1 hok hdr hb1 hb2 hn
  have c5 := (Lib.cell_of_heap X5.out 0).trans rfl
  go_wp2_with fail
  generalize w1.alloc (.cells #[.slice a' n c'] 26 (0, 0)) = w2 at *
  refine (hAt.out _ _ w2 B2 (by omega) (by omega)).mono ?_
  rintro e w3 ⟨⟨q, rfl, hq⟩, hb3⟩
  have X5 := Lib.hid (nxtV hb3 X5.out)
  have hcr3 := Lib.hid ((NSr.ext hcr2.out hb3).mono (Nat.le_refl _) hb3.size)
  have B3 := B2.trans (hb3.mono B2.size)
  clear c5 hb3 hcr2
  obtain ⟨w4, hw4, hXc, hX7, hb4, hz4⟩ := dkx2C w3 (.cells #[.int .i64 100, .int .i64 3000] 32) (.cells #[.string ⟨#[122, 111, 101]⟩, .int .i64 1000, .int .i64 (1000 + (q : Int)), .int .i64 300, .int .i64 400, .int .i64 50, .slice (some ⟨w3.heap.size, 0, none⟩) 1 1] 35)
  have X5 := Lib.hid (nxtV hb4 X5.out)
  have hcr4 := Lib.hid ((NSr.ext hcr3.out hb4).mono (Nat.le_refl _) hb4.size)
  have B4 := B3.trans (hb4.mono B3.size)
  have hch := Lib.hid (sl_chart hXc)
  have c5 := (Lib.cell_of_heap X5.out 0).trans rfl
  have k0 := (Lib.cell_of_heap hX7 0).trans rfl
  have k1 := (Lib.cell_of_heap hX7 1).trans rfl
  have k2 := (Lib.cell_of_heap hX7 2).trans rfl
  have k3 := (Lib.cell_of_heap hX7 3).trans rfl
  have k4 := (Lib.cell_of_heap hX7 4).trans rfl
  have k5 := (Lib.cell_of_heap hX7 5).trans rfl
  have k6 := (Lib.cell_of_heap hX7 6).trans rfl
  clear hXc hX7 hb4 hz4 B3 hcr3
  have hAdd := impl_AddCrane ⟨a', n, c'⟩ rs L _ _ (zoeF q) ⟨some ⟨w3.heap.size, 0, none⟩, 1, 1⟩ zoeL _ _ w4 hcr4.out (DrS.wf Hdr.out) hch.out (zoe_wf hq)
  rw [zoe_added Hok.out Hdr.out (by rw [Hn.out]; exact hl4) hq] at hAdd
  simp only [zoeF, zoe, CraneR.cells, SV.v] at hAdd
  have hAdd := Lib.hid hAdd
  have HL := Lib.hid (zoe_site (q := q) Hok.out Hdr.out (by rw [Hn.out]; exact hl4) hq)
  go_wp2_with fail
  refine hAdd.out.mono ?_
  rintro e w5 ⟨⟨xa, xl, xc⟩, rx, rfl, hcx, hb5⟩
  have hlx := hcx.len
  obtain ⟨x', y', hv⟩ := cranes_v hcx.r
  have hrm := zoe_removed HL.out (by rw [Hn.out]; exact hn1)
  rw [Hn.out] at hrm
  have hfi := zoe_first (q := q) Hdr.out
  have hat : ∀ h : n < (L ++ [(zoeF q, zoeL)]).length, (L ++ [(zoeF q, zoeL)])[n].1.name = zoe := fun h => by rw [List.getElem_append_right (by rw [Hn.out]; exact Nat.le_refl _)]; simp only [Hn.out, Nat.sub_self, List.getElem_singleton]; rfl
  have hln : (L ++ [(zoeF q, zoeL)]).length = n + 1 := by rw [List.length_append, Hn.out]; rfl
  have hwfx : SiteL.wf (L ++ [(zoeF q, zoeL)]) := fun x hx => by
    rcases List.mem_append.1 hx with hx | hx
    · exact DrS.wf Hdr.out x hx
    · rw [List.mem_singleton.1 hx]; exact zoe_wf hq
  rw [Hn.out] at hfi
  have hce : (L ++ [(({ name := { data := #[122, 111, 101] }, x := 1000, y := 1000 + (q : Int), height := 300, jib := 400, back := 50 } : CraneF), zoeL)] : SiteL) = L ++ [(zoeF q, zoeL)] := rfl
  simp only [hce] at hcx hv hlx ⊢
  clear hce hAdd hch k0 k1 k2 k3 k4 k5 k6 c5
  obtain ⟨Lx, hLx⟩ : ∃ Lx : SiteL, L ++ [(zoeF q, zoeL)] = Lx := ⟨_, rfl⟩
  rw [hLx] at hcx hv hlx hrm hat hln hwfx HL
  have hfi2 : ∀ i (h : i < Lx.length), i < n → ¬ Lx[i].1.name = zoe := by subst hLx; exact hfi
  clear hfi hLx
  rw [hln] at hv hlx
  obtain ⟨m, hm⟩ : ∃ m, n + 1 = m := ⟨_, rfl⟩
  rw [hm] at hv hln
  simp only [SV.v] at hv hcx ⊢
  obtain rfl : m = xl := by cases hv; rfl
  have hmb : ((m : Int) != (n : Int) + 1) = false := by rw [bne_eq_false_iff_eq]; omega
  have Hm := Lib.hid hm
  have Hln := Lib.hid hln
  have hb6 := (Below.refl w5.heap.size w5).alloc (Nat.le_refl _) (.cells #[.slice xa m xc] 26 (0, 0))
  have hX8 := blkN_new w5 (.cells #[.slice xa m xc] 26 (0, 0))
  have hE6 := Lib.hid (show StE w w5.heap.size ⟨xa, m, xc⟩ rx Lx (w5.alloc (.cells #[.slice xa m xc] 26 (0, 0))) from ⟨(B4.trans (hb5.mono B4.size)).trans (hb6.mono (B4.trans (hb5.mono B4.size)).size), hX8, (NSr.ext hcx.r hb6).mono (Nat.zero_le _) hb6.size⟩)
  have X5 := Lib.hid (nxtV hb6 (nxtV hb5 X5.out))
  have hcr6 := Lib.hid ((NSr.ext (NSr.ext hcr4.out hb5) hb6).mono (Nat.le_refl _) (Nat.le_trans hb5.size hb6.size))
  have Hcode : Hid (removed Lx (n : Int) = (L, 0)) := Lib.hid hrm
  have Hwfx := Lib.hid hwfx
  have Hat := Lib.hid hat
  have Hfi := Lib.hid hfi2
  have hV := Lib.hid (fun W (hE : StE w w5.heap.size ⟨xa, m, xc⟩ rx Lx W) => spec_VSite ⟨xa, m, xc⟩ rx Lx _ _ W hE.r Hwfx.out)
  rw [siteB_t HL.out] at hV
  simp only [SV.v] at hV
  clear hcx hv hlx hrm hat hln hwfx hfi2 hb6 hX8 hb5 hcr4 B4 hm
  have c8 := (Lib.cell_of_heap hE6.out.x 0).trans rfl
  simp only [SV.v] at c8
  go_wp2_with fail
  generalize w5.alloc (.cells #[.slice xa m xc] 26 (0, 0)) = w6 at *
  refine (hV.out _ hE6.out).mono ?_
  rintro e w7 ⟨rfl, hb7⟩
  clear c8
  have hE7 := Lib.hid (hE6.out.on hb7)
  have X5 := Lib.hid (nxtV hb7 X5.out)
  have hcr7 := Lib.hid ((NSr.ext hcr6.out hb7).mono (Nat.le_refl _) hb7.size)
  clear hE6 hcr6 hb7 hV
  have c8 := (Lib.cell_of_heap hE7.out.x 0).trans rfl
  simp only [SV.v] at c8
  have hNm := Lib.hid (impl_CraneNamed ⟨xa, m, xc⟩ rx Lx _ _ zoe w7 hE7.out.r Hwfx.out HL.out n (by rw [Hln.out]; have := Hm.out; omega) (Hat.out _) Hfi.out)
  go_wp2_with fail
  refine hNm.out.mono ?_
  rintro e w8 ⟨rfl, hb8⟩
  clear c8
  have hE8 := Lib.hid (hE7.out.on hb8)
  have X5 := Lib.hid (nxtV hb8 X5.out)
  have hcr8 := Lib.hid ((NSr.ext hcr7.out hb8).mono (Nat.le_refl _) hb8.size)
  clear hE7 hcr7 hb8 hNm
  have c8 := (Lib.cell_of_heap hE8.out.x 0).trans rfl
  simp only [SV.v] at c8
  have hRm := impl_RemoveCrane ⟨xa, m, xc⟩ rx Lx _ _ (n : Int) w8 hE8.out.r Hwfx.out
  rw [Hcode.out] at hRm
  simp only [SV.v] at hRm
  have hRm := Lib.hid hRm
  go_wp2_with fail
  refine hRm.out.mono ?_
  rintro e w9 ⟨⟨ya, yl, yc⟩, ry, rfl, hcy, hb9⟩
  obtain ⟨x', y', hv⟩ := cranes_v hcy.r
  dsimp only at hcy hv ⊢
  rw [Hn.out] at hv
  simp only [SV.v] at hv hcy ⊢
  obtain rfl : n = yl := by cases hv; rfl
  clear c8 hv hRm
  have hb10 := (Below.refl w9.heap.size w9).alloc (Nat.le_refl _) (.cells #[.slice ya n yc] 26 (0, 0))
  have X12 := Lib.hid (blkN_new w9 (.cells #[.slice ya n yc] 26 (0, 0)))
  have hE10 := Lib.hid ((hE8.out.on hb9).on hb10)
  have X5 := Lib.hid (nxtV hb10 (nxtV hb9 X5.out))
  have hcr10 := Lib.hid ((NSr.ext (NSr.ext hcr8.out hb9) hb10).mono (Nat.le_refl _) (Nat.le_trans hb9.size hb10.size))
  have hcy10 := Lib.hid (NSr.ext hcy.r hb10)
  clear hcy hb10 hb9 hE8 hcr8
  have c8 := (Lib.cell_of_heap hE10.out.x 0).trans rfl
  simp only [SV.v] at c8
  have c5 := (Lib.cell_of_heap X5.out 0).trans rfl
  have c12 := (Lib.cell_of_heap X12.out 0).trans rfl
  have hSm := Lib.hid (spec_SSite ⟨ya, n, yc⟩ ⟨a', n, c'⟩ ry rs L _ _ _ _ _ hcy10.out hcr10.out)
  go_wp2_with fail
  generalize w9.alloc (.cells #[.slice ya n yc] 26 (0, 0)) = w10 at *
  refine hSm.out.mono ?_
  rintro e w11 ⟨rfl, hb11⟩
  have hE11 := Lib.hid (hE10.out.on hb11)
  clear c8 c5 c12 hSm hcy10 hcr10 hE10 hb11 X5 X12 Hfi Hat Hcode
  have hN1 := Lib.hid (fun k (hk : k ≤ n) W (hE : StE w w5.heap.size ⟨xa, m, xc⟩ rx Lx W) => impl_NeighboursOf ⟨xa, m, xc⟩ rx Lx _ _ k W hE.r Hwfx.out HL.out (by rw [Hln.out]; have := Hm.out; omega))
  have hN2 := Lib.hid (fun k (hk : k ≤ n) W (hE : StE w w5.heap.size ⟨xa, m, xc⟩ rx Lx W) => spec_NeighboursOf ⟨xa, m, xc⟩ rx Lx _ _ k W hE.r Hwfx.out HL.out (by rw [Hln.out]; have := Hm.out; omega))
  simp only [SV.v] at hN1 hN2
  have Hcm := Lib.hid (fun k j (hk : k ≤ n) (hj : j ≤ n) => nbB_comm Lx (i := k) (k := j) (by rw [Hln.out]; have := Hm.out; omega) (by rw [Hln.out]; have := Hm.out; omega))
  go_wp2_with fail
  go_loopw [14] (fun i wr => ∃ k : Nat, k ≤ n + 1 ∧ i = .int .i64 k ∧ Hid (StE w w5.heap.size ⟨xa, m, xc⟩ rx Lx wr)) (fun i _ => n + 1 - (intOf i).toNat)
  case atStart => exact ⟨0, by omega, rfl, hE11⟩
  case round =>
    clear hE11
    obtain ⟨k, hk, rfl, hE⟩ := hrel
    by_cases hlt : k ≤ n
    · have hlt' : (k : Int) ≤ (n : Int) := by omega
      have c8 := (Lib.cell_of_heap hE.out.x 0).trans rfl
      simp only [SV.v] at c8
      have hC := Lib.hid (hN1.out k hlt wr hE.out)
      go_wp2_with fail
      refine hC.out.mono ?_
      rintro e w12 ⟨vk, lk, rfl, hsl, hpk, hb12⟩
      have hE := Lib.hid (hE.out.on hb12)
      have hHas := Lib.hid (fun W x (hb : Below w12.heap.size w12 W) => law_Has vk lk _ _ x W (hsl.1.ext hb))
      have Hpk := Lib.hid (fun j (hj : j ≤ n) => (show hasB lk (j : Int) = nbB Lx k j from hpk.nat (by rw [Hln.out]; have := Hm.out; omega)))
      clear hsl hpk hb12 c8 hC
      have hs0 := hHas.out w12 k (Below.refl _ _)
      rw [Hpk.out k hlt, nbB_self] at hs0
      have hs0 := Lib.hid hs0
      go_wp2_with fail
      refine hs0.out.mono ?_
      rintro e _ ⟨rfl, rfl⟩
      clear hs0
      go_wp2_with fail
      go_loopw [17] (fun i wr => ∃ j : Nat, j ≤ n + 1 ∧ i = .int .i64 j ∧ Hid (StE w w5.heap.size ⟨xa, m, xc⟩ rx Lx wr) ∧ Hid (Below w12.heap.size w12 wr)) (fun i _ => n + 1 - (intOf i).toNat)
      case atStart => exact ⟨0, by omega, rfl, hE, Lib.hid (Below.refl _ _)⟩
      case round =>
        clear hE
        obtain ⟨j, hj, rfl, hE, hB12⟩ := hrel
        by_cases hjt : j ≤ n
        · have hjt' : (j : Int) ≤ (n : Int) := by omega
          have c8 := (Lib.cell_of_heap hE.out.x 0).trans rfl
          simp only [SV.v] at c8
          have hC := Lib.hid (hN2.out j hjt wr hE.out)
          go_wp2_with fail
          refine hC.out.mono ?_
          rintro e w13 ⟨vj, lj, rfl, hsl, hpk, hb13⟩
          have hE := Lib.hid (hE.out.on hb13)
          have hB13 := Lib.hid (hB12.out.trans (hb13.mono hB12.out.size))
          have h1 := hHas.out w13 j hB13.out
          have h2 := law_Has vj lj _ _ (k : Int) w13 hsl.1
          rw [Hpk.out j hjt] at h1
          rw [show hasB lj (k : Int) = nbB Lx j k from hpk.nat (by rw [Hln.out]; have := Hm.out; omega), ← Hcm.out k j hlt hjt] at h2
          have h1 := Lib.hid h1
          have h2 := Lib.hid h2
          clear hsl hpk hb13 c8 hC
          generalize nbB Lx k j = rb at *
          go_wp2_with fail
          refine h1.out.mono ?_
          rintro e _ ⟨rfl, rfl⟩
          go_wp2_with fail
          refine h2.out.mono ?_
          rintro e _ ⟨rfl, rfl⟩
          clear h1 h2
          have hbb : (rb != rb) = false := by simp
          go_wp2_with fail
          go_roundw
          case rel => exact ⟨j + 1, by omega, by go_num, hE, hB13⟩
          case measure => simp [intOf]; omega
        · have hjt' : ¬ (j : Int) ≤ (n : Int) := by omega
          go_wp2_with fail
          go_roundw
          case rel => exact ⟨k + 1, by omega, by go_num, hE⟩
          case measure => simp [intOf]; omega
    · have hlt' : ¬ (k : Int) ≤ (n : Int) := by omega
      have hPl := Lib.hid (hdp.out wr hE.out.b)
      go_wp2_with fail
      refine hPl.out.mono ?_
      rintro e w14 ⟨x1, y1, x2, y2, x3, y3, rfl, ⟨hx1, hy1⟩, hb14⟩
      have hE := Lib.hid (hE.out.on hb14)
      clear hb14 hPl hN1 hN2 Hcm hdp hAt
      obtain ⟨w15, hw15, X20, -, -, hb15, -⟩ := dkx3V w14 (.cells #[.int .i64 x1, .int .i64 y1] 30) (.cells #[.int .i64 x2, .int .i64 y2] 30) (.cells #[.int .i64 x3, .int .i64 y3] 30)
      have hE := Lib.hid (hE.out.on hb15)
      obtain ⟨xb, xo, hxa⟩ := hE.out.r.out.addr (show 0 < rx.length by rw [hE.out.r.len, Hln.out]; have := Hm.out; omega)
      subst hxa
      have c8 := (Lib.cell_of_heap hE.out.x 0).trans rfl
      simp only [SV.v] at c8
      have d0 := (Lib.cell_of_heap X20 0).trans rfl
      have d1 := (Lib.cell_of_heap X20 1).trans rfl
      have hpl : Pl x1 y1 := ⟨by omega, by omega⟩
      have hC := Lib.hid (impl_CoverOf ⟨some ⟨xb, xo, none⟩, m, xc⟩ rx Lx _ _ x1 y1 w15 hE.out.r Hwfx.out HL.out hpl)
      simp only [SV.v] at hC
      have X20 := Lib.hid X20
      clear hb15
      go_wp2_with fail
      refine hC.out.mono ?_
      rintro e w16 ⟨vk, lk, rfl, hsl, hpk, hb16⟩
      have hE := Lib.hid (hE.out.on hb16)
      have X20 := Lib.hid (nxtV hb16 X20.out)
      have hHas := Lib.hid (fun W x (hb : Below w16.heap.size w16 W) => law_Has vk lk _ _ x W (hsl.1.ext hb))
      have Hpk := Lib.hid (fun j (hj : j ≤ n) => (show hasB lk (j : Int) = covB Lx x1 y1 j from hpk.nat (by rw [Hln.out]; have := Hm.out; omega)))
      clear hsl hpk hb16 c8 hC d0 d1 hw15
      go_wp2_with fail
      go_loopw [25] (fun i wr => ∃ j : Nat, j ≤ n + 1 ∧ i = .int .i64 j ∧ Hid (StE w w5.heap.size ⟨some ⟨xb, xo, none⟩, m, xc⟩ rx Lx wr) ∧ Hid (Below w16.heap.size w16 wr) ∧ Hid (wr.heap[w14.heap.size]? = some (.cells #[.int .i64 x1, .int .i64 y1] 30))) (fun i _ => n + 1 - (intOf i).toNat)
      case atStart => exact ⟨0, by omega, rfl, hE, Lib.hid (Below.refl _ _), X20⟩
      case round =>
        clear hE X20
        obtain ⟨j, hj, rfl, hE, hB16, X20⟩ := hrel
        by_cases hjt : j ≤ n
        · have hjt' : (j : Int) ≤ (n : Int) := by omega
          have hjL : j < Lx.length := by rw [Hln.out]; have := Hm.out; omega
          have hjR : j < rx.length := by rw [hE.out.r.len]; exact hjL
          have hjm : (j : Int) < (m : Int) := by have := Hm.out; omega
          have hj0 : (0 : Int) ≤ (j : Int) := Int.natCast_nonneg _
          have c8 := (Lib.cell_of_heap hE.out.x 0).trans rfl
          simp only [SV.v] at c8
          have d0 := (Lib.cell_of_heap X20.out 0).trans rfl
          have d1 := (Lib.cell_of_heap X20.out 1).trans rfl
          have hr := hE.out.r
          simp only [SV.v] at hr
          obtain ⟨c0, c1, c2, c3, c4, c5, c6⟩ := Cranes_at hr hjR
          obtain ⟨hfl, hrow⟩ := hr.one hjL hjR
          rw [hfl] at c0 c1 c2 c3 c4 c5
          have hok := (HL.out.1 j hjL).1
          have hnm := (Hwfx.out _ (List.getElem_mem hjL)).1.1
          have hcl := fun W (hb : Below wr.heap.size wr W) => impl_Reaches Lx[j].1.name Lx[j].1.x Lx[j].1.y Lx[j].1.height Lx[j].1.jib Lx[j].1.back rx[j].s.a rx[j].s.len rx[j].s.cap Lx[j].2 _ _ x1 y1 W hok hnm (hrow.ext hb) hpl
          rw [show reachB ⟨Lx[j].1.name, Lx[j].1.x, Lx[j].1.y, Lx[j].1.height, Lx[j].1.jib, Lx[j].1.back⟩ Lx[j].2 x1 y1 = covB Lx x1 y1 j from (covB_at hjL).symm] at hcl
          have h1 := Lib.hid (fun W (hb : Below w16.heap.size w16 W) => hHas.out W j hb)
          rw [Hpk.out j hjt] at h1
          clear hfl hrow hr hok hnm
          generalize covB Lx x1 y1 j = rb at *
          generalize rx[j].s = sk at *
          obtain ⟨sa2, sl2, sc2⟩ := sk
          simp only [SV.v] at c6
          generalize Lx[j].1 = f at *
          obtain ⟨y0, z1, z2, z3, z4, z5⟩ := f
          dsimp only at *
          have hcl := Lib.hid hcl
          have hbw := World.block_lt_of_cell? wr _ c0
          have hbw8 := World.block_lt_of_cell? wr _ c8
          have hbwd := World.block_lt_of_cell? wr _ d0
          have hbb : (rb != rb) = false := by simp
          go_wp2_with fail
          go_region_held3 (fun w' => (∀ b' o', b' < wr.heap.size → w'.cell? ⟨b', o', none⟩ = wr.cell? ⟨b', o', none⟩) ∧ Below wr.heap.size wr w') (first | (refine heldB ?_; go_grown; done))
            (first | (go_at_call 13; refine (h1.out _ (hB16.out.trans (Below.mono (B := wr.heap.size) (by go_grown) hB16.out.size))).mono ?_; rintro e _ ⟨rfl, rfl⟩) | (go_at_call 17; refine (hcl.out _ (by go_grown)).mono ?_; rintro e w17 ⟨rfl, hb17'⟩; have b17 : Below wr.heap.size wr w17 := Below.trans (by go_grown) (hb17'.mono (by go_size)); have q17 := (bcell b17).1))
          rename_i hHeld
          clear hHeld
          have hE := Lib.hid (hE.out.on b17)
          have hB16 := Lib.hid (hB16.out.trans (b17.mono hB16.out.size))
          have X20 := Lib.hid (nxtV b17 X20.out)
          clear c0 c1 c2 c3 c4 c5 c6 c8 d0 d1 b17 q17
          go_wp2_with fail
          go_roundw
          case rel => exact ⟨j + 1, by omega, by go_num, hE, hB16, X20⟩
          case measure => simp [intOf]; omega
        · have hjt' : ¬ (j : Int) ≤ (n : Int) := by omega
          have B := hE.out.b
          go_wp2
          go_ret
          exact ⟨rfl, B⟩
end Go.Proofs.Ytejicefmbodpdaa
