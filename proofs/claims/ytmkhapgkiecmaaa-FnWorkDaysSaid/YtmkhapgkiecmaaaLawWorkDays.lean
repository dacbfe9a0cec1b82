/- The law FnWorkDays. -/
import Derived.Test.YtmkhapgkiecmaaaFirst
import Derived.Test.YtmkhapgkiecmaaaOpenF
import Derived.Test.YtmkhapgkiecmaaaWdP
import Derived.Test.YtmkhapgkiecmaaaDrawA
import Derived.WideShapes
namespace Go.Proofs.Ytmkhapgkiecmaaa
open Go.RowKit Go.Deep

theorem cells_uint8 : Try.prog.cellsOf 5 = 1 := by kernel_rfl
set_option maxRecDepth 100000 in
theorem open_Byte {H : Type} {enc : TypeId × Value → H} {W : World} {base : Nat} {spare : Nat → Bool} {held : Bool} (fuel : Nat) (cs : List Value) (y : DataW H × List MemPlace) (hy : DataW.trod enc Try.prog W base spare held fuel 5 cs = some y) :
    ∃ x : UInt8, cs = byteC x ∧ True := by
  obtain ⟨x, h1, _, hw⟩ := DataW.trod_int Try.underlying5 hy
  have hx : 0 ≤ x ∧ x ≤ 255 := by simpa [Lit.wf, IntKind.min, IntKind.max, IntKind.signed, IntKind.bits] using hw
  exact ⟨UInt8.ofNat x.toNat, by rw [h1]; unfold byteC; rw [UInt8.toNat_ofNat']; congr 2; omega, trivial⟩
set_option maxRecDepth 100000 in
theorem open_SByte {H : Type} {enc : TypeId × Value → H} {W : World} {base : Nat} {v : Value} {d : DataW H} {p : List MemPlace} (hv : Value.okWide Try.prog W .any base 22 v)
    (h : DataW.Trod enc Try.prog W 0 (fun _ => true) true 22 v d p) (_hlt : ∀ x ∈ p, x.block < W.heap.size) : ∃ l : List UInt8, Sl 1 byteC 0 W.heap.size W v l := by
  obtain ⟨l, hl, _⟩ := open_list Try.underlying22 cells_uint8 (by omega) open_Byte h (Go.WideShapes.okWide_slice Try.underlying22 hv)
  exact ⟨l, hl⟩
theorem onB {w w1 w2 : World} {B : Nat} (h : Below B w w1) (h2 : Below w1.heap.size w1 w2) (hs : B ≤ w1.heap.size) : Below B w w2 := h.trans (h2.mono hs)
set_option maxHeartbeats 1000000 in
theorem law_f6ints (v v2 : Value) (l : List Int) (lo hi lo2 hi2 : Nat) (w : World) (h : Ints lo hi w v l) (h2 : Ints lo2 hi2 w v2 l) :
    Calls Try.prog 18 #[v, v2] w fun e w' => e = .returned (.bool true) ∧ Below w.heap.size w w' := by
  have hsl := h
  have hsl2 := h2
  obtain ⟨a, cap, rfl, hlen, hh⟩ := h
  obtain ⟨a2, cap2, rfl, _, hh2⟩ := h2
  clear hh hh2
  go_enter Try.func18, Try.ntmps18
  go_wp2
  go_loopw [5] (fun i wr => ∃ k : Nat, k ≤ l.length ∧ i = .int .i64 k ∧ Below w.heap.size w wr) (fun i _ => l.length - (intOf i).toNat)
  case atStart => exact ⟨0, Nat.zero_le _, rfl, Below.refl _ _⟩
  case round =>
    obtain ⟨k, hk, rfl, hB⟩ := hrel
    by_cases hlt : k < l.length
    · obtain ⟨b, off, rfl⟩ := hsl.addr (by omega)
      obtain ⟨b2, off2, rfl⟩ := hsl2.addr (by omega)
      have c0 := Ints.at (hsl.ext hB).get hlt
      have d0 := Ints.at (hsl2.ext hB).get hlt
      clear hsl hsl2
      generalize l[k] = x at *
      go_wp2_with (go_quiet (fail))
      go_roundw
      case rel => exact ⟨k + 1, by omega, by go_num, below_dN hB _⟩
      case measure => simp [intOf]; omega
    · go_wp2
      go_ret
      exact ⟨rfl, hB⟩
theorem firstW_le {cs : List Chk} {fs : List Fnd} {crane day : Int} (h : workC cs fs crane day = 0) (h0 : (firstW cs fs crane day).2 = 0) : (firstW cs fs crane day).1 ≤ 100000 := by
  obtain ⟨_, hf, _, hd0, hd1⟩ := workC_zero h
  cases hm : mayB cs fs crane day with
  | true => rw [firstW_may h hm]; exact hd1
  | false =>
    by_cases hb : bestTo cs fs crane day fs.length < 0
    · rw [firstW_none h hm hb] at h0; cases h0
    · rw [firstW_best h hm hb]
      rcases bestTo_spec cs fs crane day hd0 fs.length (Nat.le_refl _) with ⟨h1, _⟩ | ⟨_, _, ⟨i, hi, he⟩, _⟩
      · omega
      · have := okAt hf hi
        unfold Fnd.ok at this
        show bestTo cs fs crane day fs.length ≤ 100000
        omega
theorem mayW_at {cs : List Chk} {fs : List Fnd} {crane day d : Int} (h : workC cs fs crane day = 0) (h1 : day ≤ d) (h2 : d ≤ 100000) : mayW cs fs crane d = (mayB cs fs crane d, 0) := by
  obtain ⟨h3, h4, h5, hd0, hd1⟩ := workC_zero h
  have hz : workC cs fs crane d = 0 := by
    unfold workC wcode
    rw [if_pos ⟨h3, h4⟩, if_pos ⟨h5, by omega⟩]
  unfold mayW
  rw [if_pos hz]
/-- All that the law asks of the days of work. -/
theorem days_ok (cs : List Chk) (fs : List Fnd) (crane day : Int) : (firstW cs fs crane day).2 ≠ 0 ∨ ∃ fd, firstW cs fs crane day = (fd, 0) ∧ day ≤ fd ∧ 0 ≤ day ∧ fd ≤ 100000 ∧ ∀ d, day ≤ d → d ≤ fd → mayW cs fs crane d = (decide (d = fd), 0) := by
  by_cases h : workC cs fs crane day = 0
  · by_cases h0 : (firstW cs fs crane day).2 = 0
    · right
      have hle := firstW_le h h0
      obtain ⟨f, hf, h1, h2, h3⟩ := firstW_spec h h0
      rw [hf] at hle
      refine ⟨f, hf, h1, (workC_zero h).2.2.2.1, hle, fun d hd hdf => ?_⟩
      rw [mayW_at h hd (by have : f ≤ 100000 := hle; omega)]
      by_cases e : d = f
      · rw [e, h2]; simp
      · rw [h3 d hd (by omega)]; simp [e]
    · exact .inl h0
  · left
    rw [firstW_n h]
    exact h
set_option maxRecDepth 100000 in
set_option maxHeartbeats 8000000 in
theorem law_WorkDays {v : Value} (l : List UInt8) (w : World) (h : Sl 1 byteC 0 w.heap.size w v l) :
    Calls Try.prog 3 #[v] w fun e w' => e = .returned (.bool true) ∧ Below w.heap.size w w' := by
  have hcap : l.length ≤ 9223372036854775807 := by obtain ⟨a, cap, _, h, _⟩ := h; omega
  by_cases hbig : 4096 < l.length
  · obtain ⟨a, cap, rfl, _⟩ := h
    go_enter Try.func3, Try.ntmps3
    go_wp2_with (first | (go_at_call 6; go_in))
    go_ret
    exact ⟨rfl, Below.refl _ _⟩
  · have hd1 := Lib.hid (fun w' (hb : Below w.heap.size w w') => draw_FirstWorkDay v l _ w' (h.below hb (Nat.le_refl _)) hb.size (by omega))
    have hd2 := Lib.hid (fun w' (hb : Below w.heap.size w w') => draw_OpenFindings v l _ w' (h.below hb (Nat.le_refl _)) hb.size (by omega))
    have hd3 := Lib.hid (fun w' (hb : Below w.heap.size w w') => draw_CloseFinding v l _ w' (h.below hb (Nat.le_refl _)) hb.size (by omega))
    obtain ⟨a, cap, rfl, _⟩ := h
    have hn : decide ((4096 : Int) < (l.length : Int)) = false := decide_eq_false (by omega)
    clear hbig hcap
    go_enter Try.func3, Try.ntmps3
    go_wp2_with (first | (go_at_call 6; go_in) | fail)
    refine (hd1.out _ (Below.refl _ _)).mono ?_
    rintro e w1 ⟨vc, lc, vf, lf, crane, day, rfl, hc, hwc, hlc, hf, hwf, hlf, hcr, hdy, hB1⟩
    have hfi := Lib.hid (fun w' (hb : Below w1.heap.size w1 w') => impl_FirstWorkDay vc lc _ _ vf lf _ _ crane day w' (hc.ext hb) (by omega) hwc (hf.ext hb) (by omega) hwf hcr hdy)
    have hfs := Lib.hid (fun w' (hb : Below w1.heap.size w1 w') => spec_FirstWorkDay vc lc _ _ vf lf _ _ crane day w' (hc.ext hb) (by omega) hwc (hf.ext hb) (by omega) hwf hcr hdy)
    have hmi := Lib.hid (fun w' (hb : Below w1.heap.size w1 w') => impl_MayWork vc lc _ _ vf lf _ _ crane day w' (hc.ext hb) (by omega) hwc (hf.ext hb) (by omega) hwf hcr hdy)
    have hms := Lib.hid (fun w' (hb : Below w1.heap.size w1 w') => spec_MayWork vc lc _ _ vf lf _ _ crane day w' (hc.ext hb) (by omega) hwc (hf.ext hb) (by omega) hwf hcr hdy)
    have hmd := Lib.hid (fun d (hd : I64 d) w' (hb : Below w1.heap.size w1 w') => impl_MayWork vc lc _ _ vf lf _ _ crane d w' (hc.ext hb) (by omega) hwc (hf.ext hb) (by omega) hwf hcr hd)
    have hvi := Lib.hid (fun w' (hb : Below w1.heap.size w1 w') => impl_ValidFindings vf lf _ _ w' (hf.ext hb))
    have hvs := Lib.hid (fun w' (hb : Below w1.heap.size w1 w') => spec_ValidFindings vf lf _ _ w' (hf.ext hb))
    have hday := Lib.hid (days_ok lc lf crane day)
    obtain ⟨ca, cc, rfl⟩ : ∃ a c, vc = .slice a lc.length c := by obtain ⟨a, c, h, _⟩ := hc; exact ⟨a, c, h⟩
    obtain ⟨fa, fcp, rfl⟩ : ∃ a c, vf = .slice a lf.length c := by obtain ⟨a, c, h, _⟩ := hf; exact ⟨a, c, h⟩
    clear hc hf hwc hwf hcr
    obtain ⟨fd, fc, hfw⟩ : ∃ fd fc, firstW lc lf crane day = (fd, fc) := ⟨_, _, rfl⟩
    obtain ⟨mb, mc, hmw⟩ : ∃ mb mc, mayW lc lf crane day = (mb, mc) := ⟨_, _, rfl⟩
    rw [hfw] at hfi hfs hday
    rw [hmw] at hmi hms
    have Hmw := Lib.hid hmw
    clear hfw hmw
    obtain ⟨fb, hfb⟩ : ∃ fb, fndsB lf = fb := ⟨_, rfl⟩
    rw [hfb] at hvi hvs
    clear hfb
    have hdyh := Lib.hid hdy
    clear hdy
    have hr1 := Below.refl w1.heap.size w1
    go_wp2_with fail
    refine (hfi.out _ hr1).mono ?_
    rintro e w2 ⟨rfl, hB2⟩
    have hb2 := onB hr1 hB2 (hr1).size
    clear hB2
    go_wp2_with fail
    refine (hfs.out _ hb2).mono ?_
    rintro e w3 ⟨rfl, hB3⟩
    have hb3 := onB hb2 hB3 (hb2).size
    clear hB3
    go_wp2_with fail
    refine (hmi.out _ hb3).mono ?_
    rintro e w4 ⟨rfl, hB4⟩
    have hb4 := onB hb3 hB4 (hb3).size
    clear hB4
    go_wp2_with fail
    refine (hms.out _ hb4).mono ?_
    rintro e w5 ⟨rfl, hB5⟩
    have hb5 := onB hb4 hB5 (hb4).size
    clear hB5
    go_wp2_with fail
    refine (hd2.out _ (hB1.trans (hb5.mono hB1.size))).mono ?_
    rintro e w6 ⟨vo, lo, oday, rfl, ho, hwo, hlo, hody, hB6⟩
    have hb6 := onB hb5 hB6 hb5.size
    have hoi := Lib.hid (fun w' (hb : Below w6.heap.size w6 w') => impl_OpenFindings vo lo _ _ oday w' (ho.ext hb) (by omega) hwo hody)
    have hos := Lib.hid (fun w' (hb : Below w6.heap.size w6 w') => spec_OpenFindings vo lo _ _ oday w' (ho.ext hb) (by omega) hwo hody)
    obtain ⟨opa, opc, rfl⟩ : ∃ a c, vo = .slice a lo.length c := by obtain ⟨a, c, h, _⟩ := ho; exact ⟨a, c, h⟩
    obtain ⟨li, oc, how⟩ : ∃ li oc, openF lo oday = (li, oc) := ⟨_, _, rfl⟩
    rw [how] at hoi hos
    clear how ho hwo hody hB6
    go_wp2_with fail
    refine (hoi.out _ (Below.refl _ _)).mono ?_
    rintro e w7 ⟨v7, rfl, hs7, hB7⟩
    have hb7 := onB hb6 hB7 hb6.size
    go_wp2_with fail
    refine (hos.out _ hB7).mono ?_
    rintro e w8 ⟨v8, rfl, hs8, hB8⟩
    have hb8 := onB hb7 hB8 hb7.size
    have hE := Lib.hid (fun w' (hb : Below w8.heap.size w8 w') => law_f6ints v7 v8 li _ _ _ _ w' ((hs7.1.ext hB8).ext (hb.mono (Nat.le_refl _))) (hs8.1.ext hb))
    clear hs7 hs8 hB7 hoi hos
    go_wp2_with fail
    refine (hd3.out _ (hB1.trans (hb8.mono hB1.size))).mono ?_
    rintro e w9 ⟨vk, lk, ck, kday, rfl, hk, hwk, hlk, hck, hkdy, hB9⟩
    have hb9 := onB hb8 hB9 hb8.size
    have hE := Lib.hid (fun w' (hb : Below w9.heap.size w9 w') => hE.out w' (onB hB9 hb hB9.size))
    have hki := Lib.hid (fun w' (hb : Below w9.heap.size w9 w') => impl_CloseFinding vk lk _ _ ck kday w' (hk.ext hb) (by omega) hwk hck hkdy)
    have hks := Lib.hid (fun w' (hb : Below w9.heap.size w9 w') => spec_CloseFinding vk lk _ _ ck kday w' (hk.ext hb) (by omega) hwk hck hkdy)
    have hcl := Lib.hid (closeFinding_len lk ck kday)
    have hco := Lib.hid (close_ok (l := lk) (k := ck) (day := kday))
    obtain ⟨kpa, kpc, rfl⟩ : ∃ a c, vk = .slice a lk.length c := by obtain ⟨a, c, h, _⟩ := hk; exact ⟨a, c, h⟩
    obtain ⟨lx, cx, hkw⟩ : ∃ lx cx, closeFinding lk ck kday = (lx, cx) := ⟨_, _, rfl⟩
    rw [hkw] at hki hks hcl hco
    clear hkw hk hwk hck hkdy hB9
    go_wp2_with fail
    refine (hki.out _ (Below.refl _ _)).mono ?_
    rintro e w10 ⟨v10, rfl, hs10, hB10⟩
    have hb10 := onB hb9 hB10 hb9.size
    go_wp2_with fail
    refine (hks.out _ hB10).mono ?_
    rintro e w11 ⟨v11, rfl, hs11, hB11⟩
    have hb11 := onB hb10 hB11 hb10.size
    have hX10 := Lib.hid (hs10.1.ext hB11)
    have hX11 := Lib.hid hs11.1
    have hE := Lib.hid (hE.out w11 (onB hB10 hB11 hB10.size))
    have hcl := Lib.hid (show lx.length ≤ 61 from Nat.le_trans hcl.out hlk)
    obtain ⟨xa, xc, rfl⟩ : ∃ a c, v10 = .slice a lx.length c := by obtain ⟨a, c, h, _⟩ := hs10.1; exact ⟨a, c, h⟩
    obtain ⟨ya, yc, rfl⟩ : ∃ a c, v11 = .slice a lx.length c := by obtain ⟨a, c, h, _⟩ := hs11.1; exact ⟨a, c, h⟩
    have hBw := Lib.hid hB1
    clear hs10 hs11 hB10 hB11 hki hks hB1 hb2 hb3 hb4 hb5 hb6 hb7 hb8 hb9 hb10 hd1 hd2 hd3 hr1 hfi hfs hmi hms hlc hlf hlo hlk hn
    obtain ⟨nx, hnx⟩ : ∃ nx, lx.length = nx := ⟨_, rfl⟩
    rw [hnx] at hX10 hX11 hcl ⊢
    have Hnx := Lib.hid hnx
    clear hnx
    go_wp2_with (first | (go_at_call 18; refine hE.out.mono ?_; rintro e w12 ⟨rfl, hB12⟩; have hb12 := onB hb11 hB12 hb11.size; have hc12 := hB12) | (go_at_call 19; refine (hvi.out _ hb12).mono ?_; rintro e w13 ⟨rfl, hB13⟩; have hb13 := onB hb12 hB13 hb12.size; have hc13 := onB hc12 hB13 hc12.size) | (go_at_call 20; refine (hvs.out _ hb13).mono ?_; rintro e w14 ⟨rfl, hB14⟩; have hb14 := Lib.hid (onB hb13 hB14 hb13.size); have hc14 := Lib.hid (onB hc13 hB14 hc13.size); clear hB12 hB13 hB14 hb12 hb13 hc12 hc13 hE hvi hvs) | fail)
    clear hb11
    have hnx61 : nx ≤ 61 := by have := hcl.out; have := Hnx.out; omega
    go_loopw [28] (fun i wr => ∃ k : Nat, k ≤ nx ∧ i = .int .i64 k ∧ Hid (Below w1.heap.size w1 wr) ∧ Hid (Below w11.heap.size w11 wr)) (fun i _ => nx - (intOf i).toNat)
    case atStart => exact ⟨0, Nat.zero_le _, rfl, hb14, hc14⟩
    case round =>
      clear hb14 hc14
      obtain ⟨k, hk, rfl, hB, hC⟩ := hrel
      by_cases hlt : k < nx
      · have hx := hX10.out.ext hC.out
        have hy := hX11.out.ext hC.out
        obtain ⟨b, off, rfl⟩ := hx.addr (by rw [Hnx.out]; omega)
        obtain ⟨b2, off2, rfl⟩ := hy.addr (by rw [Hnx.out]; omega)
        obtain ⟨c0, c1, c2, c3⟩ := Fnds.at hx.get (k := k) (by rw [Hnx.out]; omega)
        obtain ⟨d0, d1, d2, d3⟩ := Fnds.at hy.get (k := k) (by rw [Hnx.out]; omega)
        clear hx hy
        generalize lx[k]'(by rw [Hnx.out]; omega) = x at *
        go_wp2_with (go_quiet (fail))
        go_roundw
        case rel => exact ⟨k + 1, by omega, by go_num, Lib.hid (below_dN hB.out _), Lib.hid (below_dN hC.out _)⟩
        case measure => simp [intOf]; omega
      · have hk2 : ¬ k < nx := hlt
        have hvx := Lib.hid (impl_ValidFindings _ lx _ _ wr (hX10.out.ext hC.out))
        clear hX10 hX11 hC
        have hcx : cx = 0 ∨ (decide (cx = 0) = false ∧ (cx == 0) = false) := by
          rcases Classical.em (cx = 0) with h | h
          · exact .inl h
          · exact .inr ⟨decide_eq_false h, by simpa using h⟩
        rcases hday.out with hfc | ⟨fd', heq, h1, h2, h3, hall⟩
        · have hf0 : ¬ fc = 0 := hfc
          have hf1 : decide (fc = 0) = false := decide_eq_false hf0
          have hf2 : (fc == 0) = false := by simpa using hf0
          clear hf0 hfc
          rcases hcx with rfl | ⟨hz1, hz2⟩
          · rw [show fndsB lx = true from hco.out rfl] at hvx
            go_wp2_with (first | (go_at_call 19; refine hvx.out.mono ?_; rintro e w15 ⟨rfl, hB15⟩; have hb15 := Lib.hid (onB hB.out hB15 hB.out.size); clear hB15 hvx) | fail)
            go_ret
            exact ⟨rfl, hBw.out.trans (hb15.out.mono hBw.out.size)⟩
          · go_wp2_with fail
            go_ret
            exact ⟨rfl, hBw.out.trans (hB.out.mono hBw.out.size)⟩
        · obtain ⟨rfl, rfl⟩ : fd = fd' ∧ fc = 0 := by simpa using heq
          have Hall := Lib.hid hall
          have hm := Hmw.out
          rw [hall day (Int.le_refl _) h1] at hm
          obtain ⟨rfl, rfl⟩ : decide (day = fd) = mb ∧ 0 = mc := by simpa using hm
          have hw60 : IntKind.i64.wrap (day + 60) = day + 60 := IntWalk.i64_in _ (by omega)
          clear heq hall hm hday
          have hmb : (day = fd ∧ decide (day = fd) = true ∧ (fd == day) = true) ∨ (decide (day = fd) = false ∧ decide (fd = day) = false ∧ (fd == day) = false) := by
            by_cases h : day = fd
            · exact .inl ⟨h, by simp [h], by simp [h]⟩
            · exact .inr ⟨decide_eq_false h, decide_eq_false (fun e => h e.symm), by simpa using fun e : fd = day => h e.symm⟩
          rcases hmb with ⟨-, hm1, hm2⟩ | ⟨hm1, hm2, hm3⟩
          all_goals
            rw [hm1]
            clear hm1
            rcases hcx with rfl | ⟨hz1, hz2⟩
            · rw [show fndsB lx = true from hco.out rfl] at hvx
              go_wp2_with (first | (go_at_call 19; refine hvx.out.mono ?_; rintro e w15 ⟨rfl, hB15⟩; have hb15 := Lib.hid (onB hB.out hB15 hB.out.size); clear hB15 hvx) | fail)
              try clear hdf
              try clear hm1
              try clear hm2
              try clear hm3
              try clear hz1
              try clear hz2
              go_loopw [29] (fun i wr => ∃ d : Int, i = .int .i64 d ∧ day ≤ d ∧ d ≤ fd + 1 ∧ d ≤ day + 60 ∧ Hid (Below w1.heap.size w1 wr)) (fun i _ => (day + 61 - intOf i).toNat)
              case atStart => exact ⟨day, rfl, Int.le_refl _, by omega, by omega, hb15⟩
              case round =>
                clear hb15
                obtain ⟨d, rfl, e1, e2, e3, hR⟩ := hrel
                by_cases hc1 : d ≤ fd
                · by_cases hc2 : d < day + 60
                  · have hmx := hmd.out d ⟨by omega, by omega⟩ _ hR.out
                    rw [Hall.out d e1 hc1] at hmx
                    have Hmx := Lib.hid hmx
                    clear hmx
                    go_wp2_with fail
                    refine Hmx.out.mono ?_
                    rintro e w16 ⟨rfl, hB16⟩
                    have hb16 := Lib.hid (onB hR.out hB16 hR.out.size)
                    clear hB16 Hmx hR
                    have hdf2 : (decide (d = fd) = true ∧ (d == fd) = true) ∨ (decide (d = fd) = false ∧ (d == fd) = false) := by
                      by_cases h : d = fd
                      · exact .inl ⟨by simp [h], by simp [h]⟩
                      · exact .inr ⟨decide_eq_false h, by simpa using h⟩
                    rcases hdf2 with ⟨g1, g2⟩ | ⟨g1, g2⟩
                    all_goals
                      dsimp only
                      rw [g1]
                      go_wp2_with fail
                      go_roundw
                      case rel => exact ⟨d + 1, rfl, by omega, by omega, by omega, hb16⟩
                      case measure => simp [intOf]; omega
                  · go_wp2_with fail
                    go_ret
                    exact ⟨rfl, hBw.out.trans (hR.out.mono hBw.out.size)⟩
                · go_wp2_with fail
                  go_ret
                  exact ⟨rfl, hBw.out.trans (hR.out.mono hBw.out.size)⟩
            · go_wp2_with fail
              try clear hdf
              try clear hm1
              try clear hm2
              try clear hm3
              try clear hz1
              try clear hz2
              go_loopw [29] (fun i wr => ∃ d : Int, i = .int .i64 d ∧ day ≤ d ∧ d ≤ fd + 1 ∧ d ≤ day + 60 ∧ Hid (Below w1.heap.size w1 wr)) (fun i _ => (day + 61 - intOf i).toNat)
              case atStart => exact ⟨day, rfl, Int.le_refl _, by omega, by omega, hB⟩
              case round =>
                clear hB
                obtain ⟨d, rfl, e1, e2, e3, hR⟩ := hrel
                by_cases hc1 : d ≤ fd
                · by_cases hc2 : d < day + 60
                  · have hmx := hmd.out d ⟨by omega, by omega⟩ _ hR.out
                    rw [Hall.out d e1 hc1] at hmx
                    have Hmx := Lib.hid hmx
                    clear hmx
                    go_wp2_with fail
                    refine Hmx.out.mono ?_
                    rintro e w16 ⟨rfl, hB16⟩
                    have hb16 := Lib.hid (onB hR.out hB16 hR.out.size)
                    clear hB16 Hmx hR
                    have hdf2 : (decide (d = fd) = true ∧ (d == fd) = true) ∨ (decide (d = fd) = false ∧ (d == fd) = false) := by
                      by_cases h : d = fd
                      · exact .inl ⟨by simp [h], by simp [h]⟩
                      · exact .inr ⟨decide_eq_false h, by simpa using h⟩
                    rcases hdf2 with ⟨g1, g2⟩ | ⟨g1, g2⟩
                    all_goals
                      dsimp only
                      rw [g1]
                      go_wp2_with fail
                      go_roundw
                      case rel => exact ⟨d + 1, rfl, by omega, by omega, by omega, hb16⟩
                      case measure => simp [intOf]; omega
                  · go_wp2_with fail
                    go_ret
                    exact ⟨rfl, hBw.out.trans (hR.out.mono hBw.out.size)⟩
                · go_wp2_with fail
                  go_ret
                  exact ⟨rfl, hBw.out.trans (hR.out.mono hBw.out.size)⟩
end Go.Proofs.Ytmkhapgkiecmaaa
