/- FirstWorkDay in the given package. -/
import Derived.Test.YtmkhapgkiecmaaaWork
namespace Go.Proofs.Ytmkhapgkiecmaaa
open Go.RowKit

theorem best_cases {cs : List Chk} {fs : List Fnd} {crane day : Int} {k : Nat} (hk : k < fs.length) {b : Int} (hb : b = bestTo cs fs crane day k) {to : Int} (ht : to = fs[k].closed) :
    (decide (day < to) = false ∧ bestTo cs fs crane day (k + 1) = b) ∨
    (decide (day < to) = true ∧ decide (b < 0) = false ∧ decide (to < b) = false ∧ bestTo cs fs crane day (k + 1) = b) ∨
    (decide (day < to) = true ∧ decide (b < 0) = true ∧ mayB cs fs crane to = false ∧ bestTo cs fs crane day (k + 1) = b) ∨
    (decide (day < to) = true ∧ decide (b < 0) = true ∧ mayB cs fs crane to = true ∧ bestTo cs fs crane day (k + 1) = to) ∨
    (decide (day < to) = true ∧ decide (b < 0) = false ∧ decide (to < b) = true ∧ mayB cs fs crane to = false ∧ bestTo cs fs crane day (k + 1) = b) ∨
    (decide (day < to) = true ∧ decide (b < 0) = false ∧ decide (to < b) = true ∧ mayB cs fs crane to = true ∧ bestTo cs fs crane day (k + 1) = to) := by
  subst hb ht
  simp only [decide_eq_false_iff_not, decide_eq_true_eq]
  by_cases h1 : day < fs[k].closed
  · cases hm : mayB cs fs crane fs[k].closed
    · have e := bestTo_no (cs := cs) (crane := crane) (day := day) hk (by rw [hm]; simp)
      by_cases h2 : bestTo cs fs crane day k < 0
      · exact .inr (.inr (.inl ⟨h1, h2, rfl, e⟩))
      · by_cases h3 : fs[k].closed < bestTo cs fs crane day k
        · exact .inr (.inr (.inr (.inr (.inl ⟨h1, h2, h3, rfl, e⟩))))
        · exact .inr (.inl ⟨h1, h2, h3, e⟩)
    · by_cases h2 : bestTo cs fs crane day k < 0
      · exact .inr (.inr (.inr (.inl ⟨h1, h2, rfl, bestTo_yes hk ⟨h1, .inl h2, hm⟩⟩)))
      · by_cases h3 : fs[k].closed < bestTo cs fs crane day k
        · exact .inr (.inr (.inr (.inr (.inr ⟨h1, h2, h3, rfl, bestTo_yes hk ⟨h1, .inr h3, hm⟩⟩))))
        · exact .inr (.inl ⟨h1, h2, h3, bestTo_no hk (fun h => by rcases h.2.1 with h | h <;> contradiction)⟩)
  · exact .inl ⟨h1, bestTo_no hk (fun h => h1 h.1)⟩

set_option maxHeartbeats 8000000 in
theorem spec_FirstWorkDay (v : Value) (l : List Chk) (lo hi : Nat) (v2 : Value) (l2 : List Fnd) (lo2 hi2 : Nat) (crane day : Int) (w : World) (h : Chks lo hi w v l) (hl : l.length ≤ 1048576) (hwf : ∀ x ∈ l, x.wf) (h2 : Fnds lo2 hi2 w v2 l2) (hl2 : l2.length ≤ 1048576) (_hwf2 : ∀ x ∈ l2, x.wf) (_hc : I64 crane) (_hd : I64 day) :
    Calls Try.prog 9 #[v, v2, .int .i64 crane, .int .i64 day] w fun e w' => e = .returned (.tuple #[.int .i64 (firstW l l2 crane day).1, .int .i64 (firstW l l2 crane day).2]) ∧ Below w.heap.size w w' := by
  have hcode := Lib.hid (spec_l26Code v l lo hi v2 l2 lo2 hi2 crane day w h hl hwf h2)
  have hsl := h
  have hsl2 := h2
  obtain ⟨a, cap, rfl, hlen, hh⟩ := h
  obtain ⟨a2, cap2, rfl, hlen2, hh2⟩ := h2
  clear hh hh2 hwf _hwf2
  by_cases hz : workC l l2 crane day = 0
  case neg =>
    rw [firstW_n hz]
    generalize workC l l2 crane day = c at *
    have hne : (c != 0) = true := by rw [bne_iff_ne]; exact hz
    clear hz
    go_enter Try.func9, Try.ntmps9
    go_wp2_with fail
    refine hcode.out.mono ?_
    rintro e w1 ⟨rfl, hb1⟩
    go_wp2
    go_ret2
    exact ⟨rfl, hb1⟩
  obtain ⟨h1, h2, h3, h4⟩ := workC_zero hz
  have hmay := Lib.hid (fun w' d (hd0 : -200000 ≤ d) (hd1 : d ≤ 200000) hw1 hw2 => spec_l26May (.slice a l.length cap) l lo hi (.slice a2 l2.length cap2) l2 lo2 hi2 crane d w' hw1 hl (fun k hk => chksOk.row h1 hk) hw2 hl2 (fun k hk => okAt h2 hk) hd0 hd1)
  have Hok := Lib.hid (fun k hk => okAt h2 (k := k) hk)
  have hcode2 := hcode.out
  rw [hz] at hcode2
  have Hcode := Lib.hid hcode2
  obtain ⟨hd0, hd1⟩ := h4
  cases hm : mayB l l2 crane day
  case true =>
    rw [firstW_may hz hm]
    have Hm := Lib.hid hm
    clear hcode hcode2 h1 h2 h3 hz hm
    go_enter Try.func9, Try.ntmps9
    go_wp2_with fail
    refine Hcode.out.mono ?_
    rintro e w1 ⟨rfl, hb1⟩
    go_wp2_with fail
    refine (hmay.out _ day (by omega) (by omega) (hsl.ext hb1) (hsl2.ext hb1)).mono ?_
    rintro e w2 ⟨rfl, hb2⟩
    rw [Hm.out]
    have hB := hb1.trans (hb2.mono hb1.size)
    go_wp2
    go_ret2
    exact ⟨rfl, hB⟩
  have Hnone := Lib.hid (firstW_none hz hm)
  have Hbest := Lib.hid (firstW_best hz hm)
  have Hm := Lib.hid hm
  clear hcode hcode2 h1 h2 h3 hz hm
  go_enter Try.func9, Try.ntmps9
  go_wp2_with fail
  refine Hcode.out.mono ?_
  rintro e w1 ⟨rfl, hb1⟩
  go_wp2_with fail
  refine (hmay.out _ day (by omega) (by omega) (hsl.ext hb1) (hsl2.ext hb1)).mono ?_
  rintro e w2 ⟨rfl, hb2⟩
  rw [Hm.out]
  have hB := hb1.trans (hb2.mono hb1.size)
  go_wp2
  go_loopw [11, 12] (fun m i wr => ∃ k : Nat, k ≤ l2.length ∧ i = .int .i64 k ∧ (∃ b : Int, m = .int .i64 b ∧ Hid (b = bestTo l l2 crane day k)) ∧ Below w.heap.size w wr) (fun _ i _ => l2.length - (intOf i).toNat)
  case atStart => exact ⟨0, Nat.zero_le _, rfl, ⟨-1, rfl, Lib.hid rfl⟩, hB⟩
  case round =>
    obtain ⟨k, hk, rfl, ⟨bst, rfl, hbst⟩, hB⟩ := hrel
    have hBs := hB.size
    by_cases hlt : k < l2.length
    · obtain ⟨b, off, rfl⟩ := hsl2.addr (by omega)
      obtain ⟨c0, c1, c2, c3⟩ := Fnds.at (hsl2.ext hB).get hlt
      have hok := Hok.out k hlt
      have hto : -1 ≤ l2[k].closed ∧ l2[k].closed ≤ 100000 := by unfold Fnd.ok at hok; omega
      obtain ⟨to, htoe⟩ : ∃ to, to = l2[k].closed := ⟨_, rfl⟩
      rw [← htoe] at hto c3
      have hcall := hmay.out wr to (by omega) (by omega) (hsl.ext hB) (hsl2.ext hB)
      have hcs := best_cases (cs := l) (crane := crane) (day := day) hlt hbst.out htoe
      clear hok htoe
      generalize l2[k] = x at *
      rcases hcs with ⟨q1, hn⟩ | ⟨q1, q2, q3, hn⟩ | ⟨q1, q2, hq, hn⟩ | ⟨q1, q2, hq, hn⟩ | ⟨q1, q2, q3, hq, hn⟩ | ⟨q1, q2, q3, hq, hn⟩
      · have Hn := Lib.hid hn.symm
        clear hn hcall
        go_wp2
        go_roundw
        case rel => exact ⟨k + 1, by omega, by go_num, ⟨bst, rfl, Hn⟩, hB⟩
        case measure => simp [intOf]; omega
      · have Hn := Lib.hid hn.symm
        clear hn hcall
        go_wp2
        go_roundw
        case rel => exact ⟨k + 1, by omega, by go_num, ⟨bst, rfl, Hn⟩, hB⟩
        case measure => simp [intOf]; omega
      all_goals
        rw [hq] at hcall
        have Hcall := Lib.hid hcall
        have Hn := Lib.hid hn.symm
        clear hn hcall hq
        go_wp2_with fail
        refine Hcall.out.mono ?_
        rintro e w3 ⟨rfl, hb3⟩
        have hB2 := hB.trans (hb3.mono hBs)
        go_wp2
        go_roundw
        case rel => first | exact ⟨k + 1, by omega, by go_num, ⟨bst, rfl, Hn⟩, hB2⟩ | exact ⟨k + 1, by omega, by go_num, ⟨to, rfl, Hn⟩, hB2⟩
        case measure => simp [intOf]; omega
    · have : k = l2.length := by omega
      subst this
      by_cases hneg : bst < 0
      · have hr := Hnone.out (by rw [← hbst.out]; omega)
        have Hr := Lib.hid hr
        clear hr
        go_wp2
        go_ret2
        exact ⟨by rw [Hr.out]; rfl, hB⟩
      · have hr := Hbest.out (by rw [← hbst.out]; omega)
        have Hr := Lib.hid hr
        clear hr
        go_wp2
        go_ret2
        exact ⟨by rw [Hr.out, ← hbst.out]; rfl, hB⟩
end Go.Proofs.Ytmkhapgkiecmaaa
