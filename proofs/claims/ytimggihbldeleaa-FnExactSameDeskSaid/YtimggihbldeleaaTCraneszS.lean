/- Crane: the laws' helpers (szS). -/
import Derived.Test.YtimggihbldeleaaTCranesz
import Derived.Test.YtimggihbldeleaaTCrane
namespace Go.Proofs.Ytimggihbldeleaa
open Go.RowKit Go.WideShapes Go.ChangeShapes Go.Deep
set_option maxRecDepth 100000 in
set_option maxHeartbeats 4000000 in
theorem law_szCraneS (v : Value) (rs : List CraneR) (L : List (CraneF × List Chs)) (lo hi : Nat) (n : Int) (w : World) (h : Cranes lo hi w v rs L) (hwf : ∀ x ∈ L, x.1.wf ∧ ∀ y ∈ x.2, y.wf) (h0 : 0 ≤ n) (hn : n ≤ 1048576) :
    Calls Try.prog 43 #[v, .int .i64 n] w fun e w' => e = .returned (.int .i64 (szRes n ((L.length + totN (fun f : CraneF => f.name.size) L : Nat) : Int))) ∧ Below w.heap.size w w' := by
  have hl1 := h.len
  have hcap : rs.length ≤ 9223372036854775807 := by obtain ⟨a, cap, _, hc, _⟩ := h.out; omega
  have Hs := Lib.hid h
  have Hwf := Lib.hid hwf
  clear hwf
  obtain ⟨⟨a, cap, rfl, _⟩, _, _⟩ := h
  rw [hl1]
  rw [hl1] at hcap
  have Hl1 := Lib.hid hl1
  clear hl1
  by_cases hc : n < L.length
  · rw [szRes_lt (show n < ((L.length + totN (fun f : CraneF => f.name.size) L : Nat) : Int) by omega)]
    go_enter Try.func43, Try.ntmps43
    go_wp2
    go_ret
    exact ⟨rfl, Below.refl _ _⟩
  · go_enter Try.func43, Try.ntmps43
    go_wp2
    go_loopw [1, 5] (fun r i wr => ∃ k : Nat, k ≤ L.length ∧ i = .int .i64 k ∧ ∃ m : Int, r = .int .i64 m ∧ 0 ≤ m ∧ m ≤ n ∧ Hid (m = n - L.length - (totN (fun f : CraneF => f.name.size) (L.take k) : Nat)) ∧ Below w.heap.size w wr) (fun _ i _ => L.length - (intOf i).toNat)
    case atStart => exact ⟨0, Nat.zero_le _, rfl, _, rfl, by omega, by omega, Lib.hid (by simp [totN]), Below.refl _ _⟩
    case round =>
      obtain ⟨k, hk, rfl, m, rfl, hm0, hmn, hm, hB⟩ := hrel
      by_cases hlt : k < L.length
      · have hk1 : k < rs.length := by rw [Hl1.out]; exact hlt
        have hs : Cranes lo hi wr (.slice a L.length cap) rs L := by rw [← Hl1.out]; exact Hs.out.ext hB
        obtain ⟨hfl, hrow⟩ := hs.one hlt hk1
        have hwk := Hwf.out _ (List.getElem_mem hlt)
        have hcall := law_szCrane rs[k] L[k].2 lo hi m wr hrow (by rw [hfl]; exact hwk.1) hwk.2 hm0 (by omega)
        rw [hfl] at hcall
        obtain ⟨b, off, rfl⟩ := hs.out.addr (by omega)
        obtain ⟨c0, c1, c2, c3, c4, c5, c6⟩ := Cranes_at hs hk1
        have htt := Lib.hid (totN_take (fun f : CraneF => f.name.size) hlt)
        have htl := Lib.hid (totN_le (fun f : CraneF => f.name.size) L (k + 1))
        clear hs hrow hwk hfl
        generalize L[k].1.name.size + L[k].2.length = q at *
        generalize rs[k] = r at *
        obtain ⟨⟨x0, x1, x2, x3, x4, x5⟩, ⟨sa, sl, sc⟩⟩ := r
        simp only [CraneR.cells, SV.v] at hcall c0 c1 c2 c3 c4 c5 c6
        have hcall := Lib.hid hcall
        by_cases hx : m < q
        · rw [szRes_lt hx] at hcall
          have Hr : Hid (n < ((L.length + totN (fun f : CraneF => f.name.size) L : Nat) : Int)) := Lib.hid (by have := hm.out; have := htt.out; have := htl.out; omega)
          clear hx
          go_wp2_with fail
          refine hcall.out.mono ?_
          rintro e w1 ⟨rfl, hb1⟩
          go_wp2
          go_ret
          rw [szRes_lt Hr.out]
          exact ⟨rfl, hB.trans (hb1.mono hB.size)⟩
        · rw [szRes_ge hx] at hcall
          have hx2 : decide (m - (q : Int) < 0) = false := decide_eq_false (by omega)
          go_wp2_with fail
          refine hcall.out.mono ?_
          rintro e w1 ⟨rfl, hb1⟩
          go_wp2
          go_roundw
          case rel => exact ⟨k + 1, by omega, by go_num, m - q, rfl, by omega, by omega, Lib.hid (by have := hm.out; have := htt.out; omega), hB.trans (hb1.mono hB.size)⟩
          case measure => simp [intOf]; omega
      · have : k = L.length := by omega
        subst this
        have Hr : Hid (szRes n ((L.length + totN (fun f : CraneF => f.name.size) L : Nat) : Int) = m) := Lib.hid (by
          have := hm.out
          rw [List.take_length] at this
          rw [szRes_ge (by omega)]; omega)
        go_wp2
        go_ret
        rw [Hr.out]
        exact ⟨rfl, hB⟩
end Go.Proofs.Ytimggihbldeleaa
