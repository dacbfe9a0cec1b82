/- Crane: the laws' helpers (to). -/
import Derived.Test.YteeigmgepahdhaaDoorTCrane
namespace Go.Proofs.YteeigmgepahdhaaDoor
open Go.RowKit Go.WideShapes Go.ChangeShapes Go.Deep
set_option maxRecDepth 100000 in
set_option maxHeartbeats 4000000 in
theorem law_toCrane (r : CraneR) (l : List Chs) (lo hi : Nat) (w : World) (h : Sl 2 Chs.cells lo hi w r.s.v l) (hn : l.length ≤ 1048576) :
    Calls Tryd.prog 17 #[.agg r.cells.toArray] w (ToN CraneR.cells (fun s => ⟨r.f, s⟩) 2 Chs.cells l w) := by
  have HT := Lib.hid (fun w' (hb : Below w.heap.size w w') => law_toChartStepS r.s.v l lo hi w' (h.ext hb) hn)
  clear h
  obtain ⟨⟨x0, x1, x2, x3, x4, x5⟩, xs⟩ := r
  obtain ⟨sa, sl, sc⟩ := xs
  simp only [CraneR.cells, SV.v] at *
  go_enter Tryd.func17, Tryd.ntmps17
  go_wp2_with fail
  refine (law_toPoint' _ _ _).mono ?_
  rintro e w1 ⟨rfl, hb1⟩
  have q1 := (bcell hb1).1
  have f1 := (bcell hb1).2
  have za1 : w.heap.size < w1.heap.size := Nat.lt_of_lt_of_le (by first | omega | (simp; omega) | simp) (hb1).size
  have zb1 : w.heap.size + 1 < w1.heap.size := Nat.lt_of_lt_of_le (by first | omega | (simp; omega) | simp) (hb1).size
  have zc1 : w.heap.size + 1 + 1 < w1.heap.size := Nat.lt_of_lt_of_le (by first | omega | (simp; omega) | simp) (hb1).size
  have b1 : Below w.heap.size w w1 := Below.trans (by go_grown) ((hb1).mono (by first | omega | (simp; omega) | simp))
  go_wp2_with fail
  refine (HT.out _ ?hb).mono ?_
  case hb => go_grown
  rintro e w2 ⟨v', rfl, hs, hb2⟩
  have q2 := (bcell hb2).1
  have f2 := (bcell hb2).2
  have za2 : w.heap.size < w2.heap.size := Nat.lt_of_lt_of_le (by first | omega | (simp; omega) | simp) (hb2).size
  have zb2 : w.heap.size + 1 < w2.heap.size := Nat.lt_of_lt_of_le (by first | omega | (simp; omega) | simp) (hb2).size
  have zc2 : w.heap.size + 1 + 1 < w2.heap.size := Nat.lt_of_lt_of_le (by first | omega | (simp; omega) | simp) (hb2).size
  have b2 : Below w.heap.size w w2 := Below.trans (by go_grown) ((hb2).mono (by first | omega | (simp; omega) | simp))
  have zd2 := hb2.size
  obtain ⟨va, vc, rfl⟩ : ∃ va vc, v' = .slice va l.length vc := by obtain ⟨⟨a, cap, h, _⟩, _⟩ := hs; exact ⟨a, cap, h⟩
  have Hs := Lib.hid hs
  clear hs
  go_wp2
  exact bodyPost_ret (v := .agg #[.string x0, .int .i64 x1, .int .i64 x2, .int .i64 x3, .int .i64 x4, .int .i64 x5, .slice va l.length vc]) (by simp [results, Tryd.results17, go_sem, q1, za1, zb1, zc1, q2, za2, zb2, zc2]) rfl ⟨⟨va, l.length, vc⟩, rfl, modN (by simp <;> omega) (by simp) Hs.out (by repeat (first | refine Mod.setCell ?_ (by first | omega | (simp; omega) | simp) (by first | omega | (simp; omega) | simp) _ | exact Mod.refl _ _ _)), by go_grown⟩
end Go.Proofs.YteeigmgepahdhaaDoor
