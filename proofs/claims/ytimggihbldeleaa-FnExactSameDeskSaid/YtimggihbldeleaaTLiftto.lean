/- Lift: the laws' helpers (to). -/
import Derived.Test.YtimggihbldeleaaTLift
namespace Go.Proofs.Ytimggihbldeleaa
open Go.RowKit Go.WideShapes Go.ChangeShapes Go.Deep
set_option maxRecDepth 100000 in
set_option maxHeartbeats 4000000 in
theorem law_toLift (r : LiftR) (l : List Int) (lo hi : Nat) (w : World) (h : Sl 1 intCells lo hi w r.s.v l) (hn : l.length ≤ 1048576) :
    Calls Try.prog 48 #[.agg r.cells.toArray] w (ToN LiftR.cells (fun s => ⟨r.f, s⟩) 1 intCells l w) := by
  have HT := Lib.hid (fun w' (hb : Below w.heap.size w w') => law_toInt64S r.s.v l lo hi w' (h.ext hb) hn)
  clear h
  obtain ⟨⟨x0, x1, x2, x3, x4, x5, x6, x7⟩, xs⟩ := r
  obtain ⟨sa, sl, sc⟩ := xs
  simp only [LiftR.cells, SV.v] at *
  go_enter Try.func48, Try.ntmps48
  go_wp2_with fail
  refine (law_toPoint' _ _ _).mono ?_
  rintro e w1 ⟨rfl, hb1⟩
  have q1 := (bcell hb1).1
  have f1 := (bcell hb1).2
  have za1 : w.heap.size < w1.heap.size := Nat.lt_of_lt_of_le (by first | omega | (simp; omega) | simp) (hb1).size
  have zb1 : w.heap.size + 1 < w1.heap.size := Nat.lt_of_lt_of_le (by first | omega | (simp; omega) | simp) (hb1).size
  have zc1 : w.heap.size + 1 + 1 < w1.heap.size := Nat.lt_of_lt_of_le (by first | omega | (simp; omega) | simp) (hb1).size
  have b1 : Below w.heap.size w w1 := Below.trans (by go_grown) ((hb1).mono (by first | omega | (simp; omega) | simp))
  go_wp2_with fail
  refine (law_toPoint' _ _ _).mono ?_
  rintro e w2 ⟨rfl, hb2⟩
  have q2 := (bcell hb2).1
  have f2 := (bcell hb2).2
  have za2 : w.heap.size < w2.heap.size := Nat.lt_of_lt_of_le (by first | omega | (simp; omega) | simp) (hb2).size
  have zb2 : w.heap.size + 1 < w2.heap.size := Nat.lt_of_lt_of_le (by first | omega | (simp; omega) | simp) (hb2).size
  have zc2 : w.heap.size + 1 + 1 < w2.heap.size := Nat.lt_of_lt_of_le (by first | omega | (simp; omega) | simp) (hb2).size
  have b2 : Below w.heap.size w w2 := Below.trans (by go_grown) ((hb2).mono (by first | omega | (simp; omega) | simp))
  go_wp2_with fail
  refine (HT.out _ ?hb).mono ?_
  case hb => go_grown
  rintro e w3 ⟨v', rfl, hs, hb3⟩
  have q3 := (bcell hb3).1
  have f3 := (bcell hb3).2
  have za3 : w.heap.size < w3.heap.size := Nat.lt_of_lt_of_le (by first | omega | (simp; omega) | simp) (hb3).size
  have zb3 : w.heap.size + 1 < w3.heap.size := Nat.lt_of_lt_of_le (by first | omega | (simp; omega) | simp) (hb3).size
  have zc3 : w.heap.size + 1 + 1 < w3.heap.size := Nat.lt_of_lt_of_le (by first | omega | (simp; omega) | simp) (hb3).size
  have b3 : Below w.heap.size w w3 := Below.trans (by go_grown) ((hb3).mono (by first | omega | (simp; omega) | simp))
  have zd3 := hb3.size
  obtain ⟨va, vc, rfl⟩ : ∃ va vc, v' = .slice va l.length vc := by obtain ⟨⟨a, cap, h, _⟩, _⟩ := hs; exact ⟨a, cap, h⟩
  have Hs := Lib.hid hs
  clear hs
  go_wp2
  exact bodyPost_ret (v := .agg #[.string x0, .int .i64 x1, .int .i64 x2, .int .i64 x3, .int .i64 x4, .int .i64 x5, .int .i64 x6, .int .i64 x7, .slice va l.length vc]) (by simp [results, Try.results48, go_sem, q1, za1, zb1, zc1, q2, za2, zb2, zc2, q3, za3, zb3, zc3]) rfl ⟨⟨va, l.length, vc⟩, rfl, modN (by simp <;> omega) (by simp) Hs.out (by repeat (first | refine Mod.setCell ?_ (by first | omega | (simp; omega) | simp) (by first | omega | (simp; omega) | simp) _ | exact Mod.refl _ _ _)), by go_grown⟩
end Go.Proofs.Ytimggihbldeleaa
