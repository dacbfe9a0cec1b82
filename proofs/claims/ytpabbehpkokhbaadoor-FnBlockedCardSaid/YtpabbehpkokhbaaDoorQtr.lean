/- The table of vectors: its cells, out of the row's condition. -/
import Derived.Test.YtpabbehpkokhbaaDoorChecked
import Derived.Test.YtpabbehpkokhbaaDoorBase
import Derived.OpenShut
import Derived.WalkSmall
namespace Go.Proofs.YtpabbehpkokhbaaDoor
open Go.RowKit
def qv : List Int := [1000, 0, 966, 259, 866, 500, 707, 707, 500, 866, 259, 966]
def Qtr (w : World) : Prop := ∀ j x, qv[j]? = some x → w.cell? ⟨0, j, none⟩ = some (.int .i64 x)
theorem Qtr.lt {w : World} (h : Qtr w) : 0 < w.heap.size := World.block_lt_of_cell? w _ (h 0 1000 rfl)
theorem Qtr.below {w w' : World} {B : Nat} (h : Qtr w) (hb : Below B w w') (hB : 0 < B) : Qtr w' := fun j x hx => (hb.cell (p := ⟨0, j, none⟩) hB).trans (h j x hx)
theorem Qtr.ext {w w' : World} (h : Qtr w) (hb : Below w.heap.size w w') : Qtr w' := h.below hb h.lt
theorem Qtr.mod {w w' : World} {lo hi : Nat} (h : Qtr w) (hm : Mod lo hi w w') (hlo : 0 < lo) : Qtr w' := fun j x hx => (World.cell?_of_block (hm.block _ h.lt (.inl hlo))).trans (h j x hx)

def quarterD {H : Type} : DataW H := .agg [.agg [.lit (.int .i64 1000), .lit (.int .i64 0)], .agg [.lit (.int .i64 966), .lit (.int .i64 259)], .agg [.lit (.int .i64 866), .lit (.int .i64 500)], .agg [.lit (.int .i64 707), .lit (.int .i64 707)], .agg [.lit (.int .i64 500), .lit (.int .i64 866)], .agg [.lit (.int .i64 259), .lit (.int .i64 966)]]
theorem gQ : Tryd.prog.globalNamed "loop.example/g00932/impl.quarter" = some 0 := by kernel_rfl
theorem gQT : (Tryd.prog.globals[0]?).map (·.type) = some 114 := by kernel_rfl
theorem qtr_of_laid {W : World} (h : laidMet Tryd.prog [("loop.example/g00932/impl.quarter", quarterD)] W) : Qtr W := by
  obtain ⟨ps, ⟨g', t', cs, fuel, p, q, hg', ht', hvar, hd, _, _⟩, _⟩ := h
  obtain rfl := Option.some.inj (gQ.symm.trans hg')
  obtain rfl := Option.some.inj (gQT.symm.trans ht')
  obtain ⟨xs, m, rfl, hx, hl, hxl, hall⟩ := DataW.trod_array Tryd.underlying114 hd
  have hp : Tryd.prog.cellsOf 26 = 2 := by kernel_rfl
  have hi : Tryd.prog.cellsOf 2 = 1 := by kernel_rfl
  rw [hp] at hall
  have hxs := congrArg Prod.fst hx
  simp only [quarterD, DataW.agg.injEq] at hxs
  have key : ∀ i (_ : i < 6) a b, (xs.map (·.1))[i]? = some (DataW.agg [DataW.lit (.int .i64 a), DataW.lit (.int .i64 b)] : DataW Unit) → cs.toList[i * 2]? = some (.int .i64 a) ∧ cs.toList[i * 2 + 1]? = some (.int .i64 b) := by
    intro i hi6 a b hab
    have h1 := hall i hi6
    rw [List.getElem?_map] at hab
    obtain ⟨x, hxi, hxd⟩ := Option.map_eq_some_iff.1 hab
    rw [hxi] at h1
    obtain ⟨ys, m2, rfl, hy, hyl, hyn, hf⟩ := DataW.trod_struct Tryd.underlying26 h1
    have f0 : DataW.trod _ Tryd.prog W 0 _ false m2 2 ((((cs.toList.drop (i * 2)).take 2).drop 0).take (Tryd.prog.cellsOf 2)) = ys[0]? := hf 0 _ rfl
    have f1 : DataW.trod _ Tryd.prog W 0 _ false m2 2 ((((cs.toList.drop (i * 2)).take 2).drop 1).take (Tryd.prog.cellsOf 2)) = ys[1]? := hf 1 _ rfl
    rw [hi] at f0 f1
    rw [hy] at hxd
    simp only [DataW.agg.injEq] at hxd
    have hyn' : ys.length = 2 := hyn
    clear hf hyn hyl hy hxi h1
    match ys, hyn' with
    | [y0, y1], _ =>
      simp only [List.map_cons, List.map_nil, List.cons.injEq, and_true] at hxd
      obtain ⟨n0, e0, hd0, _⟩ := DataW.trod_int Tryd.underlying2 f0
      obtain ⟨n1, e1, hd1, _⟩ := DataW.trod_int Tryd.underlying2 f1
      subst hd0
      subst hd1
      simp only [DataW.lit.injEq, Lit.int.injEq, true_and] at hxd
      obtain ⟨rfl, rfl⟩ := hxd
      have e0 := congrArg (·[0]?) e0
      have e1 := congrArg (·[0]?) e1
      refine ⟨?_, ?_⟩
      · simpa [List.getElem?_take, List.getElem?_drop] using e0
      · simpa [List.getElem?_take, List.getElem?_drop] using e1
  rw [← hxs] at key
  intro j x hx
  have hw := World.var?_cell gQ hvar j
  rw [hw]
  rw [show cs[j]? = cs.toList[j]? by simp]
  match j with
  | 0 => exact (key 0 (by omega) _ _ rfl).1.trans (by simpa [qv] using hx)
  | 1 => exact (key 0 (by omega) _ _ rfl).2.trans (by simpa [qv] using hx)
  | 2 => exact (key 1 (by omega) _ _ rfl).1.trans (by simpa [qv] using hx)
  | 3 => exact (key 1 (by omega) _ _ rfl).2.trans (by simpa [qv] using hx)
  | 4 => exact (key 2 (by omega) _ _ rfl).1.trans (by simpa [qv] using hx)
  | 5 => exact (key 2 (by omega) _ _ rfl).2.trans (by simpa [qv] using hx)
  | 6 => exact (key 3 (by omega) _ _ rfl).1.trans (by simpa [qv] using hx)
  | 7 => exact (key 3 (by omega) _ _ rfl).2.trans (by simpa [qv] using hx)
  | 8 => exact (key 4 (by omega) _ _ rfl).1.trans (by simpa [qv] using hx)
  | 9 => exact (key 4 (by omega) _ _ rfl).2.trans (by simpa [qv] using hx)
  | 10 => exact (key 5 (by omega) _ _ rfl).1.trans (by simpa [qv] using hx)
  | 11 => exact (key 5 (by omega) _ _ rfl).2.trans (by simpa [qv] using hx)
  | j + 12 => simp [qv] at hx
end Go.Proofs.YtpabbehpkokhbaaDoor
