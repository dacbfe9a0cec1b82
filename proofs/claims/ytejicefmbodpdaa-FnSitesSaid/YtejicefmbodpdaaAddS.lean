/- AddCrane, the reference. -/
import Derived.Test.YtejicefmbodpdaaAdd
import Derived.Test.YtejicefmbodpdaaSiR
namespace Go.Proofs.Ytejicefmbodpdaa
open Go.RowKit
noncomputable def added (L : SiteL) (x : CraneF × List Chs) : SiteL × Int :=
  open Classical in if siteB L = true ∧ craneB x.1 x.2 = true then (if hasNm L x.1.name then ([], 4) else if 6 ≤ L.length then ([], 5) else if nearAny L x.1 then ([], 9) else (L ++ [x], 0)) else ([], 1)
theorem added_cases (L : SiteL) (x : CraneF × List Chs) :
    (siteB L = false ∧ added L x = ([], 1)) ∨ (siteB L = true ∧ craneB x.1 x.2 = false ∧ added L x = ([], 1)) ∨
    (siteB L = true ∧ craneB x.1 x.2 = true ∧ hasNm L x.1.name ∧ added L x = ([], 4)) ∨
    (siteB L = true ∧ craneB x.1 x.2 = true ∧ ¬ hasNm L x.1.name ∧ 6 ≤ L.length ∧ added L x = ([], 5)) ∨
    (siteB L = true ∧ craneB x.1 x.2 = true ∧ ¬ hasNm L x.1.name ∧ ¬ 6 ≤ L.length ∧ nearAny L x.1 ∧ added L x = ([], 9)) ∨
    (siteB L = true ∧ craneB x.1 x.2 = true ∧ ¬ hasNm L x.1.name ∧ ¬ 6 ≤ L.length ∧ ¬ nearAny L x.1 ∧ added L x = (L ++ [x], 0)) := by
  unfold added
  cases h1 : siteB L
  · exact .inl ⟨rfl, if_neg (by simp)⟩
  refine .inr ?_
  cases h2 : craneB x.1 x.2
  · exact .inl ⟨rfl, rfl, if_neg (by simp)⟩
  refine .inr ?_
  rw [if_pos ⟨rfl, rfl⟩]
  by_cases h3 : hasNm L x.1.name
  · exact .inl ⟨rfl, rfl, h3, if_pos h3⟩
  refine .inr ?_
  rw [if_neg h3]
  by_cases h4 : 6 ≤ L.length
  · exact .inl ⟨rfl, rfl, h3, h4, if_pos h4⟩
  refine .inr ?_
  rw [if_neg h4]
  by_cases h5 : nearAny L x.1
  · exact .inl ⟨rfl, rfl, h3, h4, h5, if_pos h5⟩
  · exact .inr ⟨rfl, rfl, h3, h4, h5, if_neg h5⟩
/-- The site with one more crane is valid just where none is near. -/
theorem added_ok {L : SiteL} {x : CraneF × List Chs} (h1 : siteOk L) (h2 : craneOk x.1 x.2) (h3 : ¬ hasNm L x.1.name) (h4 : ¬ 6 ≤ L.length) : siteOk (L ++ [x]) ↔ ¬ nearAny L x.1 := by
  constructor
  · rintro ⟨hrow, -⟩ ⟨i, hi, hn⟩
    have h := (hrow L.length (by simp)).2 i hi
    simp only [List.getElem_append_left hi, List.getElem_concat_length] at h
    have := h.2
    omega
  · intro hn
    refine ⟨fun i hi => ?_, by simp, by simp; omega⟩
    by_cases hlt : i < L.length
    · have h := h1.1 i hlt
      refine ⟨by rw [List.getElem_append_left hlt]; exact h.1, fun j hj => ?_⟩
      rw [List.getElem_append_left hlt, List.getElem_append_left (by omega)]
      exact h.2 j hj
    · have hil : i = L.length := by simp at hi; omega
      subst hil
      refine ⟨by simpa using h2, fun j hj => ?_⟩
      rw [List.getElem_append_left hj]
      simp only [List.getElem_concat_length]
      refine ⟨fun e => h3 ⟨j, hj, e⟩, ?_⟩
      by_cases h : sq4 L[j].1.x L[j].1.y x.1.x x.1.y ≤ 100
      · exact absurd ⟨j, hj, h⟩ hn
      · omega
theorem totM_snoc {φ α : Type} (a p : Nat) (L : List (φ × List α)) (x : φ × List α) : totM a p (L ++ [x]) = totM a p L + (a + x.2.length * p) := by rw [totM_append]; simp [totM]
theorem added_tot (L : SiteL) (x : CraneF × List Chs) (N : Nat) (h : totM 6 2 L + 46 ≤ N) : totM 6 2 (added L x).1 ≤ N := by
  rcases added_cases L x with ⟨_, h0⟩ | ⟨_, _, h0⟩ | ⟨_, _, _, h0⟩ | ⟨_, _, _, _, h0⟩ | ⟨_, _, _, _, _, h0⟩ | ⟨_, h2, _, _, _, h0⟩
  all_goals rw [h0]
  all_goals first
    | (simp [totM]; done)
    | (have h3 := (craneB_iff.1 h2).2.2.2.2.2.1.2.2
       rw [totM_snoc]; omega)
/-- The three boxes that AddCrane begins with: the site, the crane, the result. -/
structure Bx3 (w : World) (a : Option Addr) (n cap : Nat) (cs : List Value) (W : World) : Prop where
  s : Cb w.heap.size W (.slice a n cap)
  c : W.heap[w.heap.size + 1]? = some (.cells cs.toArray 35)
  r : Cb (w.heap.size + 2) W (.slice none 0 0)
theorem Bx3.below {w W W' : World} {a : Option Addr} {n cap B : Nat} {cs : List Value} (h : Bx3 w a n cap cs W) (hb : Below B W W') (hB : w.heap.size + 3 ≤ B) : Bx3 w a n cap cs W' :=
  ⟨h.s.below hb (by omega), (hb.block _ (by omega)).trans h.c, h.r.below hb (by omega)⟩
theorem Bx3.lt {w W : World} {a : Option Addr} {n cap : Nat} {cs : List Value} (h : Bx3 w a n cap cs W) : w.heap.size + 3 ≤ W.heap.size := by have := h.r.lt; omega
theorem Bx3.ext {w W W' : World} {a : Option Addr} {n cap : Nat} {cs : List Value} (h : Bx3 w a n cap cs W) (hb : Below W.heap.size W W') : Bx3 w a n cap cs W' := h.below hb h.lt
theorem Bx3.new (w : World) (a : Option Addr) (n cap : Nat) (cs : List Value) : Bx3 w a n cap cs (((w.alloc (.cells #[.slice a n cap] 26)).alloc (.cells cs.toArray 35)).alloc (.cells #[.slice none 0 0] 26)) := by
  have b1 : Below (w.alloc (.cells #[.slice a n cap] 26)).heap.size (w.alloc (.cells #[.slice a n cap] 26)) (((w.alloc (.cells #[.slice a n cap] 26)).alloc (.cells cs.toArray 35)).alloc (.cells #[.slice none 0 0] 26)) := ((Below.refl _ _).alloc (Nat.le_refl _) _).alloc (by simp) _
  refine ⟨(Cb.new w _ _).ext b1, ?_, ?_⟩
  · rw [show w.heap.size + 1 = (w.alloc (.cells #[.slice a n cap] 26)).heap.size from by simp]
    exact blkN_below ((Below.refl _ _).alloc (Nat.le_refl _) _) (blkN_new _ _)
  · have := Cb.new ((w.alloc (.cells #[.slice a n cap] 26)).alloc (.cells cs.toArray 35)) (.slice none 0 0) 26
    simpa using this
theorem OwnN.far {ρ φ α : Type} {n m : Nat} {c : ρ → List Value} {d : α → List Value} {fl : ρ → φ} {sv : ρ → SV} {lo p o : Nat} {te e t : TypeId} {fz : Nat × Nat} {cs : Array Value} {w : World} {v u : Value} {rs : List ρ} {L : List (φ × List α)} (h : OwnN n c fl sv m d lo te e w v rs L) (hp : w.heap[p]? = some (.cells cs t fz)) (h1 : t ≠ te) (h2 : t ≠ e) : OwnN n c fl sv m d lo te e (w.setCell ⟨p, o, none⟩ u) v rs L := by
  refine ⟨own_keep h.out fun g hg => Below.heap_setCell _ _ _ _ fun e => ?_, h.len, fun i r x hr hx => ⟨(h.row i r x hr hx).1, own_keep (h.row i r x hr hx).2 fun g hg => Below.heap_setCell _ _ _ _ fun e => ?_⟩, h.apart⟩
  · obtain ⟨cur, fz', hc⟩ := h.out.block hg
    dsimp only at e
    rw [e, hp] at hc
    cases hc; exact h1 rfl
  · obtain ⟨cur, fz', hc⟩ := (h.row i r x hr hx).2.block hg
    dsimp only at e
    rw [e, hp] at hc
    cases hc; exact h2 rfl
theorem TS_TK : 26 ≠ 35 := by decide
theorem TS_TC : 26 ≠ 32 := by decide
end Go.Proofs.Ytejicefmbodpdaa
