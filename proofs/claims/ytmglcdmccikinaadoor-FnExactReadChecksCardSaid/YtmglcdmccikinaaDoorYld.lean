/- A range over a function whose iterator keeps a variable of its own: a law of the walk. -/
import Derived.RangeFuncWrites
import Derived.RangeFuncCalls
import Derived.Handy
import Derived.Test.YtmglcdmccikinaaDoorBase
namespace Go.Proofs.YtmglcdmccikinaaDoor
open Go.RowKit
/-- Neither new blocks nor what block p holds are minded. -/
def Blind (p : Nat) (J : Nat → World → Prop) : Prop := ∀ k W W', J k W → W.grownBy W' (some p) → J k W'
/-- An iterator that hands out the elements of a list in turn, and keeps a variable of its own in block p. -/
def Yields {α : Type} (F : Fence) (n : Nat) (P : Program) (g : Nat) (lb : Array Value) (enc : α → Value) (p : Nat) (xs : List α) (w : World) : Prop :=
  ∀ (l : Nat) (J Jx : Nat → World → Prop) (W : World), Below w.heap.size w W → Blind p J → Blind p Jx →
    (∀ k (h : k < xs.length) W1, J k W1 → YieldAt F (n - 1) P l #[enc xs[k]] W1 fun e W' => (e = .returned (.bool true) ∧ J (k + 1) W' ∧ W'.heap[p]? = W1.heap[p]?) ∨ (e = .returned (.bool false) ∧ Jx k W')) →
    J 0 W → CallsIn F n P g (#[.func (.yield l) #[] #[]] ++ lb) W fun e W' => (∃ v, e = .returned v) ∧ (J xs.length W' ∨ ∃ k, k < xs.length ∧ Jx k W')
/-- What the loop's owner says holds between two rounds: new blocks, block p, and blocks from B on that are no cells may turn. -/
def Steady (B p : Nat) (I : Nat → World → Prop) : Prop :=
  ∀ k W W' r, I k W → W.grownBy W' (some r) → (r = p ∨ (B ≤ r ∧ ∃ o, W.heap[r]? = some o ∧ o.isCells = false)) → I k W'
theorem grown_any {W W' : World} (h : W.grownBy W' none) (r : Nat) : W.grownBy W' (some r) := ⟨h.os, h.tape, h.output, h.size, fun k hk _ => h.block k hk (by simp)⟩
/-- How a round's body may be left. -/
def leftBy (p B : Nat) (I : Nat → World → Prop) (Ix : Code → Nat → World → Prop) (k : Nat) (W : World) : Exit → Act → World → Prop
  | .normal, _, W' => KeepsFrom B W W' ∧ W'.heap[p]? = W.heap[p]? ∧ I (k + 1) W'
  | .ret, _, W' => KeepsFrom B W W' ∧ Ix .ret k W'
  | .exit i, _, W' => KeepsFrom B W W' ∧ Ix (.exit i) k W'
  | .goto t, _, W' => KeepsFrom B W W' ∧ Ix (.goto t) k W'
  | .panic _, _, _ => False
  | .outgrown, _, _ => False
/-- The two blocks that the loop lays: its record (in block B + 1), and the one for deferred calls (in block B). -/
structure Laid2 (B : Nat) (r : Loop) (W : World) : Prop where
  rcd : W.heap[B + 1]? = some (.loop r)
  dfr : W.heap[B]? = some (.deferred (some []))
theorem Laid2.grown {B p : Nat} {r : Loop} {W W' : World} (h : Laid2 B r W) (hp : p < B) (hg : W.grownBy W' (some p)) : Laid2 B r W' :=
  ⟨(hg.block _ (Array.getElem?_eq_some_iff.1 h.rcd).1 (by simp; omega)).trans h.rcd, (hg.block _ (Array.getElem?_eq_some_iff.1 h.dfr).1 (by simp; omega)).trans h.dfr⟩
theorem Laid2.put {B : Nat} {r r' : Loop} {W : World} (h : Laid2 B r W) : Laid2 B r' (W.putObj (B + 1) (.loop r')) :=
  ⟨World.putObj_heap_same (Array.getElem?_eq_some_iff.1 h.rcd).1, (World.putObj_heap_other (by omega)).trans h.dfr⟩
theorem Laid2.keeps {B : Nat} {r : Loop} {W W' : World} (h : Laid2 B r W) (hk : KeepsFrom B W W') : Laid2 B r W' :=
  ⟨hk.same _ _ (by omega) h.rcd rfl, hk.same _ _ (Nat.le_refl _) h.dfr rfl⟩
theorem Steady.put {B p : Nat} {I : Nat → World → Prop} (hI : Steady B p I) {k : Nat} {W : World} {r : Loop} (h : Laid2 B r W) (hi : I k W) (o : Obj) : I k (W.putObj (B + 1) o) :=
  hI k W _ (B + 1) hi (grownBy_putObj' W (B + 1) o) (.inr ⟨by omega, _, h.rcd, rfl⟩)
theorem wpIn_yields {F : Fence} {n : Nat} {P : Program} {α : Type} {g : Operand} {t0 : Tmp} {assign body : Code} {Q : Exit → Act → World → Prop} {a : Act} {w : World} (hro : F.round = none) (h1 : 1 ≤ n)
    {gf : Nat} {lb : Array Value} (hg : a.eval g = .func (.func gf) #[] lb) (hFg : F.fn gf) (eg : ∀ args w, (callFunc gf args).run P w = .ok (.enter gf args) w)
    {enc : α → Value} {p : Nat} {xs : List α} {w0 : World} (hseq : Yields F (n - 1) P gf lb enc p xs w0) (hb0 : Below w0.heap.size w0 w) (hp : p < w.heap.size)
    (I : Nat → World → Prop) (Ix : Code → Nat → World → Prop) (hI : Steady w.heap.size p I) (hIx : ∀ c, Steady w.heap.size p (Ix c)) (h0 : I 0 w) (a₁ : α → Act)
    (hassign : ∀ (l : Nat) (x : α) (W : World) (K : Act → World → Prop), K (a₁ x) W → assign.wpIn (F.inRound l) (n - 1 - 1) P (Exit.then K (fun _ _ _ => False)) { tmps := a.tmps.setIfInBounds t0 (enc x), defers := [] } W)
    (hbody : ∀ (l k : Nat) (h : k < xs.length) (W : World), w.heap.size ≤ W.heap.size → I k W → body.wpIn (F.inRound l) (n - 1 - 1) P (leftBy p w.heap.size I Ix k W) (a₁ xs[k]) W)
    (hdone : ∀ (D : Nat) (W : World), w.heap.size ≤ D → I xs.length W → W.heap[D]? = some (.deferred (some [])) → Q .normal { a with defers := { target := .collected D, args := #[] } :: a.defers } W)
    (hstop : ∀ (D : Nat) (c : Code) (k : Nat) (W : World), w.heap.size ≤ D → k < xs.length → Ix c k W → W.heap[D]? = some (.deferred (some [])) → c.wpIn F n P Q { a with defers := { target := .collected D, args := #[] } :: a.defers } W) :
    (Code.rangeFunc g #[t0] assign body).wpIn F n P Q a w := by
  refine wpIn_rangeFunc fun fn hfn => ?_
  rw [hro]
  generalize hB : w.heap.size = B at *
  let rc : LoopState → Option Code → Loop := fun st pe => { state := st, pending := pe, fn, tmps := a.tmps, params := #[t0], assign, body, defers := B }
  obtain ⟨W1, hW1⟩ : ∃ W1, (w.alloc (.deferred (some []))).alloc (.loop (rc .ready none)) = W1 := ⟨_, rfl⟩
  have hlaid : Laid2 B (rc .ready none) W1 := by
    rw [← hW1, ← hB]
    refine ⟨?_, (Below.heap_alloc _ _ _ (by simp)).trans (World.alloc_heap_new w _)⟩
    have := World.alloc_heap_new (w.alloc (.deferred (some []))) (.loop (rc .ready none))
    rwa [World.size_alloc] at this
  have hgr : w.grownBy W1 none := by
    rw [← hW1]
    exact (World.grownBy_alloc w _ none).trans (World.grownBy_alloc _ _ none)
  have hI1 : I 0 W1 := hI 0 w W1 p h0 (grown_any hgr p) (.inl rfl)
  have hb1 : Below w0.heap.size w0 W1 := hb0.grown hgr hb0.size (fun k e => by cases e)
  refine ⟨B + 1, [{ target := .collected B, args := #[] }], W1, { target := .fn (.func gf) lb, args := #[.func (.yield (B + 1)) #[] #[]] }, W1, gf, #[.func (.yield (B + 1)) #[] #[]] ++ lb, W1, ?_, ?_, ?_, ?_, fun _ => h1, ?_⟩
  · rw [← hW1, ← hB]
    have := run_enterLoop_outer (P := P) (w := w) fn a.tmps #[t0] assign body
    rw [this]
    simp only [rc, hB]
  · simp only [resolve, hg]
    simp [go_sem]
  · intro f' hf'
    simp [Target.leads] at hf'
    subst hf'
    exact hFg
  · simp [invoke, go_sem, eg]
  · have hyields := hseq (B + 1) (fun k W => I k W ∧ Laid2 B (rc .ready none) W ∧ B ≤ W.heap.size) (fun k W => ∃ c, Ix c k W ∧ Laid2 B (rc .done (some c)) W) W1 hb1
      (fun k W W' h hg' => ⟨hI k W W' p h.1 hg' (.inl rfl), h.2.1.grown hp hg', Nat.le_trans h.2.2 hg'.size⟩)
      (fun k W W' h hg' => by
        obtain ⟨c, hc, hl⟩ := h
        exact ⟨c, hIx c k W W' p hc hg' (.inl rfl), hl.grown hp hg'⟩)
      ?round ⟨hI1, hlaid, by have := hgr.size; omega⟩
    case round =>
      rintro k hk W ⟨hi, hl, hsz⟩
      have hy : (Instr.yield (B + 1) #[enc xs[k]]).run P W = .ok (.round (B + 1) fn (a.tmps.setIfInBounds t0 (enc xs[k])) assign body) W := by
        have := run_yield (P := P) (args := #[enc xs[k]]) hl.rcd rfl
        simpa [rc] using this
      refine ⟨fn, _, assign, body, hy, roundIn_of_wpIn hfn ?_⟩
      refine hassign _ _ W _ ?_
      refine ⟨_, run_beginRound hl.rcd rfl, ?_⟩
      obtain ⟨W2, hW2⟩ : ∃ W2, W.putObj (B + 1) (.loop (rc .busy none)) = W2 := ⟨_, rfl⟩
      have hl2 : Laid2 B (rc .busy none) W2 := by rw [← hW2]; exact hl.put
      have hp2 : W2.heap[p]? = W.heap[p]? := by rw [← hW2]; exact World.putObj_heap_other (by omega)
      have hi2 : I k W2 := by rw [← hW2]; exact hI.put hl hi _
      have hz2 : B ≤ W2.heap.size := by rw [← hW2]; simpa using hsz
      show body.wpIn _ _ P _ _ (W.putObj (B + 1) (.loop (rc .busy none)))
      rw [hW2]
      refine wpIn_mono (hbody _ k hk W2 hz2 hi2) ?_
      have fin : ∀ (jump : Option Code) (W3 : World), KeepsFrom B W2 W3 → Laid2 B (rc .busy none) W3 ∧
          (Instr.endRound (B + 1) jump).run P W3 = .ok (.bool jump.isNone) (W3.putObj (B + 1) (.loop (rc (if jump.isNone then .ready else .done) jump))) := fun jump W3 hk3 => by
        have hl3 := hl2.keeps hk3
        exact ⟨hl3, run_endRound (P := P) jump hl3.rcd⟩
      rintro e a3 W3 hleft
      cases e with
      | normal =>
        obtain ⟨hk3, hp3, hi3⟩ := hleft
        obtain ⟨hl3, hr⟩ := fin none W3 hk3
        refine ⟨_, _, hr, .inl ⟨rfl, ⟨hI.put hl3 hi3 _, hl3.put, ?_⟩, ?_⟩⟩
        · have := hk3.size
          simp
          omega
        · rw [World.putObj_heap_other (by omega), hp3, hp2]
      | ret =>
        obtain ⟨hk3, hi3⟩ := hleft
        obtain ⟨hl3, hr⟩ := fin (some .ret) W3 hk3
        exact ⟨_, _, hr, .inr ⟨rfl, .ret, (hIx _).put hl3 hi3 _, hl3.put⟩⟩
      | exit id =>
        obtain ⟨hk3, hi3⟩ := hleft
        obtain ⟨hl3, hr⟩ := fin (some (.exit id)) W3 hk3
        exact ⟨_, _, hr, .inr ⟨rfl, .exit id, (hIx _).put hl3 hi3 _, hl3.put⟩⟩
      | goto t =>
        obtain ⟨hk3, hi3⟩ := hleft
        obtain ⟨hl3, hr⟩ := fin (some (.goto t)) W3 hk3
        exact ⟨_, _, hr, .inr ⟨rfl, .goto t, (hIx _).put hl3 hi3 _, hl3.put⟩⟩
      | panic ch => exact hleft.elim
      | outgrown => exact hleft.elim
    · refine hyields.mono ?_
      rintro e W2 ⟨⟨v, rfl⟩, (⟨hi, hl, -⟩ | ⟨k, hk, c, hi, hl⟩)⟩
      · exact ⟨none, _, run_endLoop (P := P) hl.rcd (by simp [rc]), hdone B _ (Nat.le_refl _) (hI.put hl hi _) ((World.putObj_heap_other (by omega)).trans hl.dfr)⟩
      · exact ⟨some c, _, run_endLoop (P := P) hl.rcd (by simp [rc]), hstop B c k _ (Nat.le_refl _) hk ((hIx c).put hl hi _) ((World.putObj_heap_other (by omega)).trans hl.dfr)⟩
end Go.Proofs.YtmglcdmccikinaaDoor
