/- NewDesk, in both packages. -/
import Derived.Test.YtimggihbldeleaaNX
import Derived.Test.YtimggihbldeleaaTSiteM
import Derived.Test.YtimggihbldeleaaTSpeeds
import Derived.Test.YtimggihbldeleaaTIntS
namespace Go.Proofs.Ytimggihbldeleaa
open Go.RowKit
def adaN : ByteArray := ⟨#[97, 100, 97]⟩
def boN : ByteArray := ⟨#[98, 111]⟩
def adaF : CraneF := ⟨adaN, 0, 0, 400, 300, 100⟩
def boF : CraneF := ⟨boN, 400, 0, 430, 250, 80⟩
def newSite : SiteL := [(adaF, [⟨100, 6000⟩, ⟨300, 2000⟩]), (boF, [⟨150, 4000⟩, ⟨250, 2500⟩])]
def newDirs : List Int := [12, 0]
/-- A block that holds a list is a slice of the call's own. -/
theorem own_blk {α : Type} {n : Nat} {c : α → List Value} {lo q : Nat} {e : TypeId} {w : World} {l : List α} (hc : ∀ x, (c x).length = n) (h : w.heap[q]? = some (.cells (l.flatMap c).toArray e (0, 0))) (hlo : lo ≤ q) (hl : l.length ≤ maxLen) : Own n c lo e w (.slice (some ⟨q, 0, none⟩) l.length l.length) l :=
  ⟨flat_len hc l, .inr ⟨q, l.length, _, rfl, hlo, h, Nat.le_refl _, hl, by rw [List.size_toArray, flat_len hc l], by
    rw [List.toList_toArray, ← flat_len hc l, List.take_length]⟩⟩
/-- Blocks laid one after the other. -/
def allocs : World → List Obj → World
  | w, [] => w
  | w, o :: r => allocs (w.alloc o) r
theorem allocs_below : ∀ (os : List Obj) (w : World), Below w.heap.size w (allocs w os)
  | [], w => Below.refl _ _
  | o :: r, w => ((Below.refl _ w).alloc (Nat.le_refl _) o).trans ((allocs_below r (w.alloc o)).mono (by simp))
theorem allocs_size : ∀ (os : List Obj) (w : World), (allocs w os).heap.size = w.heap.size + os.length
  | [], _ => rfl
  | o :: r, w => by
    have := allocs_size r (w.alloc o)
    unfold allocs
    rw [this, List.length_cons]
    simp
    omega
theorem allocs_get : ∀ (os : List Obj) (w : World) (i : Nat) (o : Obj), os[i]? = some o → (allocs w os).heap[w.heap.size + i]? = some o
  | [], _, _, _, h => by simp at h
  | x :: r, w, 0, o, h => by
    cases h
    have hb := allocs_below r (w.alloc x)
    exact (hb.block _ (by simp)).trans Array.getElem?_push_size
  | x :: r, w, i + 1, o, h => by
    have := allocs_get r (w.alloc x) i o (by simpa using h)
    rw [show (w.alloc x).heap.size = w.heap.size + 1 by simp, show w.heap.size + 1 + i = w.heap.size + (i + 1) by omega] at this
    exact this
/-- What a new desk is, and where its parts lie. -/
def DeskRes (w : World) (e : Ending) (w' : World) : Prop :=
  ∃ (s : SV) (rs : List CraneR) (a b c : Nat), e = .returned (.agg #[s.v, .slice none 0 0, .int .i64 3, .int .i64 8, .int .i64 6, .int .i64 30, .slice (some ⟨c, 0, none⟩) 2 2]) ∧ CraneW a b w' s.v rs newSite ∧
    Slw 1 intCells c (c + 1) w' (.slice (some ⟨c, 0, none⟩) 2 2) newDirs ∧ (c + 1 ≤ a ∨ b ≤ c) ∧ w.heap.size ≤ a ∧ w.heap.size ≤ c ∧ b ≤ w'.heap.size ∧ c + 1 ≤ w'.heap.size ∧ Below w.heap.size w w'
set_option maxRecDepth 100000 in
theorem new_site {w : World} {p q r : Nat} (h1 : w.heap[p]? = some (.cells #[.int .i64 100, .int .i64 6000, .int .i64 300, .int .i64 2000] 46 (0, 0))) (h2 : w.heap[q]? = some (.cells #[.int .i64 150, .int .i64 4000, .int .i64 250, .int .i64 2500] 46 (0, 0)))
    (h3 : w.heap[r]? = some (.cells #[.string adaN, .int .i64 0, .int .i64 0, .int .i64 400, .int .i64 300, .int .i64 100, .slice (some ⟨p, 0, none⟩) 2 2, .string boN, .int .i64 400, .int .i64 0, .int .i64 430, .int .i64 250, .int .i64 80, .slice (some ⟨q, 0, none⟩) 2 2] 51 (0, 0))) (hpq : p < q) (hqr : q < r) :
    CraneW p w.heap.size w (.slice (some ⟨r, 0, none⟩) 2 2) [⟨adaF, ⟨some ⟨p, 0, none⟩, 2, 2⟩⟩, ⟨boF, ⟨some ⟨q, 0, none⟩, 2, 2⟩⟩] newSite := by
  have o1 := own_blk (lo := p) (c := Chs.cells) (n := 2) (l := [⟨100, 6000⟩, ⟨300, 2000⟩]) (fun _ => rfl) h1 (Nat.le_refl _) (by simp [maxLen])
  have o2 := own_blk (lo := p) (c := Chs.cells) (n := 2) (l := [⟨150, 4000⟩, ⟨250, 2500⟩]) (fun _ => rfl) h2 (by omega) (by simp [maxLen])
  have o3 := own_blk (lo := p) (c := CraneR.cells) (n := 7) (l := [⟨adaF, ⟨some ⟨p, 0, none⟩, 2, 2⟩⟩, ⟨boF, ⟨some ⟨q, 0, none⟩, 2, 2⟩⟩]) CraneR.len h3 (by omega) (by simp [maxLen])
  refine OwnN.w (n := 7) (c := CraneR.cells) (fl := CraneR.f) (sv := CraneR.s) (m := 2) (d := Chs.cells) (L := newSite) (te := 51) (e := 46) CraneR.len (fun _ => rfl) (by decide) ⟨o3, rfl, ?_, ?_⟩
  · intro i r x hr hx
    match i, hr, hx with
    | 0, hr, hx => cases hr; cases hx; exact ⟨rfl, o1⟩
    | 1, hr, hx => cases hr; cases hx; exact ⟨rfl, o2⟩
    | i + 2, hr, _ => simp at hr
  · intro i j r s g hr hs hij hg hg'
    match i, j, hr, hs with
    | 0, 0, _, _ => exact hij rfl
    | 1, 1, _, _ => exact hij rfl
    | 0, 1, hr, hs => cases hr; cases hs; cases hg; cases hg'; omega
    | 1, 0, hr, hs => cases hr; cases hs; cases hg; cases hg'; omega
    | i + 2, _, hr, _ => simp at hr
    | _, j + 2, _, hs => simp at hs
set_option maxRecDepth 100000 in
set_option maxHeartbeats 4000000 in
theorem impl_NewDesk (w : World) : Calls Try.prog 6 #[] w (DeskRes w) := by
  have e0 := allocs_get [(.cells #[.slice (some ⟨w.heap.size + 1 + 1 + 1, 0, none⟩) 2 2, .slice none 0 0, .int .i64 3, .int .i64 8, .int .i64 6, .int .i64 30, .slice (some ⟨w.heap.size + 1 + 1 + 1 + 1, 0, none⟩) 2 2] 30 (0, 0)), (.cells #[.int .i64 100, .int .i64 6000, .int .i64 300, .int .i64 2000] 46 (0, 0)), (.cells #[.int .i64 150, .int .i64 4000, .int .i64 250, .int .i64 2500] 46 (0, 0)), (.cells #[.string adaN, .int .i64 0, .int .i64 0, .int .i64 400, .int .i64 300, .int .i64 100, .slice (some ⟨w.heap.size + 1, 0, none⟩) 2 2, .string boN, .int .i64 400, .int .i64 0, .int .i64 430, .int .i64 250, .int .i64 80, .slice (some ⟨w.heap.size + 1 + 1, 0, none⟩) 2 2] 51 (0, 0)), (.cells #[.int .i64 12, .int .i64 0] 2 (0, 0))] w 4 _ rfl
  have hB := allocs_below [(.cells #[.slice (some ⟨w.heap.size + 1 + 1 + 1, 0, none⟩) 2 2, .slice none 0 0, .int .i64 3, .int .i64 8, .int .i64 6, .int .i64 30, .slice (some ⟨w.heap.size + 1 + 1 + 1 + 1, 0, none⟩) 2 2] 30 (0, 0)), (.cells #[.int .i64 100, .int .i64 6000, .int .i64 300, .int .i64 2000] 46 (0, 0)), (.cells #[.int .i64 150, .int .i64 4000, .int .i64 250, .int .i64 2500] 46 (0, 0)), (.cells #[.string adaN, .int .i64 0, .int .i64 0, .int .i64 400, .int .i64 300, .int .i64 100, .slice (some ⟨w.heap.size + 1, 0, none⟩) 2 2, .string boN, .int .i64 400, .int .i64 0, .int .i64 430, .int .i64 250, .int .i64 80, .slice (some ⟨w.heap.size + 1 + 1, 0, none⟩) 2 2] 51 (0, 0)), (.cells #[.int .i64 12, .int .i64 0] 2 (0, 0))] w
  have hz := allocs_size [(.cells #[.slice (some ⟨w.heap.size + 1 + 1 + 1, 0, none⟩) 2 2, .slice none 0 0, .int .i64 3, .int .i64 8, .int .i64 6, .int .i64 30, .slice (some ⟨w.heap.size + 1 + 1 + 1 + 1, 0, none⟩) 2 2] 30 (0, 0)), (.cells #[.int .i64 100, .int .i64 6000, .int .i64 300, .int .i64 2000] 46 (0, 0)), (.cells #[.int .i64 150, .int .i64 4000, .int .i64 250, .int .i64 2500] 46 (0, 0)), (.cells #[.string adaN, .int .i64 0, .int .i64 0, .int .i64 400, .int .i64 300, .int .i64 100, .slice (some ⟨w.heap.size + 1, 0, none⟩) 2 2, .string boN, .int .i64 400, .int .i64 0, .int .i64 430, .int .i64 250, .int .i64 80, .slice (some ⟨w.heap.size + 1 + 1, 0, none⟩) 2 2] 51 (0, 0)), (.cells #[.int .i64 12, .int .i64 0] 2 (0, 0))] w
  have d1 := allocs_get [(.cells #[.slice (some ⟨w.heap.size + 1 + 1 + 1, 0, none⟩) 2 2, .slice none 0 0, .int .i64 3, .int .i64 8, .int .i64 6, .int .i64 30, .slice (some ⟨w.heap.size + 1 + 1 + 1 + 1, 0, none⟩) 2 2] 30 (0, 0)), (.cells #[.int .i64 100, .int .i64 6000, .int .i64 300, .int .i64 2000] 46 (0, 0)), (.cells #[.int .i64 150, .int .i64 4000, .int .i64 250, .int .i64 2500] 46 (0, 0)), (.cells #[.string adaN, .int .i64 0, .int .i64 0, .int .i64 400, .int .i64 300, .int .i64 100, .slice (some ⟨w.heap.size + 1, 0, none⟩) 2 2, .string boN, .int .i64 400, .int .i64 0, .int .i64 430, .int .i64 250, .int .i64 80, .slice (some ⟨w.heap.size + 1 + 1, 0, none⟩) 2 2] 51 (0, 0))] w 1 _ rfl
  have d2 := allocs_get [(.cells #[.slice (some ⟨w.heap.size + 1 + 1 + 1, 0, none⟩) 2 2, .slice none 0 0, .int .i64 3, .int .i64 8, .int .i64 6, .int .i64 30, .slice (some ⟨w.heap.size + 1 + 1 + 1 + 1, 0, none⟩) 2 2] 30 (0, 0)), (.cells #[.int .i64 100, .int .i64 6000, .int .i64 300, .int .i64 2000] 46 (0, 0)), (.cells #[.int .i64 150, .int .i64 4000, .int .i64 250, .int .i64 2500] 46 (0, 0)), (.cells #[.string adaN, .int .i64 0, .int .i64 0, .int .i64 400, .int .i64 300, .int .i64 100, .slice (some ⟨w.heap.size + 1, 0, none⟩) 2 2, .string boN, .int .i64 400, .int .i64 0, .int .i64 430, .int .i64 250, .int .i64 80, .slice (some ⟨w.heap.size + 1 + 1, 0, none⟩) 2 2] 51 (0, 0))] w 2 _ rfl
  have d3 := allocs_get [(.cells #[.slice (some ⟨w.heap.size + 1 + 1 + 1, 0, none⟩) 2 2, .slice none 0 0, .int .i64 3, .int .i64 8, .int .i64 6, .int .i64 30, .slice (some ⟨w.heap.size + 1 + 1 + 1 + 1, 0, none⟩) 2 2] 30 (0, 0)), (.cells #[.int .i64 100, .int .i64 6000, .int .i64 300, .int .i64 2000] 46 (0, 0)), (.cells #[.int .i64 150, .int .i64 4000, .int .i64 250, .int .i64 2500] 46 (0, 0)), (.cells #[.string adaN, .int .i64 0, .int .i64 0, .int .i64 400, .int .i64 300, .int .i64 100, .slice (some ⟨w.heap.size + 1, 0, none⟩) 2 2, .string boN, .int .i64 400, .int .i64 0, .int .i64 430, .int .i64 250, .int .i64 80, .slice (some ⟨w.heap.size + 1 + 1, 0, none⟩) 2 2] 51 (0, 0))] w 3 _ rfl
  have hz4 := allocs_size [(.cells #[.slice (some ⟨w.heap.size + 1 + 1 + 1, 0, none⟩) 2 2, .slice none 0 0, .int .i64 3, .int .i64 8, .int .i64 6, .int .i64 30, .slice (some ⟨w.heap.size + 1 + 1 + 1 + 1, 0, none⟩) 2 2] 30 (0, 0)), (.cells #[.int .i64 100, .int .i64 6000, .int .i64 300, .int .i64 2000] 46 (0, 0)), (.cells #[.int .i64 150, .int .i64 4000, .int .i64 250, .int .i64 2500] 46 (0, 0)), (.cells #[.string adaN, .int .i64 0, .int .i64 0, .int .i64 400, .int .i64 300, .int .i64 100, .slice (some ⟨w.heap.size + 1, 0, none⟩) 2 2, .string boN, .int .i64 400, .int .i64 0, .int .i64 430, .int .i64 250, .int .i64 80, .slice (some ⟨w.heap.size + 1 + 1, 0, none⟩) 2 2] 51 (0, 0))] w
  have hS := new_site d1 d2 d3 (by omega) (by omega)
  have hlast : Below (allocs w [(.cells #[.slice (some ⟨w.heap.size + 1 + 1 + 1, 0, none⟩) 2 2, .slice none 0 0, .int .i64 3, .int .i64 8, .int .i64 6, .int .i64 30, .slice (some ⟨w.heap.size + 1 + 1 + 1 + 1, 0, none⟩) 2 2] 30 (0, 0)), (.cells #[.int .i64 100, .int .i64 6000, .int .i64 300, .int .i64 2000] 46 (0, 0)), (.cells #[.int .i64 150, .int .i64 4000, .int .i64 250, .int .i64 2500] 46 (0, 0)), (.cells #[.string adaN, .int .i64 0, .int .i64 0, .int .i64 400, .int .i64 300, .int .i64 100, .slice (some ⟨w.heap.size + 1, 0, none⟩) 2 2, .string boN, .int .i64 400, .int .i64 0, .int .i64 430, .int .i64 250, .int .i64 80, .slice (some ⟨w.heap.size + 1 + 1, 0, none⟩) 2 2] 51 (0, 0))]).heap.size (allocs w [(.cells #[.slice (some ⟨w.heap.size + 1 + 1 + 1, 0, none⟩) 2 2, .slice none 0 0, .int .i64 3, .int .i64 8, .int .i64 6, .int .i64 30, .slice (some ⟨w.heap.size + 1 + 1 + 1 + 1, 0, none⟩) 2 2] 30 (0, 0)), (.cells #[.int .i64 100, .int .i64 6000, .int .i64 300, .int .i64 2000] 46 (0, 0)), (.cells #[.int .i64 150, .int .i64 4000, .int .i64 250, .int .i64 2500] 46 (0, 0)), (.cells #[.string adaN, .int .i64 0, .int .i64 0, .int .i64 400, .int .i64 300, .int .i64 100, .slice (some ⟨w.heap.size + 1, 0, none⟩) 2 2, .string boN, .int .i64 400, .int .i64 0, .int .i64 430, .int .i64 250, .int .i64 80, .slice (some ⟨w.heap.size + 1 + 1, 0, none⟩) 2 2] 51 (0, 0))]) (allocs w [(.cells #[.slice (some ⟨w.heap.size + 1 + 1 + 1, 0, none⟩) 2 2, .slice none 0 0, .int .i64 3, .int .i64 8, .int .i64 6, .int .i64 30, .slice (some ⟨w.heap.size + 1 + 1 + 1 + 1, 0, none⟩) 2 2] 30 (0, 0)), (.cells #[.int .i64 100, .int .i64 6000, .int .i64 300, .int .i64 2000] 46 (0, 0)), (.cells #[.int .i64 150, .int .i64 4000, .int .i64 250, .int .i64 2500] 46 (0, 0)), (.cells #[.string adaN, .int .i64 0, .int .i64 0, .int .i64 400, .int .i64 300, .int .i64 100, .slice (some ⟨w.heap.size + 1, 0, none⟩) 2 2, .string boN, .int .i64 400, .int .i64 0, .int .i64 430, .int .i64 250, .int .i64 80, .slice (some ⟨w.heap.size + 1 + 1, 0, none⟩) 2 2] 51 (0, 0)), (.cells #[.int .i64 12, .int .i64 0] 2 (0, 0))]) := (Below.refl _ _).alloc (Nat.le_refl _) (.cells #[.int .i64 12, .int .i64 0] 2 (0, 0))
  have hS' := hS.ext (Nat.le_refl _) hlast
  have hD := ((own_blk (lo := w.heap.size + 4) (c := intCells) (n := 1) (l := newDirs) intCells_len e0 (Nat.le_refl _) (by simp [newDirs, maxLen])).slw intCells_len)
  rw [hz] at hD
  rw [hz4] at hS'
  have H0 : Hid (CraneW (w.heap.size + 1) (w.heap.size + 4) _ _ _ newSite ∧ Slw 1 intCells (w.heap.size + 4) (w.heap.size + 4 + 1) _ (.slice (some ⟨w.heap.size + 4, 0, none⟩) 2 2) newDirs ∧ Below w.heap.size w _ ∧ _) := Lib.hid ⟨hS', hD, hB, hz⟩
  clear e0 hB hz d1 d2 d3 hz4 hS hlast hS' hD
  go_enter Try.func6, Try.ntmps6
  go_wp2
  obtain ⟨hS, hD, hB, hz⟩ := H0.out
  simp only [List.length_cons, List.length_nil] at hz
  exact bodyPost_ret (v := .agg #[.slice (some ⟨w.heap.size + 1 + 1 + 1, 0, none⟩) 2 2, .slice none 0 0, .int .i64 3, .int .i64 8, .int .i64 6, .int .i64 30, .slice (some ⟨w.heap.size + 1 + 1 + 1 + 1, 0, none⟩) 2 2]) (by simp [results, Try.results6, go_sem]) rfl ⟨⟨_, 2, 2⟩, _, _, _, w.heap.size + 4, rfl, hS, hD, .inr (Nat.le_refl _), by omega, by omega, by first | (simp; done) | (simp; omega), by first | (simp; done) | (simp; omega), hB⟩
set_option maxRecDepth 100000 in
set_option maxHeartbeats 4000000 in
theorem spec_New (w : World) : Calls Try.prog 14 #[] w (DeskRes w) := by
  have e0 := allocs_get [(.cells #[.slice (some ⟨w.heap.size + 1 + 1 + 1 + 1 + 1, 0, none⟩) 2 2, .slice none 0 0, .int .i64 3, .int .i64 8, .int .i64 6, .int .i64 30, .slice (some ⟨w.heap.size + 1, 0, none⟩) 2 2] 30 (0, 0)), (.cells #[.int .i64 12, .int .i64 0] 2 (0, 0)), (.cells #[.slice (some ⟨w.heap.size + 1 + 1 + 1 + 1 + 1, 0, none⟩) 2 2, .slice none 0 0, .int .i64 3, .int .i64 8, .int .i64 6, .int .i64 30, .slice (some ⟨w.heap.size + 1, 0, none⟩) 2 2] 30 (0, 0)), (.cells #[.int .i64 100, .int .i64 6000, .int .i64 300, .int .i64 2000] 46 (0, 0)), (.cells #[.int .i64 150, .int .i64 4000, .int .i64 250, .int .i64 2500] 46 (0, 0)), (.cells #[.string adaN, .int .i64 0, .int .i64 0, .int .i64 400, .int .i64 300, .int .i64 100, .slice (some ⟨w.heap.size + 1 + 1 + 1, 0, none⟩) 2 2, .string boN, .int .i64 400, .int .i64 0, .int .i64 430, .int .i64 250, .int .i64 80, .slice (some ⟨w.heap.size + 1 + 1 + 1 + 1, 0, none⟩) 2 2] 51 (0, 0))] w 1 _ rfl
  have hB := allocs_below [(.cells #[.slice (some ⟨w.heap.size + 1 + 1 + 1 + 1 + 1, 0, none⟩) 2 2, .slice none 0 0, .int .i64 3, .int .i64 8, .int .i64 6, .int .i64 30, .slice (some ⟨w.heap.size + 1, 0, none⟩) 2 2] 30 (0, 0)), (.cells #[.int .i64 12, .int .i64 0] 2 (0, 0)), (.cells #[.slice (some ⟨w.heap.size + 1 + 1 + 1 + 1 + 1, 0, none⟩) 2 2, .slice none 0 0, .int .i64 3, .int .i64 8, .int .i64 6, .int .i64 30, .slice (some ⟨w.heap.size + 1, 0, none⟩) 2 2] 30 (0, 0)), (.cells #[.int .i64 100, .int .i64 6000, .int .i64 300, .int .i64 2000] 46 (0, 0)), (.cells #[.int .i64 150, .int .i64 4000, .int .i64 250, .int .i64 2500] 46 (0, 0)), (.cells #[.string adaN, .int .i64 0, .int .i64 0, .int .i64 400, .int .i64 300, .int .i64 100, .slice (some ⟨w.heap.size + 1 + 1 + 1, 0, none⟩) 2 2, .string boN, .int .i64 400, .int .i64 0, .int .i64 430, .int .i64 250, .int .i64 80, .slice (some ⟨w.heap.size + 1 + 1 + 1 + 1, 0, none⟩) 2 2] 51 (0, 0))] w
  have hz := allocs_size [(.cells #[.slice (some ⟨w.heap.size + 1 + 1 + 1 + 1 + 1, 0, none⟩) 2 2, .slice none 0 0, .int .i64 3, .int .i64 8, .int .i64 6, .int .i64 30, .slice (some ⟨w.heap.size + 1, 0, none⟩) 2 2] 30 (0, 0)), (.cells #[.int .i64 12, .int .i64 0] 2 (0, 0)), (.cells #[.slice (some ⟨w.heap.size + 1 + 1 + 1 + 1 + 1, 0, none⟩) 2 2, .slice none 0 0, .int .i64 3, .int .i64 8, .int .i64 6, .int .i64 30, .slice (some ⟨w.heap.size + 1, 0, none⟩) 2 2] 30 (0, 0)), (.cells #[.int .i64 100, .int .i64 6000, .int .i64 300, .int .i64 2000] 46 (0, 0)), (.cells #[.int .i64 150, .int .i64 4000, .int .i64 250, .int .i64 2500] 46 (0, 0)), (.cells #[.string adaN, .int .i64 0, .int .i64 0, .int .i64 400, .int .i64 300, .int .i64 100, .slice (some ⟨w.heap.size + 1 + 1 + 1, 0, none⟩) 2 2, .string boN, .int .i64 400, .int .i64 0, .int .i64 430, .int .i64 250, .int .i64 80, .slice (some ⟨w.heap.size + 1 + 1 + 1 + 1, 0, none⟩) 2 2] 51 (0, 0))] w
  have d1 := allocs_get [(.cells #[.slice (some ⟨w.heap.size + 1 + 1 + 1 + 1 + 1, 0, none⟩) 2 2, .slice none 0 0, .int .i64 3, .int .i64 8, .int .i64 6, .int .i64 30, .slice (some ⟨w.heap.size + 1, 0, none⟩) 2 2] 30 (0, 0)), (.cells #[.int .i64 12, .int .i64 0] 2 (0, 0)), (.cells #[.slice (some ⟨w.heap.size + 1 + 1 + 1 + 1 + 1, 0, none⟩) 2 2, .slice none 0 0, .int .i64 3, .int .i64 8, .int .i64 6, .int .i64 30, .slice (some ⟨w.heap.size + 1, 0, none⟩) 2 2] 30 (0, 0)), (.cells #[.int .i64 100, .int .i64 6000, .int .i64 300, .int .i64 2000] 46 (0, 0)), (.cells #[.int .i64 150, .int .i64 4000, .int .i64 250, .int .i64 2500] 46 (0, 0)), (.cells #[.string adaN, .int .i64 0, .int .i64 0, .int .i64 400, .int .i64 300, .int .i64 100, .slice (some ⟨w.heap.size + 1 + 1 + 1, 0, none⟩) 2 2, .string boN, .int .i64 400, .int .i64 0, .int .i64 430, .int .i64 250, .int .i64 80, .slice (some ⟨w.heap.size + 1 + 1 + 1 + 1, 0, none⟩) 2 2] 51 (0, 0))] w 3 _ rfl
  have d2 := allocs_get [(.cells #[.slice (some ⟨w.heap.size + 1 + 1 + 1 + 1 + 1, 0, none⟩) 2 2, .slice none 0 0, .int .i64 3, .int .i64 8, .int .i64 6, .int .i64 30, .slice (some ⟨w.heap.size + 1, 0, none⟩) 2 2] 30 (0, 0)), (.cells #[.int .i64 12, .int .i64 0] 2 (0, 0)), (.cells #[.slice (some ⟨w.heap.size + 1 + 1 + 1 + 1 + 1, 0, none⟩) 2 2, .slice none 0 0, .int .i64 3, .int .i64 8, .int .i64 6, .int .i64 30, .slice (some ⟨w.heap.size + 1, 0, none⟩) 2 2] 30 (0, 0)), (.cells #[.int .i64 100, .int .i64 6000, .int .i64 300, .int .i64 2000] 46 (0, 0)), (.cells #[.int .i64 150, .int .i64 4000, .int .i64 250, .int .i64 2500] 46 (0, 0)), (.cells #[.string adaN, .int .i64 0, .int .i64 0, .int .i64 400, .int .i64 300, .int .i64 100, .slice (some ⟨w.heap.size + 1 + 1 + 1, 0, none⟩) 2 2, .string boN, .int .i64 400, .int .i64 0, .int .i64 430, .int .i64 250, .int .i64 80, .slice (some ⟨w.heap.size + 1 + 1 + 1 + 1, 0, none⟩) 2 2] 51 (0, 0))] w 4 _ rfl
  have d3 := allocs_get [(.cells #[.slice (some ⟨w.heap.size + 1 + 1 + 1 + 1 + 1, 0, none⟩) 2 2, .slice none 0 0, .int .i64 3, .int .i64 8, .int .i64 6, .int .i64 30, .slice (some ⟨w.heap.size + 1, 0, none⟩) 2 2] 30 (0, 0)), (.cells #[.int .i64 12, .int .i64 0] 2 (0, 0)), (.cells #[.slice (some ⟨w.heap.size + 1 + 1 + 1 + 1 + 1, 0, none⟩) 2 2, .slice none 0 0, .int .i64 3, .int .i64 8, .int .i64 6, .int .i64 30, .slice (some ⟨w.heap.size + 1, 0, none⟩) 2 2] 30 (0, 0)), (.cells #[.int .i64 100, .int .i64 6000, .int .i64 300, .int .i64 2000] 46 (0, 0)), (.cells #[.int .i64 150, .int .i64 4000, .int .i64 250, .int .i64 2500] 46 (0, 0)), (.cells #[.string adaN, .int .i64 0, .int .i64 0, .int .i64 400, .int .i64 300, .int .i64 100, .slice (some ⟨w.heap.size + 1 + 1 + 1, 0, none⟩) 2 2, .string boN, .int .i64 400, .int .i64 0, .int .i64 430, .int .i64 250, .int .i64 80, .slice (some ⟨w.heap.size + 1 + 1 + 1 + 1, 0, none⟩) 2 2] 51 (0, 0))] w 5 _ rfl
  have hS := new_site d1 d2 d3 (by omega) (by omega)
  have hD := ((own_blk (lo := w.heap.size + 1) (c := intCells) (n := 1) (l := newDirs) intCells_len e0 (Nat.le_refl _) (by simp [newDirs, maxLen])).slw intCells_len)
  obtain ⟨gD, hg1, hg2, hg3, hD⟩ := hD.narrow (by simp [newDirs])
  cases hg1
  have H0 : Hid (CraneW (w.heap.size + 3) _ _ _ _ newSite ∧ Slw 1 intCells (w.heap.size + 1) (w.heap.size + 1 + 1) _ (.slice (some ⟨w.heap.size + 1, 0, none⟩) 2 2) newDirs ∧ Below w.heap.size w _ ∧ _) := Lib.hid ⟨hS, hD, hB, hz⟩
  clear e0 hB hz d1 d2 d3 hS hD hg2 hg3
  go_enter Try.func14, Try.ntmps14
  go_wp2
  obtain ⟨hS, hD, hB, hz⟩ := H0.out
  simp only [List.length_cons, List.length_nil] at hz
  exact bodyPost_ret (v := .agg #[.slice (some ⟨w.heap.size + 1 + 1 + 1 + 1 + 1, 0, none⟩) 2 2, .slice none 0 0, .int .i64 3, .int .i64 8, .int .i64 6, .int .i64 30, .slice (some ⟨w.heap.size + 1, 0, none⟩) 2 2]) (by simp [results, Try.results14, go_sem]) rfl ⟨⟨_, 2, 2⟩, _, _, _, w.heap.size + 1, rfl, hS, hD, .inl (by omega), by omega, by omega, Nat.le_refl _, by first | (simp; done) | (simp; omega), hB⟩
theorem spec_NewDesk (w : World) : Calls Try.prog 5 #[] w (DeskRes w) := by
  have hN := fun w' => spec_New w'
  have HN := Lib.hid hN
  clear hN
  have hb : Below w.heap.size w (w.alloc (.cells #[.slice none 0 0, .slice none 0 0, .int .i64 0, .int .i64 0, .int .i64 0, .int .i64 0, .slice none 0 0] 30 (0, 0))) := (Below.refl _ _).alloc (Nat.le_refl _) _
  have hsz : (w.alloc (.cells #[.slice none 0 0, .slice none 0 0, .int .i64 0, .int .i64 0, .int .i64 0, .int .i64 0, .slice none 0 0] 30 (0, 0))).heap.size = w.heap.size + 1 := by simp
  go_enter Try.func5, Try.ntmps5
  go_wp2_with fail
  refine (HN.out _).mono ?_
  rintro e w1 ⟨⟨sa, sl, sc⟩, rs, a, b, c, rfl, hS, hD, hap, ha, hc, hb1, hc1, hB⟩
  simp only [SV.v]
  have e0 := blkN_below hB (blkN_new w (.cells #[.slice none 0 0, .slice none 0 0, .int .i64 0, .int .i64 0, .int .i64 0, .int .i64 0, .slice none 0 0] 30 (0, 0)))
  have f0 : ∀ j, w1.frozen? ⟨w.heap.size, j, none⟩ = false := fun j => Lib.frozen_of_heap e0 j
  have k0 : w1.cell? ⟨w.heap.size, 0, none⟩ = some (.slice none 0 0) := by rw [Lib.cell_of_heap e0]; rfl
  have k1 : w1.cell? ⟨w.heap.size, 1, none⟩ = some (.slice none 0 0) := by rw [Lib.cell_of_heap e0]; rfl
  have k2 : w1.cell? ⟨w.heap.size, 2, none⟩ = some (.int .i64 0) := by rw [Lib.cell_of_heap e0]; rfl
  have k3 : w1.cell? ⟨w.heap.size, 3, none⟩ = some (.int .i64 0) := by rw [Lib.cell_of_heap e0]; rfl
  have k4 : w1.cell? ⟨w.heap.size, 4, none⟩ = some (.int .i64 0) := by rw [Lib.cell_of_heap e0]; rfl
  have k5 : w1.cell? ⟨w.heap.size, 5, none⟩ = some (.int .i64 0) := by rw [Lib.cell_of_heap e0]; rfl
  have k6 : w1.cell? ⟨w.heap.size, 6, none⟩ = some (.slice none 0 0) := by rw [Lib.cell_of_heap e0]; rfl
  have HS := Lib.hid hS
  have HD := Lib.hid hD
  have HB := Lib.hid (hb.trans (hB.mono hb.size))
  have HE := Lib.hid e0
  clear hS hD hB e0 hb
  go_wp2
  obtain ⟨WE, hWE⟩ : ∃ WE, (((((((w1.setCell ⟨w.heap.size, 0, none⟩ (.slice sa sl sc)).setCell ⟨w.heap.size, 1, none⟩ (.slice none 0 0)).setCell ⟨w.heap.size, 2, none⟩ (.int .i64 3)).setCell ⟨w.heap.size, 3, none⟩ (.int .i64 8)).setCell ⟨w.heap.size, 4, none⟩ (.int .i64 6)).setCell ⟨w.heap.size, 5, none⟩ (.int .i64 30)).setCell ⟨w.heap.size, 6, none⟩ (.slice (some ⟨c, 0, none⟩) 2 2)) = WE := ⟨_, rfl⟩
  have hM : Mod w.heap.size (w.heap.size + 1) w1 WE := by rw [← hWE]; exact ((((((((Mod.refl w.heap.size (w.heap.size + 1) w1).setCell (p := ⟨w.heap.size, 0, none⟩) (Nat.le_refl _) (Nat.lt_succ_self _) (.slice sa sl sc)).setCell (p := ⟨w.heap.size, 1, none⟩) (Nat.le_refl _) (Nat.lt_succ_self _) (.slice none 0 0)).setCell (p := ⟨w.heap.size, 2, none⟩) (Nat.le_refl _) (Nat.lt_succ_self _) (.int .i64 3)).setCell (p := ⟨w.heap.size, 3, none⟩) (Nat.le_refl _) (Nat.lt_succ_self _) (.int .i64 8)).setCell (p := ⟨w.heap.size, 4, none⟩) (Nat.le_refl _) (Nat.lt_succ_self _) (.int .i64 6)).setCell (p := ⟨w.heap.size, 5, none⟩) (Nat.le_refl _) (Nat.lt_succ_self _) (.int .i64 30)).setCell (p := ⟨w.heap.size, 6, none⟩) (Nat.le_refl _) (Nat.lt_succ_self _) (.slice (some ⟨c, 0, none⟩) 2 2))
  have eE : WE.heap[w.heap.size]? = some (.cells #[.slice sa sl sc, .slice none 0 0, .int .i64 3, .int .i64 8, .int .i64 6, .int .i64 30, .slice (some ⟨c, 0, none⟩) 2 2] 30 (0, 0)) := by rw [← hWE]; simp [World.setCell, Array.getElem?_modify, HE.out]
  rw [hWE]
  have r0 : WE.cell? ⟨w.heap.size, 0, none⟩ = some (.slice sa sl sc) := by rw [Lib.cell_of_heap eE]; rfl
  have r1 : WE.cell? ⟨w.heap.size, 1, none⟩ = some (.slice none 0 0) := by rw [Lib.cell_of_heap eE]; rfl
  have r2 : WE.cell? ⟨w.heap.size, 2, none⟩ = some (.int .i64 3) := by rw [Lib.cell_of_heap eE]; rfl
  have r3 : WE.cell? ⟨w.heap.size, 3, none⟩ = some (.int .i64 8) := by rw [Lib.cell_of_heap eE]; rfl
  have r4 : WE.cell? ⟨w.heap.size, 4, none⟩ = some (.int .i64 6) := by rw [Lib.cell_of_heap eE]; rfl
  have r5 : WE.cell? ⟨w.heap.size, 5, none⟩ = some (.int .i64 30) := by rw [Lib.cell_of_heap eE]; rfl
  have r6 : WE.cell? ⟨w.heap.size, 6, none⟩ = some (.slice (some ⟨c, 0, none⟩) 2 2) := by rw [Lib.cell_of_heap eE]; rfl
  have hs := hM.size
  exact bodyPost_ret (v := .agg #[.slice sa sl sc, .slice none 0 0, .int .i64 3, .int .i64 8, .int .i64 6, .int .i64 30, .slice (some ⟨c, 0, none⟩) 2 2]) (by simp [results, Try.results5, go_sem, r0, r1, r2, r3, r4, r5, r6]) rfl ⟨⟨sa, sl, sc⟩, rs, a, b, c, rfl, HS.out.keep (hM.same hb1 (.inr (by omega))), HD.out.keep (hM.same hc1 (.inr (by omega))), hap, by omega, by omega, by omega, by omega, HB.out.trans (hM.below (Nat.le_refl _) (by have := HB.out.size; omega))⟩
end Go.Proofs.Ytimggihbldeleaa
