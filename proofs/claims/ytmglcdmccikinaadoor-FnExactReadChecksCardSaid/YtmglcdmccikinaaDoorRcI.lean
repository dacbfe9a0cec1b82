/- The text of checks read, the program. -/
import Derived.Test.YtmglcdmccikinaaDoorRcW
import Derived.Test.YtmglcdmccikinaaDoorRgI
import Derived.Test.YtmglcdmccikinaaDoorNX
import Derived.Test.YtmglcdmccikinaaDoorOwf
namespace Go.Proofs.YtmglcdmccikinaaDoor
section
open Go.RowKit Go.Shelf
attribute [local go_sem] Oper.semAt_some
theorem suffix_nl (b : ByteArray) : (⟨(Lib.trimSuffix (b ++ (⟨#[10]⟩ : ByteArray)).data.toList (⟨#[10]⟩ : ByteArray).data.toList).toArray⟩ : ByteArray) = b := by
  have h1 : (b ++ (⟨#[10]⟩ : ByteArray)).data.toList = b.data.toList ++ [10] := by rw [ByteArray.data_append, Array.toList_append]
  have h2 : (⟨#[10]⟩ : ByteArray).data.toList = [10] := rfl
  rw [h1, h2]
  have h3 : Lib.hasSuffix (b.data.toList ++ [10]) [10] = true := by
    unfold Lib.hasSuffix
    exact List.isSuffixOf_iff_suffix.2 (List.suffix_append _ _)
  unfold Lib.trimSuffix
  rw [if_pos h3]
  simp
theorem trim_size (s p : ByteArray) : (⟨(Lib.trimSuffix s.data.toList p.data.toList).toArray⟩ : ByteArray).size ≤ s.size := by
  have h : (Lib.trimSuffix s.data.toList p.data.toList).length ≤ s.data.toList.length := by
    unfold Lib.trimSuffix
    split
    · rw [List.length_take]; omega
    · exact Nat.le_refl _
  rw [Array.length_toList] at h
  show (Lib.trimSuffix s.data.toList p.data.toList).toArray.size ≤ s.data.size
  rw [List.size_toArray]
  exact h
theorem impl_Lines (s : ByteArray) (w : World) : Calls Tryd.prog 12 #[.string s] w fun e w' => e = .returned (.func (.func 25) #[] #[.pointer (some ⟨w.heap.size, 0, none⟩)]) ∧ w' = w.alloc (.cells #[.string s] 9 (0, 0)) := by
  go_enter Tryd.func12, Tryd.ntmps12
  go_wp2
  go_ret
  exact ⟨rfl, rfl⟩
theorem four_boxes (w : World) (o p q r : Obj) : ∃ W, ((((w.alloc o).alloc p).alloc q).alloc r) = W ∧ W.heap[w.heap.size]? = some o ∧ W.heap[w.heap.size + 1]? = some p ∧ W.heap[w.heap.size + 1 + 1]? = some q ∧ W.heap[w.heap.size + 1 + 1 + 1]? = some r ∧ Below w.heap.size w W ∧ W.heap.size = w.heap.size + 4 := by
  have g : ∀ (w : World) (o : Obj), (w.alloc o).heap[w.heap.size]? = some o := fun w o => Array.getElem?_push_size
  refine ⟨_, rfl, ?_, ?_, ?_, ?_, (((((Below.refl _ _).alloc (Nat.le_refl _) _).alloc (by simp) _).alloc (by simp; omega) _).alloc (by simp; omega) _), by simp⟩
  · rw [Below.heap_alloc _ _ _ (by simp; omega), Below.heap_alloc _ _ _ (by simp; omega), Below.heap_alloc _ _ _ (by simp)]
    exact g w o
  · rw [Below.heap_alloc _ _ _ (by simp), Below.heap_alloc _ _ _ (by simp)]
    have := g (w.alloc o) p
    rwa [World.size_alloc] at this
  · rw [Below.heap_alloc _ _ _ (by simp)]
    have := g ((w.alloc o).alloc p) q
    rwa [World.size_alloc, World.size_alloc] at this
  · have := g (((w.alloc o).alloc p).alloc q) r
    rwa [World.size_alloc, World.size_alloc, World.size_alloc] at this
theorem grown_keep {W W' : World} {r k : Nat} {cs : Array Value} {ty : TypeId} {f : Nat × Nat} (hg : W.grownBy W' (some r)) (hk : W.heap[k]? = some (.cells cs ty f)) (hr : r ≠ k ∨ ∃ o, W.heap[r]? = some o ∧ o.isCells = false) : W'.heap[k]? = some (.cells cs ty f) := by
  refine (hg.block k (Array.getElem?_eq_some_iff.1 hk).1 (fun e => ?_)).trans hk
  have e : k = r := Option.some.inj e
  subst e
  rcases hr with h | ⟨o, h1, h2⟩
  · exact h rfl
  · rw [hk] at h1
    cases h1
    cases h2
theorem own_steady {α : Type} {c : α → List Value} {n lo r : Nat} {e : TypeId} {W W' : World} {v : Value} {l : List α} (h : Own n c lo e W v l) (hg : W.grownBy W' (some r)) (hr : r < lo ∨ ∃ o, W.heap[r]? = some o ∧ o.isCells = false) : Own n c lo e W' v l := by
  refine World.ownsRow.kept h hg (.inr (fun hv => ?_))
  obtain ⟨-, h2⟩ := h
  rcases h2 with ⟨rfl, -⟩ | ⟨g, cap, cur, rfl, hb, hgg, -⟩
  · simp [Value.ownBlock] at hv
  · simp [Value.ownBlock] at hv
    subst hv
    rcases hr with h | ⟨o, h1, h2⟩
    · omega
    · rw [hgg] at h1
      cases h1
      cases h2
/-- An append turns no block but cells. -/
theorem keeps_own {α : Type} {c : α → List Value} {n lo B : Nat} {e : TypeId} {W W' : World} {v : Value} {l : List α} (h : Own n c lo e W v l) (hg : W.grownBy W' v.ownBlock) : KeepsFrom B W W' :=
  ⟨hg.size, fun k o _ hk ho => by
    refine (hg.block k (Array.getElem?_eq_some_iff.1 hk).1 (fun e => ?_)).trans hk
    obtain ⟨-, h2⟩ := h
    rcases h2 with ⟨rfl, -⟩ | ⟨g, cap, cur, rfl, hb, hgg, -⟩
    · simp [Value.ownBlock] at e
    · simp [Value.ownBlock] at e
      subst e
      rw [hgg] at hk
      cases hk
      cases ho⟩
theorem keeps_of {B : Nat} {w w' : World} (h : Below w.heap.size w w') : KeepsFrom B w w' := ⟨h.size, fun k _ _ hk _ => (h.block k (Array.getElem?_eq_some_iff.1 hk).1).trans hk⟩
theorem grown_set (W : World) (b j : Nat) (u : Value) : W.grownBy (W.setCell ⟨b, j, none⟩ u) (some b) := ⟨rfl, rfl, rfl, by simp [World.setCell], fun q _ hq => Below.heap_setCell _ _ _ _ (fun e => hq (by rw [e]))⟩
theorem spans_len (s : ByteArray) : ∀ n a, s.size - a ≤ n → (spans s a).length ≤ n
  | 0, a, h => by rw [spans_end (by omega)]; exact Nat.le_refl _
  | n + 1, a, h => by
    by_cases ha : a < s.size
    · have := lineEnd_bd ha
      rw [spans_go ha, List.length_cons]
      have := spans_len s n (lineEnd s a) (by omega)
      omega
    · rw [spans_end ha]; exact Nat.zero_le _
theorem box_set {W : World} {p : Nat} {u u' : Value} {T : TypeId} {f : Nat × Nat} (h : W.heap[p]? = some (.cells #[u] T f)) : (W.setCell ⟨p, 0, none⟩ u').heap[p]? = some (.cells #[u'] T f) := by
  simp [World.setCell, Array.getElem?_modify, h]
theorem box_far {W : World} {p q : Nat} {u' : Value} (h : q ≠ p) : (W.setCell ⟨p, 0, none⟩ u').heap[q]? = W.heap[q]? := Below.heap_setCell _ _ _ _ h
/-- Between two rounds. -/
def CI (s : ByteArray) (w : World) (k : Nat) (W : World) : Prop :=
  ∃ acc ov, acc.length = k ∧ (∀ m, RcT s m → acc = m.take k) ∧ (∀ x ∈ acc, x.wf) ∧ W.heap[w.heap.size]? = some (.cells #[.slice none 0 0] 22 (0, 0)) ∧ W.heap[w.heap.size + 1]? = some (.cells #[.bool false] 4 (0, 0)) ∧
    W.heap[w.heap.size + 1 + 1]? = some (.cells #[ov] 22 (0, 0)) ∧ Own 4 Chk.cells (w.heap.size + 4) 33 W ov acc ∧ Below w.heap.size w W
/-- Behind a round that has left. -/
def CX (s : ByteArray) (w : World) (c : Code) (_ : Nat) (W : World) : Prop :=
  c = .ret ∧ (∀ m, ¬ RcT s m) ∧ W.heap[w.heap.size]? = some (.cells #[.slice none 0 0] 22 (0, 0)) ∧ W.heap[w.heap.size + 1]? = some (.cells #[.bool false] 4 (0, 0)) ∧ Below w.heap.size w W
theorem CI.steady {s : ByteArray} {w : World} : Steady (w.heap.size + 4) (w.heap.size + 1 + 1 + 1) (CI s w) := by
  intro k W W' r ⟨acc, ov, h1, h2, h3, g0, g1, g2, ho, hb⟩ hg hr
  have key : ∀ q, q < w.heap.size + 1 + 1 + 1 → r ≠ q ∨ ∃ o, W.heap[r]? = some o ∧ o.isCells = false := fun q hq => by
    rcases hr with h | ⟨h, h'⟩
    · exact .inl (by omega)
    · exact .inr h'
  have hr2 : r < w.heap.size + 4 ∨ ∃ o, W.heap[r]? = some o ∧ o.isCells = false := by
    rcases hr with h | ⟨h, h'⟩
    · exact .inl (by omega)
    · exact .inr h'
  exact ⟨acc, ov, h1, h2, h3, grown_keep hg g0 (key _ (by omega)), grown_keep hg g1 (key _ (by omega)), grown_keep hg g2 (key _ (by omega)), own_steady ho hg hr2, hb.grown hg hb.size (fun q e => by cases e; rcases hr with h | ⟨h, -⟩ <;> omega)⟩
theorem CX.steady {s : ByteArray} {w : World} (c : Code) : Steady (w.heap.size + 4) (w.heap.size + 1 + 1 + 1) (CX s w c) := by
  intro k W W' r ⟨h1, h2, g0, g1, hb⟩ hg hr
  have key : ∀ q, q < w.heap.size + 1 + 1 + 1 → r ≠ q ∨ ∃ o, W.heap[r]? = some o ∧ o.isCells = false := fun q hq => by
    rcases hr with h | ⟨h, h'⟩
    · exact .inl (by omega)
    · exact .inr h'
  exact ⟨h1, h2, grown_keep hg g0 (key _ (by omega)), grown_keep hg g1 (key _ (by omega)), hb.grown hg hb.size (fun q e => by cases e; rcases hr with h | ⟨h, -⟩ <;> omega)⟩
/-- What a line of the text is, where the text spells checks. -/
theorem line_fields {s : ByteArray} {m : List Chk} (h : RcT s m) {k : Nat} (hk : k < (spans s 0).length) :
    ∃ hkm : k < m.length, m[k].ok ∧ Lib.goFieldsP isBlank ⟨(Lib.trimSuffix (s.extract (spans s 0)[k].1 (spans s 0)[k].2).data.toList (⟨#[10]⟩ : ByteArray).data.toList).toArray⟩ = wordsB m[k] := by
  obtain ⟨hl, hline⟩ := spans_line h
  have hkm : k < m.length := by omega
  have hok := chks_all h.1 _ (List.getElem_mem hkm)
  refine ⟨hkm, hok, ?_⟩
  rw [hline k hkm hk, chkLine_cat, suffix_nl]
  exact fields_line hok rfl
theorem num_I64 {s : ByteArray} (h : numB s = true) : I64 (numV s) := by
  have := (numB_of h).bd
  exact ⟨by omega, by omega⟩
theorem cell_of_blk {w w' : World} {q o : Nat} (h : w'.heap[q]? = w.heap[q]?) : w'.cell? ⟨q, o, none⟩ = w.cell? ⟨q, o, none⟩ := by
  unfold World.cell?
  simp only [h]
theorem own_blk_lt {α : Type} {c : α → List Value} {n lo : Nat} {e : TypeId} {W : World} {v : Value} {l : List α} (h : Own n c lo e W v l) : ∀ g, v.ownBlock = some g → g < W.heap.size ∧ lo ≤ g := by
  intro g hg
  obtain ⟨-, h2⟩ := h
  rcases h2 with ⟨rfl, -⟩ | ⟨g', cap, cur, rfl, hb, hgg, -⟩
  · simp [Value.ownBlock] at hg
  · simp [Value.ownBlock] at hg
    subst hg
    exact ⟨(Array.getElem?_eq_some_iff.1 hgg).1, hb⟩
theorem outgrown_no {K : Act → World → Prop} {Q : Exit → Act → World → Prop} (h : ¬ LetsOut Q) : ¬ LetsOut (Exit.then K Q) := fun ⟨a, w, h2⟩ => h ⟨a, w, h2⟩
set_option maxRecDepth 100000 in
set_option maxHeartbeats 8000000 in
theorem impl_ReadChecks (s : ByteArray) (w : World) (hs : s.size ≤ 1048576) (h10 : P10 w) (hev : EV w) : Calls Tryd.prog 5 #[.string s] w (RdRes s w) := by
  refine (callsIn_wide (n := 4)).1 ?_
  have HA := Lib.hid (fun w' => impl_Lines s w')
  refine callsIn_of_wp_marks Tryd.func5 rfl trivial ?_ rfl
  simp only [Tryd.ntmps5, List.size_toArray, List.length_cons, List.length_nil, Nat.reduceAdd, Nat.reduceSub, Array.replicate_succ, Array.replicate_zero, List.push_toArray, List.append_toArray, List.nil_append, List.cons_append]
  gi_wp2_with (refine ⟨trivial, ?_⟩; gi_at_call 12; refine (callsIn_wide.2 (HA.out _)).mono ?_; rintro e w' ⟨rfl, rfl⟩)
  obtain ⟨WL, hWL, l0, l1, l2, l3, hB0, hz⟩ := four_boxes w (.cells #[.slice none 0 0] 22) (.cells #[.bool false] 4) (.cells #[.slice none 0 0] 22) (.cells #[.string s] 9)
  rw [hWL]
  clear hWL HA
  have hI0 : CI s w 0 WL := ⟨[], _, rfl, fun m _ => by simp, fun x hx => (by cases hx), l0, l1, l2, own_nil _ _ _, hB0⟩
  have HY := Lib.hid (lines_yields 3 (by omega) (w.heap.size + 1 + 1 + 1) s WL (by omega) l3)
  have H10 := Lib.hid h10
  have Hev := Lib.hid hev
  clear h10 hev l0 l1 l2 l3
  refine wpIn_yields rfl (by omega) (gf := 25) (lb := #[.pointer (some ⟨w.heap.size + 1 + 1 + 1, 0, none⟩)]) rfl trivial (enters_of Tryd.func25 (by kernel_rfl) rfl) HY.out (Below.refl _ _) (by omega)
    (CI s w) (CX s w) (by rw [hz]; exact CI.steady) (fun c => by rw [hz]; exact CX.steady c) hI0 ?a1 ?assign ?body ?done ?stop
  case assign =>
    intro l x W K hK
    gi_wp2
    exact hK
  case body =>
    rw [hz]
    rintro lid k hk W hWz ⟨acc, ov, hak, hm, hwf, g0, g1, g2, hown, hB⟩
    have Hfl := Lib.hid (fun m (h : RcT s m) => line_fields h hk)
    have hlk : k < s.size := Nat.lt_of_lt_of_le hk (spans_len s s.size 0 (by omega))
    have hsl : (s.extract (spans s 0)[k].1 (spans s 0)[k].2).size ≤ 1048576 := by rw [ByteArray.size_extract]; omega
    simp only [lineV]
    have HT := Lib.hid ((Tryd.strings_TrimSuffix (s.extract (spans s 0)[k].1 (spans s 0)[k].2) ⟨#[10]⟩ W (by omega)).mono (fun e w' h => (⟨h.1, h.2.symm⟩ : e = _ ∧ W = w')))
    have htr := trim_size (s.extract (spans s 0)[k].1 (spans s 0)[k].2) ⟨#[10]⟩
    generalize (⟨(Lib.trimSuffix (s.extract (spans s 0)[k].1 (spans s 0)[k].2).data.toList (⟨#[10]⟩ : ByteArray).data.toList).toArray⟩ : ByteArray) = td at *
    generalize s.extract (spans s 0)[k].1 (spans s 0)[k].2 = ln at *
    have hS := impl_SplitWords td W (by omega)
    have Hz := Lib.hid (fun x hx => goFields_size isBlank td x hx)
    generalize Lib.goFieldsP isBlank td = F at *
    have HS := Lib.hid hS
    have Hm := Lib.hid hm
    have Hwf := Lib.hid hwf
    have Hg0 := Lib.hid g0
    have Hg1 := Lib.hid g1
    have Hg2 := Lib.hid g2
    have Hown := Lib.hid hown
    have htd : td.size ≤ 1048576 := by omega
    have hacc : acc.length ≤ 1048576 := by omega
    have Hak := Lib.hid hak
    clear hak hS hm hwf g0 g1 g2 hown htr
    by_cases h6 : F.length = 6
    · obtain ⟨a, b, c, d, e, f, rfl⟩ := six h6
      have Hx : Hid (∀ m, RcT s m → ∃ hkm : k < m.length, m[k].ok ∧ a = decStr m[k].crane ∧ b = m[k].name ∧ d = decStr m[k].every ∧ f = decStr m[k].last) := Lib.hid (fun m h => by
        obtain ⟨hkm, hok, e⟩ := Hfl.out m h
        unfold wordsB at e
        simp only [List.cons.injEq, and_true] at e
        obtain ⟨e1, e2, -, e4, -, e6⟩ := e
        exact ⟨hkm, hok, e1, e2, e4, e6⟩)
      have HR := Lib.hid (fun v lo hi W' (h : Sl 1 strC lo hi W' v [a, d, f]) h10 hev => impl_readAll v [a, d, f] lo hi W' h (by simp) (fun x hx => by
        have h1 := Hz.out a (by simp)
        have h2 := Hz.out d (by simp)
        have h3 := Hz.out f (by simp)
        simp only [List.mem_cons, List.not_mem_nil, or_false] at hx
        rcases hx with rfl | rfl | rfl <;> omega) h10 hev)
      have hbz := Hz.out b (by simp)
      clear Hfl Hz h6
      gi_wp2_with (first | (refine ⟨trivial, ?_⟩; gi_at_call 14; refine (CallsIn.inRound lid (callsIn_wide.2 HT.out)).mono ?_; rintro e w1 ⟨rfl, rfl⟩) | (refine ⟨trivial, ?_⟩; gi_at_call 13; refine (CallsIn.inRound lid (callsIn_wide.2 HS.out)).mono ?_; rintro e w2 ⟨v2, rfl, s2, b2⟩; obtain ⟨wa, wc, rfl⟩ : ∃ a c, v2 = .slice a 6 c := (by obtain ⟨a, c, h, -⟩ := s2.1; exact ⟨a, c, h⟩); obtain ⟨wb, wo, rfl⟩ := s2.1.addr (by simp)))
      have y0 : w2.cell? ⟨wb, wo, none⟩ = some (.string a) := Strs.at s2.1.get (k := 0) (by simp)
      have y1 : w2.cell? ⟨wb, wo + 1, none⟩ = some (.string b) := Strs.at s2.1.get (k := 1) (by simp)
      have y3 : w2.cell? ⟨wb, wo + 3, none⟩ = some (.string d) := Strs.at s2.1.get (k := 3) (by simp)
      have y5 : w2.cell? ⟨wb, wo + 5, none⟩ = some (.string f) := Strs.at s2.1.get (k := 5) (by simp)
      have hwlt := World.block_lt_of_cell? w2 _ y0
      have hwlo : W.heap.size ≤ wb := by
        obtain ⟨a', c', hv, -, h⟩ := s2.1
        cases hv
        obtain ⟨b', o', hb', h1, -⟩ := h (by simp)
        cases hb'
        exact h1
      have Hy1 := Lib.hid y1
      have B2 := Lib.hid b2
      have z2 := b2.size
      clear s2 b2
      refine region_ph_in 99 (fun w' => w'.cell? ⟨wb, wo, none⟩ = some (.string a) ∧ w'.cell? ⟨wb, wo + 3, none⟩ = some (.string d) ∧ w'.cell? ⟨wb, wo + 5, none⟩ = some (.string f)) (fun _ => True) (by kernel_rfl) (by kernel_rfl) (fun ⟨_, _, h⟩ => h) ⟨y0, y3, y5⟩ trivial (fun hp => ?_)
      refine take_ph 19 (i := 0) rfl rfl (by decide) (by kernel_rfl) (by kernel_rfl) (by kernel_rfl) (fun _ _ _ h => h) (by rfl) (fun w hSw => by (try dsimp only at hSw); go_simp; first | done | with_reducible rfl) hp (fun hp => ?_)
      try simp only [Act.put, List.setIfInBounds_toArray, List.set_cons_zero, List.set_cons_succ]
      refine take_ph 20 (i := 1) rfl rfl (by decide) (by kernel_rfl) (by kernel_rfl) (by kernel_rfl) (fun _ _ _ h => h) (by rfl) (fun w hSw => by (try dsimp only at hSw); go_simp; first | done | with_reducible rfl) hp (fun hp => ?_)
      try simp only [Act.put, List.setIfInBounds_toArray, List.set_cons_zero, List.set_cons_succ]
      refine take_ph 21 (i := 2) rfl rfl (by decide) (by kernel_rfl) (by kernel_rfl) (by kernel_rfl) (fun _ _ _ h => h) (by rfl) (fun w hSw => by (try dsimp only at hSw); go_simp; first | done | with_reducible rfl) hp (fun hp => ?_)
      try simp only [Act.put, List.setIfInBounds_toArray, List.set_cons_zero, List.set_cons_succ]
      refine take_ph 22 (i := 3) rfl rfl (by decide) (by kernel_rfl) (by kernel_rfl) (by kernel_rfl) (fun _ _ _ h => h) (by rfl) (fun w hSw => by (try dsimp only at hSw); go_simp; first | done | with_reducible rfl) hp (fun hp => ?_)
      try simp only [Act.put, List.setIfInBounds_toArray, List.set_cons_zero, List.set_cons_succ]
      refine take_ph 23 (i := 4) rfl rfl (by decide) (by kernel_rfl) (by kernel_rfl) (by kernel_rfl) (fun _ _ _ h => h) (by rfl) (fun w hSw => by (try dsimp only at hSw); go_simp; first | done | with_reducible rfl) hp (fun hp => ?_)
      try simp only [Act.put, List.setIfInBounds_toArray, List.set_cons_zero, List.set_cons_succ]
      refine take_ph 24 (i := 5) rfl rfl (by decide) (by kernel_rfl) (by kernel_rfl) (by kernel_rfl) (fun _ _ _ h => h) (by rfl) (fun w hSw => by (try dsimp only at hSw); go_simp; first | done | with_reducible rfl) hp (fun hp => ?_)
      try simp only [Act.put, List.setIfInBounds_toArray, List.set_cons_zero, List.set_cons_succ]
      refine take_ph 25 (i := 6) rfl rfl (by decide) (by kernel_rfl) (by kernel_rfl) (by kernel_rfl) (fun _ _ _ h => h) (by rfl) (fun w hSw => by (try dsimp only at hSw); go_simp; first | done | with_reducible rfl) hp (fun hp => ?_)
      try simp only [Act.put, List.setIfInBounds_toArray, List.set_cons_zero, List.set_cons_succ]
      refine take_ph 26 (i := 7) rfl rfl (by decide) (by kernel_rfl) (by kernel_rfl) (by kernel_rfl) (fun _ _ _ h => h) (by rfl) (fun w hSw => by (try dsimp only at hSw); go_simp; first | done | with_reducible rfl) hp (fun hp => ?_)
      try simp only [Act.put, List.setIfInBounds_toArray, List.set_cons_zero, List.set_cons_succ]
      refine take_ph 27 (i := 8) rfl rfl (by decide) (by kernel_rfl) (by kernel_rfl) (by kernel_rfl) (fun _ _ _ h => h) (by rfl) (fun w hSw => by (try dsimp only at hSw); go_simp; first | done | with_reducible rfl) hp (fun hp => ?_)
      try simp only [Act.put, List.setIfInBounds_toArray, List.set_cons_zero, List.set_cons_succ]
      refine AnyL.one (i := 9) (by kernel_rfl) rfl (fun K hK => ?_)
      go_simp
      obtain ⟨WA, hWA⟩ : ∃ WA, (w2.alloc (.cells #[.string a, .string d, .string f] 9)).drew = WA := ⟨_, rfl⟩
      have hcA : ∀ o u, w2.cell? ⟨wb, o, none⟩ = some u → WA.cell? ⟨wb, o, none⟩ = some u := fun o u h => by
        rw [← hWA]
        exact (World.cell?_alloc_lt w2 _ _ (show wb < _ from hwlt)).trans h
      have BA : Hid (Below W.heap.size W WA) := Lib.hid (by rw [← hWA]; exact (B2.out.alloc z2 _).drew)
      have hSA : Sl 1 strC w2.heap.size WA.heap.size WA (.slice (some ⟨w2.heap.size, 0, none⟩) 3 3) [a, d, f] := by
        rw [← hWA]
        exact (sl_lit strC_len [a, d, f] w2.drew 9 (cs := #[.string a, .string d, .string f]) rfl (m := 3) rfl (by simp)).mono (Nat.le_refl _) (Nat.le_of_eq (World.size_alloc w2 _).symm)
      have hltA : wb < WA.heap.size := by rw [← hWA]; exact Nat.lt_of_lt_of_le hwlt (Nat.le_trans (Nat.le_succ _) (Nat.le_of_eq (World.size_alloc w2 _).symm))
      have q0 := hcA _ _ y0
      have q3 := hcA _ _ y3
      have q5 := hcA _ _ y5
      have HY1 := Lib.hid (hcA _ _ Hy1.out)
      rw [hWA]
      refine hK.out _ _ (ph1 ⟨q0, q3, q5⟩ trivial) (fun hp => ?_)
      clear hK
      try simp only [Act.put, List.setIfInBounds_toArray, List.set_cons_zero, List.set_cons_succ]
      have HHR := Lib.hid (HR.out _ _ _ _ hSA (H10.out.ext (hB.trans (BA.out.mono hB.size))) (Hev.out.ext (hB.trans (BA.out.mono hB.size))))
      clear y0 y1 y3 y5 hSA hcA hWA
      refine AnyL.one (i := 10) (by kernel_rfl) rfl (fun K hK => ?_)
      go_simp
      refine HHR.out.mono ?_
      rintro e3 w3 ⟨hb3, hcase⟩
      have B3 := Lib.hid (BA.out.trans (hb3.mono BA.out.size))
      have r0 := (hb3.cell (p := ⟨wb, wo, none⟩) hltA).trans q0
      have r3 := (hb3.cell (p := ⟨wb, wo + 3, none⟩) hltA).trans q3
      have r5 := (hb3.cell (p := ⟨wb, wo + 5, none⟩) hltA).trans q5
      have HR1 := Lib.hid ((hb3.cell (p := ⟨wb, wo + 1, none⟩) hltA).trans HY1.out)
      have hlt3 := Nat.lt_of_lt_of_le hltA hb3.size
      have zA := BA.out.size
      clear HHR HY1 q0 q3 q5 hltA hb3 B2 BA
      rcases hcase with ⟨hall, nv, rfl, hn⟩ | ⟨hall, rfl⟩
      · obtain ⟨na', nc, rfl⟩ : ∃ a c, nv = .slice a 3 c := by obtain ⟨a, c, h, -⟩ := hn.1; exact ⟨a, c, h⟩
        obtain ⟨nb, no, rfl⟩ := hn.1.addr (by simp)
        simp only [List.all_cons, List.all_nil, Bool.and_true, Bool.and_eq_true] at hall
        obtain ⟨ha1, ha2, ha3⟩ := hall
        dsimp only
        refine hK.out _ _ (ph1 ⟨r0, r3, r5⟩ trivial) (fun hp => ?_)
        clear hK
        try simp only [Act.put, List.setIfInBounds_toArray, List.set_cons_zero, List.set_cons_succ]
        refine take_ph 18 (i := 11) rfl rfl (by decide) (by kernel_rfl) (by kernel_rfl) (by kernel_rfl) (fun _ _ _ h => h) (by rfl) (fun w hSw => by (try dsimp only at hSw); go_simp; first | done | with_reducible rfl) hp (fun hp => ?_)
        try simp only [Act.put, List.setIfInBounds_toArray, List.set_cons_zero, List.set_cons_succ]
        refine take_ph 30 (i := 12) rfl rfl (by decide) (by kernel_rfl) (by kernel_rfl) (by kernel_rfl) (fun _ _ _ h => h) (by rfl) (fun w hSw => by (try dsimp only at hSw); go_simp; first | done | with_reducible rfl) hp (fun hp => ?_)
        try simp only [Act.put, List.setIfInBounds_toArray, List.set_cons_zero, List.set_cons_succ]
        refine take_ph 31 (i := 13) rfl rfl (by decide) (by kernel_rfl) (by kernel_rfl) (by kernel_rfl) (fun _ _ _ h => h) (by rfl) (fun w hSw => by (try dsimp only at hSw); go_simp; first | done | with_reducible rfl) hp (fun hp => ?_)
        try simp only [Act.put, List.setIfInBounds_toArray, List.set_cons_zero, List.set_cons_succ]
        refine take_ph 7 (i := 14) rfl rfl (by decide) (by kernel_rfl) (by kernel_rfl) (by kernel_rfl) (fun _ _ _ h => h) (by rfl) (fun w hSw => by (try dsimp only at hSw); go_simp; first | done | with_reducible rfl) hp (fun hp => ?_)
        try simp only [Act.put, List.setIfInBounds_toArray, List.set_cons_zero, List.set_cons_succ]
        refine take_ph 8 (i := 15) rfl rfl (by decide) (by kernel_rfl) (by kernel_rfl) (by kernel_rfl) (fun _ _ _ h => h) (by rfl) (fun w hSw => by (try dsimp only at hSw); go_simp; first | done | with_reducible rfl) hp (fun hp => ?_)
        try simp only [Act.put, List.setIfInBounds_toArray, List.set_cons_zero, List.set_cons_succ]
        refine AnyL.done (by kernel_rfl) ?_ _
        clear hp r0 r3 r5
        gi_wp2
        have z0 : w3.cell? ⟨nb, no, none⟩ = some (.int .i64 (numV a)) := Ints.at hn.1.get (k := 0) (by simp)
        have z1 : w3.cell? ⟨nb, no + 1, none⟩ = some (.int .i64 (numV d)) := Ints.at hn.1.get (k := 1) (by simp)
        have z2 : w3.cell? ⟨nb, no + 2, none⟩ = some (.int .i64 (numV f)) := Ints.at hn.1.get (k := 2) (by simp)
        have hnlo : W.heap.size ≤ nb := by
          obtain ⟨a', c', hv, -, h⟩ := hn.1
          cases hv
          obtain ⟨b', o', hb', h1, -⟩ := h (by simp)
          cases hb'
          omega
        have hnlt := World.block_lt_of_cell? w3 _ z0
        have Hxm : Hid (∀ m, RcT s m → acc ++ [(⟨numV a, b, numV d, numV f⟩ : Chk)] = m.take (k + 1)) := Lib.hid (fun m h => by
          obtain ⟨hkm, hok, e1, e2, e3, e4⟩ := Hx.out m h
          obtain ⟨f1, f2, f3⟩ := ok_fit hok
          rw [List.take_succ_eq_append_getElem hkm, ← Hm.out m h, e1, e2, e3, e4, (num_t f1).2, (num_t f2).2, (num_t f3).2])
        have Hxw : Hid (∀ x ∈ acc ++ [(⟨numV a, b, numV d, numV f⟩ : Chk)], x.wf) := Lib.hid (fun x hx => by
          rcases List.mem_append.1 hx with hx | hx
          · exact Hwf.out x hx
          · rw [List.mem_singleton] at hx
            subst hx
            exact ⟨num_I64 ha1, by unfold maxLen; dsimp only; omega, num_I64 ha2, num_I64 ha3⟩)
        clear hn Hx HR Hm Hwf ha1 ha2 ha3
        generalize numV a = na at *
        generalize numV d = nd at *
        generalize numV f = nf at *
        have G2 := blk_below B3.out Hg2.out
        have c2 : w3.cell? ⟨w.heap.size + 1 + 1, 0, none⟩ = some ov := (Lib.cell_of_heap G2 0).trans rfl
        have hbW := (Array.getElem?_eq_some_iff.1 Hg2.out).1
        have HG2 := Lib.hid G2
        have z3 := B3.out.size
        refine region_ph_in 15 (fun w' => w'.cell? ⟨nb, no, none⟩ = some (.int .i64 na) ∧ w'.cell? ⟨wb, wo + 1, none⟩ = some (.string b) ∧ w'.cell? ⟨nb, no + 1, none⟩ = some (.int .i64 nd) ∧ w'.cell? ⟨nb, no + 2, none⟩ = some (.int .i64 nf)) (fun w' => w'.cell? ⟨w.heap.size + 1 + 1, 0, none⟩ = some ov) (by kernel_rfl) (by kernel_rfl) (fun ⟨_, _, h⟩ => h) ⟨z0, HR1.out, z1, z2⟩ c2 (fun hp => ?_)
        clear G2
        refine take_ph1 34 (i := 0) rfl rfl (by decide) (by rfl) (by kernel_rfl) (by kernel_rfl) (by kernel_rfl) (by kernel_rfl) (fun _ _ _ h => h) (by rfl) (fun w hSw hBw => by (try dsimp only at hSw hBw); go_simp; first | done | with_reducible rfl) hp (fun hp => ?_)
        try simp only [Act.put, List.setIfInBounds_toArray, List.set_cons_zero, List.set_cons_succ]
        refine take_ph 35 (i := 1) rfl rfl (by decide) (by kernel_rfl) (by kernel_rfl) (by kernel_rfl) (fun _ _ _ h => h) (by rfl) (fun w hSw => by (try dsimp only at hSw); go_simp; first | done | with_reducible rfl) hp (fun hp => ?_)
        try simp only [Act.put, List.setIfInBounds_toArray, List.set_cons_zero, List.set_cons_succ]
        refine take_ph 36 (i := 2) rfl rfl (by decide) (by kernel_rfl) (by kernel_rfl) (by kernel_rfl) (fun _ _ _ h => h) (by rfl) (fun w hSw => by (try dsimp only at hSw); go_simp; first | done | with_reducible rfl) hp (fun hp => ?_)
        try simp only [Act.put, List.setIfInBounds_toArray, List.set_cons_zero, List.set_cons_succ]
        refine take_ph 37 (i := 3) rfl rfl (by decide) (by kernel_rfl) (by kernel_rfl) (by kernel_rfl) (fun _ _ _ h => h) (by rfl) (fun w hSw => by (try dsimp only at hSw); go_simp; first | done | with_reducible rfl) hp (fun hp => ?_)
        try simp only [Act.put, List.setIfInBounds_toArray, List.set_cons_zero, List.set_cons_succ]
        refine take_ph 38 (i := 4) rfl rfl (by decide) (by kernel_rfl) (by kernel_rfl) (by kernel_rfl) (fun _ _ _ h => h) (by rfl) (fun w hSw => by (try dsimp only at hSw); go_simp; first | done | with_reducible rfl) hp (fun hp => ?_)
        try simp only [Act.put, List.setIfInBounds_toArray, List.set_cons_zero, List.set_cons_succ]
        refine take_ph 39 (i := 5) rfl rfl (by decide) (by kernel_rfl) (by kernel_rfl) (by kernel_rfl) (fun _ _ _ h => h) (by rfl) (fun w hSw => by (try dsimp only at hSw); go_simp; first | done | with_reducible rfl) hp (fun hp => ?_)
        try simp only [Act.put, List.setIfInBounds_toArray, List.set_cons_zero, List.set_cons_succ]
        refine take_ph 40 (i := 6) rfl rfl (by decide) (by kernel_rfl) (by kernel_rfl) (by kernel_rfl) (fun _ _ _ h => h) (by rfl) (fun w hSw => by (try dsimp only at hSw); go_simp; first | done | with_reducible rfl) hp (fun hp => ?_)
        try simp only [Act.put, List.setIfInBounds_toArray, List.set_cons_zero, List.set_cons_succ]
        refine take_ph 41 (i := 7) rfl rfl (by decide) (by kernel_rfl) (by kernel_rfl) (by kernel_rfl) (fun _ _ _ h => h) (by rfl) (fun w hSw => by (try dsimp only at hSw); go_simp; first | done | with_reducible rfl) hp (fun hp => ?_)
        try simp only [Act.put, List.setIfInBounds_toArray, List.set_cons_zero, List.set_cons_succ]
        refine take_ph 42 (i := 8) rfl rfl (by decide) (by kernel_rfl) (by kernel_rfl) (by kernel_rfl) (fun _ _ _ h => h) (by rfl) (fun w hSw => by (try dsimp only at hSw); go_simp; first | done | with_reducible rfl) hp (fun hp => ?_)
        try simp only [Act.put, List.setIfInBounds_toArray, List.set_cons_zero, List.set_cons_succ]
        refine take_ph 43 (i := 9) rfl rfl (by decide) (by kernel_rfl) (by kernel_rfl) (by kernel_rfl) (fun _ _ _ h => h) (by rfl) (fun w hSw => by (try dsimp only at hSw); go_simp; first | done | with_reducible rfl) hp (fun hp => ?_)
        try simp only [Act.put, List.setIfInBounds_toArray, List.set_cons_zero, List.set_cons_succ]
        refine take_ph 44 (i := 10) rfl rfl (by decide) (by kernel_rfl) (by kernel_rfl) (by kernel_rfl) (fun _ _ _ h => h) (by rfl) (fun w hSw => by (try dsimp only at hSw); go_simp; first | done | with_reducible rfl) hp (fun hp => ?_)
        try simp only [Act.put, List.setIfInBounds_toArray, List.set_cons_zero, List.set_cons_succ]
        refine take_ph 45 (i := 11) rfl rfl (by decide) (by kernel_rfl) (by kernel_rfl) (by kernel_rfl) (fun _ _ _ h => h) (by rfl) (fun w hSw => by (try dsimp only at hSw); go_simp; first | done | with_reducible rfl) hp (fun hp => ?_)
        try simp only [Act.put, List.setIfInBounds_toArray, List.set_cons_zero, List.set_cons_succ]
        refine take_ph 46 (i := 12) rfl rfl (by decide) (by kernel_rfl) (by kernel_rfl) (by kernel_rfl) (fun _ _ _ h => h) (by rfl) (fun w hSw => by (try dsimp only at hSw); go_simp; first | done | with_reducible rfl) hp (fun hp => ?_)
        try simp only [Act.put, List.setIfInBounds_toArray, List.set_cons_zero, List.set_cons_succ]
        refine take_ph 47 (i := 13) rfl rfl (by decide) (by kernel_rfl) (by kernel_rfl) (by kernel_rfl) (fun _ _ _ h => h) (by rfl) (fun w hSw => by (try dsimp only at hSw); go_simp; first | done | with_reducible rfl) hp (fun hp => ?_)
        try simp only [Act.put, List.setIfInBounds_toArray, List.set_cons_zero, List.set_cons_succ]
        refine AnyL.one (i := 14) (by kernel_rfl) rfl (fun K hK => ?_)
        go_simp
        obtain ⟨wE, hwE⟩ : ∃ wE, (w3.alloc (.cells #[.int .i64 na, .string b, .int .i64 nd, .int .i64 nf] 33)).drew = wE := ⟨_, rfl⟩
        have hwE' : wE = w3.drew.alloc (.cells #[.int .i64 na, .string b, .int .i64 nd, .int .i64 nf] 33) := hwE.symm
        have hcE : ∀ q o u, w3.cell? ⟨q, o, none⟩ = some u → wE.cell? ⟨q, o, none⟩ = some u := fun q o u h => by
          rw [← hwE]
          exact (World.cell?_alloc_lt w3 _ _ (World.block_lt_of_cell? w3 _ h)).trans h
        rw [hwE]
        refine hK.out _ _ (ph1 ⟨hcE _ _ _ z0, hcE _ _ _ HR1.out, hcE _ _ _ z1, hcE _ _ _ z2⟩ (hcE _ _ _ c2)) (fun hp => ?_)
        clear hK hwE
        try simp only [Act.put, List.setIfInBounds_toArray, List.set_cons_zero, List.set_cons_succ]
        refine AnyL.one (i := 15) (by kernel_rfl) rfl (fun K hK => ?_)
        have hownD : Own 4 Chk.cells (w.heap.size + 4) 33 w3.drew ov acc := (Hown.out.below B3.out).drew
        have hBs := hB.size
        refine step_app1 (c := Chk.cells) (bytes := 40) rfl _ _ 22 33 rfl Tryd.underlying22 info_Chks (by omega) Chk.len Chk.ones (w.heap.size + 4) acc ⟨na, b, nd, nf⟩ ov rfl w3.drew hwE' hownD rfl (by omega) (by omega) (Nat.le_trans hWz z3) ?_
        intro v' w9 hown9 hg9
        obtain ⟨va', vc', rfl⟩ : ∃ a c, v' = .slice a (acc.length + 1) c := by
          obtain ⟨a, c, h⟩ := own_sv hown9
          exact ⟨a, c, by rw [h, List.length_append]; rfl⟩
        have hob := own_blk_lt Hown.out
        have hblk : ∀ q, q < w3.heap.size → (W.heap.size ≤ q ∨ q < w.heap.size + 4) → w9.heap[q]? = w3.heap[q]? := fun q hq ho =>
          (hg9.block q (by rw [World.size_alloc]; exact Nat.lt_succ_of_lt hq) (fun e => by have := hob q e.symm; omega)).trans (Below.heap_alloc w3.drew _ _ hq)
        have hx9 := (hblk (w.heap.size + 1 + 1) (by omega) (.inr (by omega))).trans HG2.out
        have t0 := (cell_of_blk (o := no) (hblk nb hnlt (.inl hnlo))).trans z0
        have t1 := (cell_of_blk (o := no + 1) (hblk nb hnlt (.inl hnlo))).trans z1
        have t2 := (cell_of_blk (o := no + 2) (hblk nb hnlt (.inl hnlo))).trans z2
        have t3 := (cell_of_blk (o := wo + 1) (hblk wb hlt3 (.inl hwlo))).trans HR1.out
        have f9 := Lib.frozen_of_heap hx9 0
        have e9 : w9.cell? ⟨w.heap.size + 1 + 1, 0, none⟩ = some ov := (Lib.cell_of_heap hx9 0).trans rfl
        refine hK.out _ _ (ph2 rfl ⟨t0, t3, t1, t2⟩) (fun hp => ?_)
        clear hK
        try simp only [Act.put, List.setIfInBounds_toArray]
        refine AnyL.one (i := 16) (by kernel_rfl) rfl (fun K hK => ?_)
        go_simp
        refine hK.out _ _ (ph2 rfl ⟨?_, ?_, ?_, ?_⟩) (fun hp => ?_)
        · rw [World.cell?_setCell_far _ _ _ _ (by simp only []; omega)]; exact t0
        · rw [World.cell?_setCell_far _ _ _ _ (by simp only []; omega)]; exact t3
        · rw [World.cell?_setCell_far _ _ _ _ (by simp only []; omega)]; exact t1
        · rw [World.cell?_setCell_far _ _ _ _ (by simp only []; omega)]; exact t2
        clear hK
        refine AnyL.done (by kernel_rfl) ?_ _
        clear hp z0 z1 z2 c2 t0 t1 t2 t3 f9 e9
        gi_wp2
        have hBw3 : Below w.heap.size w w3.drew := (hB.trans (B3.out.mono hBs)).drew
        have hBw9 : Below w.heap.size w w9 := hownD.app hBw3 (Nat.le_add_right _ _) hBw3.size hg9
        refine ⟨(((keeps_of B3.out).trans (keeps_of ((Below.refl w3.heap.size w3).drew.alloc (Nat.le_refl _) _))).trans (keeps_own (hownD.alloc _) hg9)).trans ((KeepsOthers.setCell _ _ _).from _), ?_, acc ++ [⟨na, b, nd, nf⟩], _, by rw [List.length_append, Hak.out]; rfl, Hxm.out, Hxw.out, ?_, ?_, box_set hx9, own_steady hown9 (grown_set _ _ _ _) (.inl (by omega)), hBw9.setCell (p := ⟨w.heap.size + 1 + 1, 0, none⟩) (by simp only []; omega) _⟩
        · exact (box_far (by omega)).trans ((hblk _ (by omega) (.inr (by omega))).trans (B3.out.block _ (by omega)))
        · exact (box_far (by omega)).trans ((hblk _ (by omega) (.inr (by omega))).trans (blk_below B3.out Hg0.out))
        · exact (box_far (by omega)).trans ((hblk _ (by omega) (.inr (by omega))).trans (blk_below B3.out Hg1.out))
      · have Hno : Hid (∀ m, ¬ RcT s m) := Lib.hid (fun m h => by
          obtain ⟨hkm, hok, rfl, -, rfl, rfl⟩ := Hx.out m h
          obtain ⟨f1, f2, f3⟩ := ok_fit hok
          simp only [List.all_cons, List.all_nil, Bool.and_true, (num_t f1).1, (num_t f2).1, (num_t f3).1] at hall
          cases hall)
        have G0 := blk_below B3.out Hg0.out
        have G1 := blk_below B3.out Hg1.out
        have f0 := Lib.frozen_of_heap G0 0
        have f1 := Lib.frozen_of_heap G1 0
        have e0 := (Lib.cell_of_heap G0 0).trans rfl
        have e1 := (Lib.cell_of_heap G1 0).trans rfl
        dsimp only
        refine hK.out _ _ (ph1 ⟨r0, r3, r5⟩ trivial) (fun hp => ?_)
        clear hK
        try simp only [Act.put, List.setIfInBounds_toArray, List.set_cons_zero, List.set_cons_succ]
        refine take_ph 18 (i := 11) rfl rfl (by decide) (by kernel_rfl) (by kernel_rfl) (by kernel_rfl) (fun _ _ _ h => h) (by rfl) (fun w hSw => by (try dsimp only at hSw); go_simp; first | done | with_reducible rfl) hp (fun hp => ?_)
        try simp only [Act.put, List.setIfInBounds_toArray, List.set_cons_zero, List.set_cons_succ]
        refine take_ph 30 (i := 12) rfl rfl (by decide) (by kernel_rfl) (by kernel_rfl) (by kernel_rfl) (fun _ _ _ h => h) (by rfl) (fun w hSw => by (try dsimp only at hSw); go_simp; first | done | with_reducible rfl) hp (fun hp => ?_)
        try simp only [Act.put, List.setIfInBounds_toArray, List.set_cons_zero, List.set_cons_succ]
        refine take_ph 31 (i := 13) rfl rfl (by decide) (by kernel_rfl) (by kernel_rfl) (by kernel_rfl) (fun _ _ _ h => h) (by rfl) (fun w hSw => by (try dsimp only at hSw); go_simp; first | done | with_reducible rfl) hp (fun hp => ?_)
        try simp only [Act.put, List.setIfInBounds_toArray, List.set_cons_zero, List.set_cons_succ]
        refine take_ph 7 (i := 14) rfl rfl (by decide) (by kernel_rfl) (by kernel_rfl) (by kernel_rfl) (fun _ _ _ h => h) (by rfl) (fun w hSw => by (try dsimp only at hSw); go_simp; first | done | with_reducible rfl) hp (fun hp => ?_)
        try simp only [Act.put, List.setIfInBounds_toArray, List.set_cons_zero, List.set_cons_succ]
        refine take_ph 8 (i := 15) rfl rfl (by decide) (by kernel_rfl) (by kernel_rfl) (by kernel_rfl) (fun _ _ _ h => h) (by rfl) (fun w hSw => by (try dsimp only at hSw); go_simp; first | done | with_reducible rfl) hp (fun hp => ?_)
        try simp only [Act.put, List.setIfInBounds_toArray, List.set_cons_zero, List.set_cons_succ]
        refine AnyL.done (by kernel_rfl) ?_ _
        clear hp r0 r3 r5
        gi_wp2
        exact ⟨((keeps_of B3.out).trans ((KeepsOthers.setCell _ _ _).from _)).trans ((KeepsOthers.setCell _ _ _).from _), rfl, Hno.out, (box_far (by omega)).trans (box_set G0), box_set ((box_far (by omega)).trans G1), ((hB.trans (B3.out.mono hB.size)).setCell (p := ⟨w.heap.size, 0, none⟩) (Nat.le_refl _) _).setCell (p := ⟨w.heap.size + 1, 0, none⟩) (Nat.le_succ _) _⟩
    · have Hno := Lib.hid (fun m (h : RcT s m) => by
        obtain ⟨_, _, e⟩ := Hfl.out m h
        exact h6 (by rw [e]; rfl))
      have hq6 : ((F.length : Int) == 6) = false := by rw [beq_eq_false_iff_ne]; omega
      clear Hfl Hz h6
      gi_wp2_with (first | (refine ⟨trivial, ?_⟩; gi_at_call 14; refine (CallsIn.inRound lid (callsIn_wide.2 HT.out)).mono ?_; rintro e w1 ⟨rfl, rfl⟩) | (refine ⟨trivial, ?_⟩; gi_at_call 13; refine (CallsIn.inRound lid (callsIn_wide.2 HS.out)).mono ?_; rintro e w2 ⟨v2, rfl, s2, b2⟩; obtain ⟨wa, wc, rfl⟩ : ∃ a c, v2 = .slice a F.length c := (by obtain ⟨a, c, h, -⟩ := s2.1; exact ⟨a, c, h⟩); have G0 := blk_below b2 Hg0.out; have G1 := blk_below b2 Hg1.out; have f0 := Lib.frozen_of_heap G0 0; have f1 := Lib.frozen_of_heap G1 0; have e0 := (Lib.cell_of_heap G0 0).trans rfl; have e1 := (Lib.cell_of_heap G1 0).trans rfl))
      exact ⟨((keeps_of b2).trans ((KeepsOthers.setCell _ _ _).from _)).trans ((KeepsOthers.setCell _ _ _).from _), rfl, Hno.out, (box_far (by omega)).trans (box_set G0), box_set ((box_far (by omega)).trans G1), ((hB.trans (b2.mono hB.size)).setCell (p := ⟨w.heap.size, 0, none⟩) (Nat.le_refl _) _).setCell (p := ⟨w.heap.size + 1, 0, none⟩) (Nat.le_succ _) _⟩
  case done =>
    rintro D W hD ⟨acc, ov, hak, hm, hwf, g0, g1, g2, hown, hB⟩ hK
    rw [hz] at hD
    have hBs := hB.size
    have hlen : acc.length ≤ 1048576 := by rw [hak]; exact Nat.le_trans (spans_len s s.size 0 (by omega)) hs
    obtain ⟨va, vc, rfl⟩ := own_sv hown
    have hsl := (hown.slw Chk.len).1
    have hV := impl_ValidChecks (.slice va acc.length vc) acc _ _ W hsl hlen hwf
    have hT := fun w4 (b4 : Below W.heap.size W w4) => impl_ChecksText (.slice va acc.length vc) acc _ _ w4 (hsl.ext b4) hlen hwf (H10.out.ext (hB.trans (b4.mono hBs)))
    have Hacc : Hid (∀ m, RcT s m → m = acc) := Lib.hid (fun m h => by rw [hm m h, (spans_line h).1, List.take_length])
    have Hown := Lib.hid hown
    have Hg0 := Lib.hid g0
    have Hg1 := Lib.hid g1
    have c2 : W.cell? ⟨w.heap.size + 1 + 1, 0, none⟩ = some (.slice va acc.length vc) := (Lib.cell_of_heap g2 0).trans rfl
    have HK := Lib.hid hK
    have hDlt := (Array.getElem?_eq_some_iff.1 hK).1
    clear hm hwf hown hsl g0 g1 g2 hK hak
    cases hq : chksB acc
    · have Hno : Hid (∀ m, ¬ RcT s m) := Lib.hid (fun m h => by
        have e := Hacc.out m h
        subst e
        have := chksB_t h.1
        rw [hq] at this
        cases this)
      rw [hq] at hV
      have HV := Lib.hid hV
      clear hV hT hq Hacc
      gi_wp2_with (first | (refine ⟨trivial, ?_⟩; gi_at_call 16; refine (callsIn_wide.2 HV.out).mono ?_; rintro e w4 ⟨rfl, b4⟩; have G0 := blk_below b4 Hg0.out; have G1 := blk_below b4 Hg1.out; have f0 := Lib.frozen_of_heap G0 0; have f1 := Lib.frozen_of_heap G1 0; have e0 := (Lib.cell_of_heap G0 0).trans rfl; have e1 := (Lib.cell_of_heap G1 0).trans rfl) | (refine ⟨trivial, ?_⟩))
      have hK' : ((w4.setCell ⟨w.heap.size, 0, none⟩ (.slice none 0 0)).setCell ⟨w.heap.size + 1, 0, none⟩ (.bool false)).heap[D]? = some (.deferred (some [])) := (KeepsOthers.setCell _ _ _).same D _ ((KeepsOthers.setCell _ _ _).same D _ (blk_below b4 HK.out) rfl) rfl
      refine ⟨by simp, .inl ⟨_, _, rfl, run_takeDeferred hK', ?_⟩⟩
      have hg2 := grownBy_putObj' ((w4.setCell ⟨w.heap.size, 0, none⟩ (.slice none 0 0)).setCell ⟨w.heap.size + 1, 0, none⟩ (.bool false)) D (.deferred none)
      have k0 : ((w4.setCell ⟨w.heap.size, 0, none⟩ (.slice none 0 0)).setCell ⟨w.heap.size + 1, 0, none⟩ (.bool false)).cell? ⟨w.heap.size, 0, none⟩ = some (.slice none 0 0) := (Lib.cell_of_heap ((box_far (by omega)).trans (box_set G0)) 0).trans rfl
      have k1 : ((w4.setCell ⟨w.heap.size, 0, none⟩ (.slice none 0 0)).setCell ⟨w.heap.size + 1, 0, none⟩ (.bool false)).cell? ⟨w.heap.size + 1, 0, none⟩ = some (.bool false) := (Lib.cell_of_heap (box_set ((box_far (by omega)).trans G1)) 0).trans rfl
      have hc0 := cell_kept k0 hg2 (fun r e => by cases e; exact ⟨_, hK', rfl⟩)
      have hc1 := cell_kept k1 hg2 (fun r e => by cases e; exact ⟨_, hK', rfl⟩)
      have hBf := (((hB.trans (b4.mono hBs)).setCell (p := ⟨w.heap.size, 0, none⟩) (Nat.le_refl _) (.slice none 0 0)).setCell (p := ⟨w.heap.size + 1, 0, none⟩) (Nat.le_succ _) (.bool false)).trans (belowK_b (w := w) (Nat.le_refl _) _ D _ (.deferred none) (by omega) hK' rfl rfl)
      refine ⟨.tuple #[.slice none 0 0, .bool false], by simp [results, Tryd.results5, go_sem, hc0, hc1], ?_⟩
      exact rd_none Hno.out hBf
    · have HV := Lib.hid (hq ▸ hV)
      have hok := chksB_iff.1 hq
      have htx : chkTxt acc = chkTextB acc := by unfold chkTxt; rw [if_pos hq]
      have Hyes : Hid (chkTxt acc = s → RcT s acc) := Lib.hid (fun h => ⟨hok, by rw [← h, htx]; unfold chkTextB; rfl⟩)
      have Hne : Hid (¬ chkTxt acc = s → ∀ m, ¬ RcT s m) := Lib.hid (fun h m hm => by
        have e := Hacc.out m hm
        subst e
        apply h
        rw [htx]
        apply ba_ext
        rw [← hm.2]
        unfold chkTextB
        rfl)
      have HT := Lib.hid hT
      clear hV hT hq hok htx Hacc
      generalize chkTxt acc = tx at *
      by_cases he : tx = s
      · have Hrc := Lib.hid (Hyes.out he)
        have hq2 := sm_eqN he
        clear he Hyes Hne
        gi_wp2_with (first | (refine ⟨trivial, ?_⟩; gi_at_call 16; refine (callsIn_wide.2 HV.out).mono ?_; rintro e w3 ⟨rfl, b3⟩; have c3 := (b3.cell (p := ⟨w.heap.size + 1 + 1, 0, none⟩) (World.block_lt_of_cell? W _ c2)).trans c2) | (refine ⟨trivial, ?_⟩; gi_at_call 17; refine (callsIn_wide.2 (HT.out _ b3)).mono ?_; rintro e w4 ⟨rfl, b34⟩; have b4 := b3.trans (b34.mono b3.size); have G0 := blk_below b4 Hg0.out; have G1 := blk_below b4 Hg1.out; have f0 := Lib.frozen_of_heap G0 0; have f1 := Lib.frozen_of_heap G1 0; have e0 := (Lib.cell_of_heap G0 0).trans rfl; have e1 := (Lib.cell_of_heap G1 0).trans rfl; have c4 := (b4.cell (p := ⟨w.heap.size + 1 + 1, 0, none⟩) (World.block_lt_of_cell? W _ c2)).trans c2))
        have hK' : ((w4.setCell ⟨w.heap.size, 0, none⟩ (.slice va acc.length vc)).setCell ⟨w.heap.size + 1, 0, none⟩ (.bool true)).heap[D]? = some (.deferred (some [])) := (KeepsOthers.setCell _ _ _).same D _ ((KeepsOthers.setCell _ _ _).same D _ (blk_below b4 HK.out) rfl) rfl
        refine ⟨by simp, .inl ⟨_, _, rfl, run_takeDeferred hK', ?_⟩⟩
        have hg2 := grownBy_putObj' ((w4.setCell ⟨w.heap.size, 0, none⟩ (.slice va acc.length vc)).setCell ⟨w.heap.size + 1, 0, none⟩ (.bool true)) D (.deferred none)
        have k0 : ((w4.setCell ⟨w.heap.size, 0, none⟩ (.slice va acc.length vc)).setCell ⟨w.heap.size + 1, 0, none⟩ (.bool true)).cell? ⟨w.heap.size, 0, none⟩ = some (.slice va acc.length vc) := (Lib.cell_of_heap ((box_far (by omega)).trans (box_set G0)) 0).trans rfl
        have k1 : ((w4.setCell ⟨w.heap.size, 0, none⟩ (.slice va acc.length vc)).setCell ⟨w.heap.size + 1, 0, none⟩ (.bool true)).cell? ⟨w.heap.size + 1, 0, none⟩ = some (.bool true) := (Lib.cell_of_heap (box_set ((box_far (by omega)).trans G1)) 0).trans rfl
        have hc0 := cell_kept k0 hg2 (fun r e => by cases e; exact ⟨_, hK', rfl⟩)
        have hc1 := cell_kept k1 hg2 (fun r e => by cases e; exact ⟨_, hK', rfl⟩)
        have hBf := (((hB.trans (b4.mono hBs)).setCell (p := ⟨w.heap.size, 0, none⟩) (Nat.le_refl _) (.slice va acc.length vc)).setCell (p := ⟨w.heap.size + 1, 0, none⟩) (Nat.le_succ _) (.bool true)).trans (belowK_b (w := w) (Nat.le_refl _) _ D _ (.deferred none) (by omega) hK' rfl rfl)
        refine ⟨.tuple #[.slice va acc.length vc, .bool true], by simp [results, Tryd.results5, go_sem, hc0, hc1], ?_⟩
        refine ⟨acc, true, .inl ⟨rfl, Hrc.out⟩, _, rfl, ?_, hBf⟩
        have ho := own_steady (own_steady (own_steady (Hown.out.below b4) (grown_set w4 w.heap.size 0 (.slice va acc.length vc)) (.inl (by omega))) (grown_set _ (w.heap.size + 1) 0 (.bool true)) (.inl (by omega))) hg2 (.inr ⟨_, hK', rfl⟩)
        exact (ho.slw Chk.len).mono' (Nat.le_add_right _ _)
      · have Hno := Lib.hid (Hne.out he)
        have hq2 := sm_neN he
        clear he Hyes Hne
        gi_wp2_with (first | (refine ⟨trivial, ?_⟩; gi_at_call 16; refine (callsIn_wide.2 HV.out).mono ?_; rintro e w3 ⟨rfl, b3⟩; have c3 := (b3.cell (p := ⟨w.heap.size + 1 + 1, 0, none⟩) (World.block_lt_of_cell? W _ c2)).trans c2) | (refine ⟨trivial, ?_⟩; gi_at_call 17; refine (callsIn_wide.2 (HT.out _ b3)).mono ?_; rintro e w4 ⟨rfl, b34⟩; have b4 := b3.trans (b34.mono b3.size); have G0 := blk_below b4 Hg0.out; have G1 := blk_below b4 Hg1.out; have f0 := Lib.frozen_of_heap G0 0; have f1 := Lib.frozen_of_heap G1 0; have e0 := (Lib.cell_of_heap G0 0).trans rfl; have e1 := (Lib.cell_of_heap G1 0).trans rfl))
        have hK' : ((w4.setCell ⟨w.heap.size, 0, none⟩ (.slice none 0 0)).setCell ⟨w.heap.size + 1, 0, none⟩ (.bool false)).heap[D]? = some (.deferred (some [])) := (KeepsOthers.setCell _ _ _).same D _ ((KeepsOthers.setCell _ _ _).same D _ (blk_below b4 HK.out) rfl) rfl
        refine ⟨by simp, .inl ⟨_, _, rfl, run_takeDeferred hK', ?_⟩⟩
        have hg2 := grownBy_putObj' ((w4.setCell ⟨w.heap.size, 0, none⟩ (.slice none 0 0)).setCell ⟨w.heap.size + 1, 0, none⟩ (.bool false)) D (.deferred none)
        have k0 : ((w4.setCell ⟨w.heap.size, 0, none⟩ (.slice none 0 0)).setCell ⟨w.heap.size + 1, 0, none⟩ (.bool false)).cell? ⟨w.heap.size, 0, none⟩ = some (.slice none 0 0) := (Lib.cell_of_heap ((box_far (by omega)).trans (box_set G0)) 0).trans rfl
        have k1 : ((w4.setCell ⟨w.heap.size, 0, none⟩ (.slice none 0 0)).setCell ⟨w.heap.size + 1, 0, none⟩ (.bool false)).cell? ⟨w.heap.size + 1, 0, none⟩ = some (.bool false) := (Lib.cell_of_heap (box_set ((box_far (by omega)).trans G1)) 0).trans rfl
        have hc0 := cell_kept k0 hg2 (fun r e => by cases e; exact ⟨_, hK', rfl⟩)
        have hc1 := cell_kept k1 hg2 (fun r e => by cases e; exact ⟨_, hK', rfl⟩)
        have hBf := (((hB.trans (b4.mono hBs)).setCell (p := ⟨w.heap.size, 0, none⟩) (Nat.le_refl _) (.slice none 0 0)).setCell (p := ⟨w.heap.size + 1, 0, none⟩) (Nat.le_succ _) (.bool false)).trans (belowK_b (w := w) (Nat.le_refl _) _ D _ (.deferred none) (by omega) hK' rfl rfl)
        refine ⟨.tuple #[.slice none 0 0, .bool false], by simp [results, Tryd.results5, go_sem, hc0, hc1], ?_⟩
        exact rd_none Hno.out hBf
  case stop =>
    rintro D c k W hD hk ⟨rfl, hno, g0, g1, hB⟩ hK
    rw [hz] at hD
    have e0 := (Lib.cell_of_heap g0 0).trans rfl
    have e1 := (Lib.cell_of_heap g1 0).trans rfl
    gi_wp2
    refine ⟨by simp, .inl ⟨_, _, rfl, run_takeDeferred hK, ?_⟩⟩
    have hg2 := grownBy_putObj' W D (.deferred none)
    have hc0 := cell_kept e0 hg2 (fun r e => by cases e; exact ⟨_, hK, rfl⟩)
    have hc1 := cell_kept e1 hg2 (fun r e => by cases e; exact ⟨_, hK, rfl⟩)
    have hBf := hB.trans (belowK_b (w := w) (Nat.le_refl _) _ D _ (.deferred none) (by omega) hK rfl rfl)
    refine ⟨.tuple #[.slice none 0 0, .bool false], ?_, rd_none hno hBf⟩
    simp [results, Tryd.results5, go_sem, hc0, hc1]
end
end Go.Proofs.YtmglcdmccikinaaDoor
