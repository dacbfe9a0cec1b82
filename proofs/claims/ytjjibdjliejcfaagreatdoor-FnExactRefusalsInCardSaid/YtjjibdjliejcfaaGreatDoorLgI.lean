/- The log: the program reads the longest beginning that is a log. -/
import Derived.Test.YtjjibdjliejcfaaGreatDoorLgG
import Derived.Test.YtjjibdjliejcfaaGreatDoorLgH
namespace Go.Proofs.YtjjibdjliejcfaaGreatDoor
section
open Go.RowKit Go.Shelf
attribute [local go_sem] Oper.semAt_some
theorem nextI_step {l : List Sgn} {s : ByteArray} {t u : LgSt} (h : nextL l s t = some u) : StepL l s t u := by
  classical
  unfold nextL at h
  split at h
  · rename_i he
    cases h
    exact he.choose_spec
  · cases h
/-- A line that can be read, from the program's side. -/
theorem step_line {l : List Sgn} {s : ByteArray} {t u : LgSt} (h : StepL l s t u) : ∃ y sg, y.plain ∧ s.extract t.pos (lineEnd s t.pos) = bodyB sg y ++ (⟨#[10]⟩ : ByteArray) ∧ ¬ keyOf l y.who = 0 ∧ t.last ≤ y.second ∧ u = addL l t y ∧ s.extract t.pos (lineEnd s t.pos) = lineB (signE (keyOf l y.who) t.sign y) y ∧ u.pos ≤ s.size := by
  obtain ⟨y, hy, hk, hla, hsg, hp, hl, hla2, hes⟩ := h
  obtain ⟨n1, n2⟩ := nl_line (by rw [hl, lineB_body]) hp (noB_body hy)
  have hle := lineEnd_nl n1
  have hpe : lineEnd s t.pos = u.pos := by omega
  rw [hpe]
  refine ⟨y, u.sign, hy, by rw [hl, lineB_body], hk, hla, ?_, by rw [hl, hsg], hp⟩
  have hsz := congrArg ByteArray.size hl
  rw [ByteArray.size_extract] at hsz
  have hbs := congrArg ByteArray.size (lineB_body u.sign y)
  rw [ByteArray.size_append] at hbs
  have e : (⟨#[10]⟩ : ByteArray).size = 1 := rfl
  obtain ⟨p, q, r, es⟩ := u
  dsimp only at hsg hla2 hes hpe hsz hbs hp hle hl n2
  subst hsg hla2 hes
  have hq : t.pos + (lineB (signE (keyOf l y.who) t.sign y) y).size = p := by omega
  unfold addL
  rw [hq]
theorem step_add {l : List Sgn} {s : ByteArray} {t : LgSt} {y : Ent} (hy : y.plain) (hk : ¬ keyOf l y.who = 0) (hla : t.last ≤ y.second) (ha : t.pos < s.size) (hl : lineB (signE (keyOf l y.who) t.sign y) y = s.extract t.pos (lineEnd s t.pos)) : StepL l s t (addL l t y) ∧ (addL l t y).pos = lineEnd s t.pos := by
  have hbd := lineEnd_bd ha
  have hsz := congrArg ByteArray.size hl
  rw [ByteArray.size_extract] at hsz
  have hp : (addL l t y).pos = lineEnd s t.pos := by
    show t.pos + _ = _
    omega
  refine ⟨⟨y, hy, hk, hla, rfl, by omega, ?_, rfl, rfl⟩, hp⟩
  rw [hp]
  exact hl.symm
theorem suffix_nl (b : ByteArray) : (⟨(Lib.trimSuffix (b ++ (⟨#[10]⟩ : ByteArray)).data.toList (⟨#[10]⟩ : ByteArray).data.toList).toArray⟩ : ByteArray) = b ∧ Lib.hasSuffix (b ++ (⟨#[10]⟩ : ByteArray)).data.toList (⟨#[10]⟩ : ByteArray).data.toList = true := by
  have h1 : (b ++ (⟨#[10]⟩ : ByteArray)).data.toList = b.data.toList ++ [10] := by rw [ByteArray.data_append, Array.toList_append]
  have h2 : (⟨#[10]⟩ : ByteArray).data.toList = [10] := rfl
  rw [h1, h2]
  have h3 : Lib.hasSuffix (b.data.toList ++ [10]) [10] = true := by
    unfold Lib.hasSuffix
    exact List.isSuffixOf_iff_suffix.2 (List.suffix_append _ _)
  refine ⟨?_, h3⟩
  unfold Lib.trimSuffix
  rw [if_pos h3]
  simp
theorem trim_size (s p : ByteArray) : (⟨(Lib.trimSuffix s.data.toList p.data.toList).toArray⟩ : ByteArray).size ≤ s.size := by
  have h : (Lib.trimSuffix s.data.toList p.data.toList).length ≤ s.data.toList.length := by
    unfold Lib.trimSuffix
    split
    · rw [List.length_take]; omega
    · exact Nat.le_refl _
  rw [Array.length_toList] at h
  show (Lib.trimSuffix s.data.toList p.data.toList).toArray.size ≤ s.data.size
  rw [List.size_toArray]
  exact h
/-- What the program's reading of a log returns. -/
def JRes (sa : Option Addr) (l : List Sgn) (cap : Nat) (s : ByteArray) (w : World) (e : Ending) (w' : World) : Prop :=
  ∃ q t, e = .returned (.pointer (some ⟨q, 0, none⟩)) ∧ ReadsTo l s t ∧ w'.cell? ⟨q, 3, none⟩ = some (.int .i64 t.pos) ∧ (t.pos = s.size → ∃ Bo, Bo ≤ w'.heap.size ∧ JBox w.heap.size Bo q sa l.length cap t w') ∧ Below w.heap.size w w'
theorem impl_Lines (s : ByteArray) (w : World) : Calls Tryz.prog 68 #[.string s] w fun e w' => e = .returned (.func (.func 82) #[] #[.pointer (some ⟨w.heap.size, 0, none⟩)]) ∧ w' = w.alloc (.cells #[.string s] 9 (0, 0)) := by
  go_enter Tryz.func68, Tryz.ntmps68
  go_wp2
  go_ret
  exact ⟨rfl, rfl⟩
theorem four_boxes (w : World) (o p q r : Obj) : ∃ W, ((((w.alloc o).alloc p).alloc q).alloc r) = W ∧ W.heap[w.heap.size]? = some o ∧ W.heap[w.heap.size + 1]? = some p ∧ W.heap[w.heap.size + 1 + 1]? = some q ∧ W.heap[w.heap.size + 1 + 1 + 1]? = some r ∧ Below w.heap.size w W ∧ W.heap.size = w.heap.size + 4 := by
  have g : ∀ (w : World) (o : Obj), (w.alloc o).heap[w.heap.size]? = some o := fun w o => Array.getElem?_push_size
  refine ⟨_, rfl, ?_, ?_, ?_, ?_, (((((Below.refl _ _).alloc (Nat.le_refl _) _).alloc (by simp) _).alloc (by simp; omega) _).alloc (by simp; omega) _), by simp⟩
  · rw [Below.heap_alloc _ _ _ (by simp; omega), Below.heap_alloc _ _ _ (by simp; omega), Below.heap_alloc _ _ _ (by simp)]
    exact g w o
  · rw [Below.heap_alloc _ _ _ (by simp), Below.heap_alloc _ _ _ (by simp)]
    have := g (w.alloc o) p
    rwa [World.size_alloc] at this
  · rw [Below.heap_alloc _ _ _ (by simp)]
    have := g ((w.alloc o).alloc p) q
    rwa [World.size_alloc, World.size_alloc] at this
  · have := g (((w.alloc o).alloc p).alloc q) r
    rwa [World.size_alloc, World.size_alloc, World.size_alloc] at this
/-- Between two rounds. -/
def RI (sa : Option Addr) (l : List Sgn) (cap : Nat) (s : ByteArray) (w : World) (k : Nat) (W : World) : Prop :=
  ∃ t, lgN l s k = some t ∧ (spans s 0).drop k = spans s t.pos ∧ t.pos ≤ s.size ∧ JBox w.heap.size (w.heap.size + 4) (w.heap.size + 1) sa l.length cap t W ∧
    W.heap[w.heap.size]? = some (.cells #[.pointer none] 61 (0, 0)) ∧ W.heap[w.heap.size + 1 + 1]? = some (.cells #[.pointer (some ⟨w.heap.size + 1, 0, none⟩)] 61 (0, 0)) ∧ Below w.heap.size w W
/-- Behind a round that has left. -/
def RX (sa : Option Addr) (l : List Sgn) (cap : Nat) (s : ByteArray) (w : World) (c : Code) (_ : Nat) (W : World) : Prop :=
  ∃ t, ReadsTo l s t ∧ t.pos < s.size ∧ Below w.heap.size w W ∧
    ((c = .exit 0 ∧ W.heap[w.heap.size]? = some (.cells #[.pointer none] 61 (0, 0)) ∧ W.heap[w.heap.size + 1 + 1]? = some (.cells #[.pointer (some ⟨w.heap.size + 1, 0, none⟩)] 61 (0, 0)) ∧ ∃ v0, W.heap[w.heap.size + 1]? = some (.cells #[.slice sa l.length cap, v0, .int .i64 t.sign, .int .i64 t.pos] 65 (0, 0))) ∨
      (c = .ret ∧ ∃ q v0, w.heap.size + 4 ≤ q ∧ W.heap[w.heap.size]? = some (.cells #[.pointer (some ⟨q, 0, none⟩)] 61 (0, 0)) ∧ W.heap[q]? = some (.cells #[.slice sa l.length cap, v0, .int .i64 t.sign, .int .i64 t.pos] 65 (0, 0))))
theorem grown_keep {W W' : World} {r k : Nat} {cs : Array Value} {ty : TypeId} {f : Nat × Nat} (hg : W.grownBy W' (some r)) (hk : W.heap[k]? = some (.cells cs ty f)) (hr : r ≠ k ∨ ∃ o, W.heap[r]? = some o ∧ o.isCells = false) : W'.heap[k]? = some (.cells cs ty f) := by
  refine (hg.block k (Array.getElem?_eq_some_iff.1 hk).1 (fun e => ?_)).trans hk
  have e : k = r := Option.some.inj e
  subst e
  rcases hr with h | ⟨o, h1, h2⟩
  · exact h rfl
  · rw [hk] at h1
    cases h1
    cases h2
theorem own_steady {α : Type} {c : α → List Value} {n lo r : Nat} {e : TypeId} {W W' : World} {v : Value} {l : List α} (h : Own n c lo e W v l) (hg : W.grownBy W' (some r)) (hr : r < lo ∨ ∃ o, W.heap[r]? = some o ∧ o.isCells = false) : Own n c lo e W' v l := by
  refine World.ownsRow.kept h hg (.inr (fun hv => ?_))
  obtain ⟨-, h2⟩ := h
  rcases h2 with ⟨rfl, -⟩ | ⟨g, cap, cur, rfl, hb, hgg, -⟩
  · simp [Value.ownBlock] at hv
  · simp [Value.ownBlock] at hv
    subst hv
    rcases hr with h | ⟨o, h1, h2⟩
    · omega
    · rw [hgg] at h1
      cases h1
      cases h2
theorem RI.steady {sa : Option Addr} {l : List Sgn} {cap : Nat} {s : ByteArray} {w : World} : Steady (w.heap.size + 4) (w.heap.size + 1 + 1 + 1) (RI sa l cap s w) := by
  intro k W W' r ⟨t, h1, h2, h3, hj, h4, h5, hb⟩ hg hr
  have key : ∀ q, q < w.heap.size + 1 + 1 + 1 → r ≠ q ∨ ∃ o, W.heap[r]? = some o ∧ o.isCells = false := fun q hq => by
    rcases hr with h | ⟨h, h'⟩
    · exact .inl (by omega)
    · exact .inr h'
  have hr2 : r < w.heap.size + 4 ∨ ∃ o, W.heap[r]? = some o ∧ o.isCells = false := by
    rcases hr with h | ⟨h, h'⟩
    · exact .inl (by omega)
    · exact .inr h'
  obtain ⟨ea, ec, hx, ho⟩ := hj.box
  refine ⟨t, h1, h2, h3, ⟨hj.lo, hj.lob, ⟨ea, ec, grown_keep hg hx (key _ (by omega)), own_steady ho hg hr2⟩, hj.pos, hj.sg, hj.cnt, hj.last⟩, grown_keep hg h4 (key _ (by omega)), grown_keep hg h5 (key _ (by omega)), hb.grown hg hb.size (fun q e => by cases e; rcases hr with h | ⟨h, -⟩ <;> omega)⟩
theorem RX.steady {sa : Option Addr} {l : List Sgn} {cap : Nat} {s : ByteArray} {w : World} (c : Code) : Steady (w.heap.size + 4) (w.heap.size + 1 + 1 + 1) (RX sa l cap s w c) := by
  intro k W W' r ⟨t, h1, h2, hb, hh⟩ hg hr
  have key : ∀ q, q ≠ w.heap.size + 1 + 1 + 1 → r ≠ q ∨ ∃ o, W.heap[r]? = some o ∧ o.isCells = false := fun q hq => by
    rcases hr with h | ⟨h, h'⟩
    · exact .inl (by omega)
    · exact .inr h'
  refine ⟨t, h1, h2, hb.grown hg hb.size (fun q e => by cases e; rcases hr with h | ⟨h, -⟩ <;> omega), ?_⟩
  rcases hh with ⟨hc, h4, h5, v0, h6⟩ | ⟨hc, q, v0, hq, h4, h6⟩
  · exact .inl ⟨hc, grown_keep hg h4 (key _ (by omega)), grown_keep hg h5 (key _ (by omega)), v0, grown_keep hg h6 (key _ (by omega))⟩
  · exact .inr ⟨hc, q, v0, hq, grown_keep hg h4 (key _ (by omega)), grown_keep hg h6 (key _ (by omega))⟩
theorem grown_set (W : World) (b j : Nat) (u : Value) : W.grownBy (W.setCell ⟨b, j, none⟩ u) (some b) := ⟨rfl, rfl, rfl, by simp [World.setCell], fun q _ hq => Below.heap_setCell _ _ _ _ (fun e => hq (by rw [e]))⟩
theorem JBox.keep {B Bo p r : Nat} {sa : Option Addr} {n cap : Nat} {t : LgSt} {W W' : World} (h : JBox B Bo p sa n cap t W) (hg : W.grownBy W' (some r)) (hp : r ≠ p ∨ ∃ o, W.heap[r]? = some o ∧ o.isCells = false) (hr : r < Bo ∨ ∃ o, W.heap[r]? = some o ∧ o.isCells = false) : JBox B Bo p sa n cap t W' := by
  obtain ⟨ea, ec, hx, ho⟩ := h.box
  exact ⟨h.lo, h.lob, ⟨ea, ec, grown_keep hg hx hp, own_steady ho hg hr⟩, h.pos, h.sg, h.cnt, h.last⟩
theorem keeps_of {B : Nat} {w w' : World} (h : Below w.heap.size w w') : KeepsFrom B w w' := ⟨h.size, fun k _ _ hk _ => (h.block k (Array.getElem?_eq_some_iff.1 hk).1).trans hk⟩
theorem Fr.keeps {B Bo p : Nat} {w w' : World} (h : Fr Bo p w w') (hz : w.heap.size ≤ w'.heap.size) (hp : ∃ o, w.heap[p]? = some o ∧ o.isCells = true) : KeepsFrom B w w' :=
  ⟨hz, fun k o _ hk ho => h k o hk (fun e => by
    subst e
    obtain ⟨o', h1, h2⟩ := hp
    rw [hk] at h1
    cases h1
    rw [ho] at h2
    cases h2) (.inr (fun cs f e => by subst e; cases ho))⟩
theorem blk_new2 (w : World) (o o2 : Obj) : ((w.alloc o).alloc o2).heap[w.heap.size + 1]? = some o2 := by
  have h : ((w.alloc o).alloc o2).heap[(w.alloc o).heap.size]? = some o2 := Array.getElem?_push_size
  rwa [World.size_alloc] at h
set_option maxRecDepth 100000 in
set_option maxHeartbeats 8000000 in
theorem impl_ReadLog (sa : Option Addr) (l : List Sgn) (cap lo hi : Nat) (s : ByteArray) (w : World) (hl : Sgns lo hi w (.slice sa l.length cap) l) (_hhi : hi ≤ w.heap.size) (hok : sgnsOk l) (hs : s.size ≤ 4000) (hm : ML w) (h10 : P10 w) (hev : EV w) :
    Calls Tryz.prog 53 #[.slice sa l.length cap, .string s] w (JRes sa l cap s w) := by
  refine (callsIn_wide (n := 4)).1 ?_
  have HA := Lib.hid (fun w' => impl_Lines s w')
  refine callsIn_of_wp_marks Tryz.func53 rfl trivial ?_ rfl
  simp only [Tryz.ntmps53, List.size_toArray, List.length_cons, List.length_nil, Nat.reduceAdd, Nat.reduceSub, Array.replicate_succ, Array.replicate_zero, List.push_toArray, List.append_toArray, List.nil_append, List.cons_append]
  gi_wp2_with (refine ⟨trivial, ?_⟩; gi_at_call 68; refine (callsIn_wide.2 (HA.out _)).mono ?_; rintro e w' ⟨rfl, rfl⟩)
  obtain ⟨WL, hWL, l0, l1, l2, l3, hB0, hz⟩ := four_boxes w (.cells #[.pointer none] 61) (.cells #[.slice sa l.length cap, .slice none 0 0, .int .i64 0, .int .i64 0] 65) (.cells #[.pointer (some ⟨w.heap.size + 1, 0, none⟩)] 61) (.cells #[.string s] 9)
  rw [hWL]
  clear hWL HA
  have hI0 : RI sa l cap s w 0 WL := ⟨lg0, rfl, rfl, Nat.zero_le _, ⟨by omega, by omega, ⟨none, 0, l1, own_nil _ _ _⟩, Nat.zero_le _, ⟨Int.le_refl _, (by decide : (0 : Int) ≤ 65520)⟩, Nat.le_refl _, .inl ⟨rfl, rfl⟩⟩, l0, l2, hB0⟩
  have HY := Lib.hid (lines_yields 3 (by omega) (w.heap.size + 1 + 1 + 1) s WL (by omega) l3)
  have Hl := Lib.hid hl
  have Hok := Lib.hid hok
  have Hm := Lib.hid hm
  have H10 := Lib.hid h10
  have Hev := Lib.hid hev
  clear hl hok hm h10 hev l0 l1 l2 l3
  refine wpIn_yields rfl (by omega) (gf := 82) (lb := #[.pointer (some ⟨w.heap.size + 1 + 1 + 1, 0, none⟩)]) rfl trivial (enters_of Tryz.func82 (by kernel_rfl) rfl) HY.out (Below.refl _ _) (by omega)
    (RI sa l cap s w) (RX sa l cap s w) (by rw [hz]; exact RI.steady) (fun c => by rw [hz]; exact RX.steady c) hI0
    (fun x => { tmps := #[.slice sa l.length cap, .string s, undef, undef, .pointer (some ⟨w.heap.size, 0, none⟩), .pointer (some ⟨w.heap.size + 1 + 1, 0, none⟩), lineV s x, undef, undef, undef, undef, undef, undef, undef, .slice sa l.length cap, .agg #[.slice sa l.length cap, .slice none 0 0, .int .i64 0, .int .i64 0], .pointer (some ⟨w.heap.size + 1, 0, none⟩), .string s, .func (.func 82) #[] #[.pointer (some ⟨w.heap.size + 1 + 1 + 1, 0, none⟩)], lineV s x, undef, undef, undef, undef, undef, undef, undef, undef, undef, undef, undef, undef, undef, undef, undef, undef, undef, undef, undef, undef, undef, undef, undef, undef, undef, undef, undef, undef, undef, undef, undef, undef, undef], defers := [] }) ?assign ?body ?done ?stop
  case assign =>
    intro l x W K hK
    gi_wp2
    first | exact hK | simpa using hK
  case body =>
    rw [hz]
    rintro lid k hk W hWz ⟨t, hn, hd, hp, hj, hr, hv, hB⟩
    have hlt : t.pos < s.size := by
      apply Nat.lt_of_not_le
      intro hle
      rw [spans_end (s := s) (a := t.pos) (by omega)] at hd
      have := List.drop_eq_nil_iff.1 hd
      omega
    obtain ⟨hk1, hat, hd1⟩ := spans_at hlt hd
    have hbd := lineEnd_bd hlt
    have hsl : (s.extract t.pos (lineEnd s t.pos)).size ≤ 4000 := by rw [ByteArray.size_extract]; omega
    rw [hat]
    simp only [lineV]
    have HC := Lib.hid ((Tryz.strings_CutSuffix (s.extract t.pos (lineEnd s t.pos)) ⟨#[10]⟩ W (by omega)).mono (fun e w' h => (⟨h.1, h.2.symm⟩ : e = _ ∧ W = w')))
    have htr := trim_size (s.extract t.pos (lineEnd s t.pos)) ⟨#[10]⟩
    have Hsuf : Hid (∀ b, s.extract t.pos (lineEnd s t.pos) = b ++ (⟨#[10]⟩ : ByteArray) → (⟨(Lib.trimSuffix (s.extract t.pos (lineEnd s t.pos)).data.toList (⟨#[10]⟩ : ByteArray).data.toList).toArray⟩ : ByteArray) = b ∧ Lib.hasSuffix (s.extract t.pos (lineEnd s t.pos)).data.toList (⟨#[10]⟩ : ByteArray).data.toList = true) := Lib.hid (fun b h => by rw [h]; exact suffix_nl b)
    have Hstep : Hid (∀ u, StepL l s t u → ∃ y sg, y.plain ∧ s.extract t.pos (lineEnd s t.pos) = bodyB sg y ++ (⟨#[10]⟩ : ByteArray) ∧ ¬ keyOf l y.who = 0 ∧ t.last ≤ y.second ∧ u = addL l t y ∧ s.extract t.pos (lineEnd s t.pos) = lineB (signE (keyOf l y.who) t.sign y) y ∧ u.pos ≤ s.size) := Lib.hid (fun u h => step_line h)
    have Hadd : Hid (∀ y : Ent, y.plain → ¬ keyOf l y.who = 0 → t.last ≤ y.second → lineB (signE (keyOf l y.who) t.sign y) y = s.extract t.pos (lineEnd s t.pos) → StepL l s t (addL l t y) ∧ (addL l t y).pos = lineEnd s t.pos) := Lib.hid (fun y h1 h2 h3 h4 => step_add h1 h2 h3 hlt h4)
    generalize (⟨(Lib.trimSuffix (s.extract t.pos (lineEnd s t.pos)).data.toList (⟨#[10]⟩ : ByteArray).data.toList).toArray⟩ : ByteArray) = bd at *
    generalize Lib.hasSuffix (s.extract t.pos (lineEnd s t.pos)).data.toList (⟨#[10]⟩ : ByteArray).data.toList = wh at *
    generalize s.extract t.pos (lineEnd s t.pos) = ln at *
    have HE := Lib.hid (impl_EntryOf bd W (by omega) (Hm.out.ext hB) (H10.out.ext hB) (Hev.out.ext hB))
    have Hhd := Lib.hid hd
    have Hhat := Lib.hid hat
    have Hd1 := Lib.hid hd1
    have Hn := Lib.hid hn
    have Hj := Lib.hid hj
    have Hr0 := Lib.hid hr
    have Hv0 := Lib.hid hv
    clear hd hat hd1 hn hj hr hv
    gi_wp2_with (refine ⟨trivial, ?_⟩; gi_at_call 69; refine (CallsIn.inRound lid (callsIn_wide.2 HC.out)).mono ?_; rintro e w1 ⟨rfl, rfl⟩)
    refine ⟨trivial, ?_⟩
    refine (CallsIn.inRound lid (callsIn_wide.2 HE.out)).mono ?_
    rintro e w1 ⟨⟨x0, x1, x2⟩, ok, rfl, hx, hcomp, b1⟩
    simp only [Ent.cells]
    have Hcomp := Lib.hid hcomp
    have Hx := Lib.hid hx
    clear hcomp hx HC HE
    have hb2 : Below W.heap.size W (w1.alloc (.cells #[.int .i64 x0, .string x1, .string x2] 48)) := b1.trans (((Below.refl _ _).alloc (Nat.le_refl _) _).mono b1.size)
    have Hb2 := Lib.hid hb2
    have hsz2 := hb2.size
    by_cases hwo : wh = true ∧ ok = true
    · obtain ⟨rfl, rfl⟩ := hwo
      clear hb2
      have hb3 : Below W.heap.size W ((w1.alloc (.cells #[.int .i64 x0, .string x1, .string x2] 48)).alloc (.cells #[.slice sa l.length cap, .slice none 0 0, .int .i64 t.sign, .int .i64 t.pos] 65)) := Hb2.out.trans (((Below.refl _ _).alloc (Nat.le_refl _) _).mono hsz2)
      obtain ⟨ja, jc, hjb, -⟩ := (Hj.out.ext Hb2.out).box
      have hvb := (Hb2.out.block _ (Array.getElem?_eq_some_iff.1 Hv0.out).1).trans Hv0.out
      have c0 := (Lib.cell_of_heap hjb 0).trans rfl
      have c1 := (Lib.cell_of_heap hjb 1).trans rfl
      have c2 := (Lib.cell_of_heap hjb 2).trans rfl
      have c3 := (Lib.cell_of_heap hjb 3).trans rfl
      have cv := (Lib.cell_of_heap hvb 0).trans rfl
      clear hjb hvb hb3
      have hw4 : w.heap.size + 4 ≤ w1.heap.size := Nat.le_trans hWz b1.size
      have v1 : w.heap.size + 1 + 1 < w1.heap.size := by omega
      have v2 : w.heap.size + 1 + 1 < w1.heap.size + 1 := by omega
      gi_wp2
      have b2 : Below W.heap.size W ((w1.alloc (.cells #[.int .i64 x0, .string x1, .string x2] 48)).alloc (.cells #[.slice sa l.length cap, .slice ja t.es.length jc, .int .i64 t.sign, .int .i64 t.pos] 65)) := Hb2.out.trans (((Below.refl _ _).alloc (Nat.le_refl _) _).mono hsz2)
      have hq2 := blk_new2 w1 (.cells #[.int .i64 x0, .string x1, .string x2] 48) (.cells #[.slice sa l.length cap, .slice ja t.es.length jc, .int .i64 t.sign, .int .i64 t.pos] 65)
      obtain ⟨W2, hW2⟩ : ∃ W2, (w1.alloc (.cells #[.int .i64 x0, .string x1, .string x2] 48)).alloc (.cells #[.slice sa l.length cap, .slice ja t.es.length jc, .int .i64 t.sign, .int .i64 t.pos] 65) = W2 := ⟨_, rfl⟩
      rw [hW2] at b2 hq2 ⊢
      have hBW := hB.trans (b2.mono hB.size)
      have hT := impl_Take w.heap.size (w.heap.size + 4) (w.heap.size + 1) sa l cap lo hi t ⟨x0, x1, x2⟩ W2 (Hj.out.ext b2) (Hl.out.ext hBW) (Nat.le_trans hWz b2.size) Hok.out Hx.out (H10.out.ext hBW)
      refine ⟨trivial, ?_⟩
      refine (CallsIn.inRound lid (callsIn_wide.2 hT)).mono ?_
      rintro e w3 ⟨c, hc, hb3, hF, hcase⟩
      have bl : ∀ q o, W.heap[q]? = some o → W2.heap[q]? = some o := fun q o h => (b2.block q (Array.getElem?_eq_some_iff.1 h).1).trans h
      have hv3 := hF _ _ (bl _ _ Hv0.out) (by omega) (.inl (by omega))
      have hr3 := hF _ _ (bl _ _ Hr0.out) (by omega) (.inl (by omega))
      have hq3 := hF _ _ hq2 (by omega) (.inr (fun cs f e => by injection e with _ e2; exact absurd e2 (by decide)))
      have hsb : w3.heap[w.heap.size + 1 + 1 + 1]? = W.heap[w.heap.size + 1 + 1 + 1]? := by
        have hlt3 : w.heap.size + 1 + 1 + 1 < W.heap.size := by omega
        have h4 : W.heap[w.heap.size + 1 + 1 + 1]? = some W.heap[w.heap.size + 1 + 1 + 1] := Array.getElem?_eq_getElem hlt3
        rw [h4]
        exact hF _ _ (bl _ _ h4) (by omega) (.inl (by omega))
      obtain ⟨ja2, jc2, hjb2, -⟩ := (Hj.out.ext b2).box
      have hkf : KeepsFrom (w.heap.size + 4) W w3 := (keeps_of b2).trans (hF.keeps hb3.size ⟨_, hjb2, rfl⟩)
      have hB3 := hBW.trans hb3
      have cr3 := (Lib.cell_of_heap hr3 0).trans rfl
      have fr3 : ∀ j, w3.frozen? ⟨w.heap.size, j, none⟩ = false := fun j => Lib.frozen_of_heap hr3 j
      have Hkf := Lib.hid hkf
      have HB3 := Lib.hid hB3
      have Hsb := Lib.hid hsb
      have Hr3 := Lib.hid hr3
      have Hv3 := Lib.hid hv3
      have Hq3 := Lib.hid hq3
      have Hc := Lib.hid hc
      have hret : ∀ (_ : ReadsTo l s t), RX sa l cap s w .ret k (w3.setCell ⟨w.heap.size, 0, none⟩ (.pointer (some ⟨w1.heap.size + 1, 0, none⟩))) ∧ KeepsFrom (w.heap.size + 4) W (w3.setCell ⟨w.heap.size, 0, none⟩ (.pointer (some ⟨w1.heap.size + 1, 0, none⟩))) := fun hrd => by
        refine ⟨⟨t, hrd, hlt, HB3.out.setCell (p := ⟨w.heap.size, 0, none⟩) (Nat.le_refl _) _, .inr ⟨rfl, w1.heap.size + 1, _, by omega, ?_, (Below.heap_setCell _ _ _ _ (by simp only []; omega)).trans Hq3.out⟩⟩, Hkf.out.trans ((KeepsOthers.setCell _ _ _).from _)⟩
        have := Hr3.out
        simp [World.setCell, Array.getElem?_modify, this]
      have Hret := Lib.hid hret
      clear hkf hB3 hsb hr3 hv3 hq3 hc hret hb3 hF bl b2 hq2 hT c0 c1 c2 c3 cv
      rcases hcase with ⟨rfl, rfl, hj3⟩ | ⟨hc0, hj3, -, q, hq, rfl, hqx⟩
      · have Hj3 := Lib.hid hj3
        clear hj3
        have hplain : (⟨x0, x1, x2⟩ : Ent).plain ∧ ¬ keyOf l x1 = 0 ∧ t.last ≤ x0 := by
          rcases Hc.out with ⟨-, h⟩ | ⟨-, -, h⟩ | ⟨-, -, -, h⟩ | ⟨-, -, -, -, h⟩ | ⟨h1, h2, h3, -, -⟩
          · exact absurd h (by decide)
          · exact absurd h (by decide)
          · exact absurd h (by decide)
          · exact absurd h (by decide)
          · exact ⟨h1, h2, h3⟩
        have Hpl := Lib.hid hplain
        clear hplain
        have Hyes := Lib.hid (fun h => Hadd.out ⟨x0, x1, x2⟩ Hpl.out.1 Hpl.out.2.1 Hpl.out.2.2 h)
        have Hnn : Hid (¬ lineB (signE (keyOf l x1) t.sign ⟨x0, x1, x2⟩) ⟨x0, x1, x2⟩ = ln → nextL l s t = none) := Lib.hid (fun h => nextL_none (fun u hu => by
          obtain ⟨y, sg, hy, hl, -, -, -, hl2, -⟩ := Hstep.out u hu
          obtain ⟨rfl, -⟩ := Hsuf.out _ hl
          obtain ⟨hxy, -⟩ := Hcomp.out sg y hy rfl
          subst hxy
          exact h hl2.symm))
        dsimp only at Hyes ⊢
        generalize hown : lineB (signE (keyOf l x1) t.sign ⟨x0, x1, x2⟩) ⟨x0, x1, x2⟩ = own at Hyes Hnn ⊢
        clear hown
        by_cases ho : own = ln
        · obtain ⟨hst, hpos⟩ := Hyes.out ho
          have Hst := Lib.hid hst
          have Hpos := Lib.hid hpos
          have hq := sm_eqN ho
          clear hst hpos ho
          gi_wp2
          refine ⟨Hkf.out, Hsb.out, addL l t ⟨x0, x1, x2⟩, ?_, ?_, ?_, Hj3.out, Hr3.out, Hv3.out, HB3.out⟩
          · rw [lgN, Hn.out]
            exact nextL_some Hst.out
          · rw [Hpos.out]
            exact Hd1.out
          · rw [Hpos.out]
            exact hbd.2
        · have Hrd := Lib.hid (show ReadsTo l s t from ⟨k, Hn.out, Hnn.out ho⟩)
          have hq := sm_neN ho
          clear ho
          gi_wp2
          exact ⟨(Hret.out Hrd.out).2, (Hret.out Hrd.out).1⟩
      · have hnx : nextL l s t = none := nextL_none (fun u hu => by
          obtain ⟨y, sg, hy, hl, hky, hla, rfl, hl2, hps⟩ := Hstep.out u hu
          obtain ⟨rfl, -⟩ := Hsuf.out _ hl
          obtain ⟨hxy, -⟩ := Hcomp.out sg y hy rfl
          subst hxy
          rcases Hc.out with ⟨h, -⟩ | ⟨-, h, -⟩ | ⟨-, -, h, -⟩ | ⟨-, -, -, h, -⟩ | ⟨-, -, -, -, h⟩
          · exact h hy
          · exact hky h
          · omega
          · omega
          · exact hc0 h)
        have Hrd := Lib.hid (show ReadsTo l s t from ⟨k, Hn.out, hnx⟩)
        clear hnx hqx hj3
        gi_wp2
        exact ⟨(Hret.out Hrd.out).2, (Hret.out Hrd.out).1⟩
    · have hnx : nextL l s t = none := nextL_none (fun u hu => by
        obtain ⟨y, sg, hy, hl, -⟩ := Hstep.out u hu
        obtain ⟨rfl, rfl⟩ := Hsuf.out _ hl
        exact hwo ⟨rfl, (Hcomp.out sg y hy rfl).2⟩)
      have Hr := Lib.hid (show ReadsTo l s t from ⟨k, Hn.out, hnx⟩)
      clear hnx hb2
      have fin : ∀ a, leftBy (w.heap.size + 1 + 1 + 1) (w.heap.size + 4) (RI sa l cap s w) (RX sa l cap s w) k W (.exit 0) a (w1.alloc (.cells #[.int .i64 x0, .string x1, .string x2] 48)) := by
        intro a
        obtain ⟨ja, jc, hjb, -⟩ := Hj.out.box
        have bl : ∀ q o, W.heap[q]? = some o → (w1.alloc (.cells #[.int .i64 x0, .string x1, .string x2] 48)).heap[q]? = some o := fun q o h => (Hb2.out.block q (Array.getElem?_eq_some_iff.1 h).1).trans h
        exact ⟨keeps_of Hb2.out, t, Hr.out, hlt, hB.trans (Hb2.out.mono hB.size), .inl ⟨rfl, bl _ _ Hr0.out, bl _ _ Hv0.out, _, bl _ _ hjb⟩⟩
      have Hfin := Lib.hid fin
      clear fin
      cases wh
      · gi_wp2
        exact Hfin.out _
      · cases ok
        · gi_wp2
          exact Hfin.out _
        · exact absurd ⟨rfl, rfl⟩ hwo
  case done =>
    rintro D W hD ⟨t, hn, hd, hp, hj, hr, hv, hB⟩ hK
    rw [hz] at hD
    have hpe : t.pos = s.size := by
      apply Nat.le_antisymm hp
      apply Nat.le_of_not_lt
      intro hlt
      rw [List.drop_length, spans_go hlt] at hd
      cases hd
    have Hrd := Lib.hid (show ReadsTo l s t from ⟨_, hn, nextL_none (step_none (fun i hi => by obtain ⟨h1, h2, -⟩ := hi; omega))⟩)
    obtain ⟨ja, jc, hjb, -⟩ := hj.box
    have c3 : W.cell? ⟨w.heap.size + 1, 3, none⟩ = some (.int .i64 t.pos) := (Lib.cell_of_heap hjb 3).trans rfl
    have cv := (Lib.cell_of_heap hv 0).trans rfl
    have cr := (Lib.cell_of_heap hr 0).trans rfl
    have fr : ∀ j, W.frozen? ⟨w.heap.size, j, none⟩ = false := fun j => Lib.frozen_of_heap hr j
    have Hj := Lib.hid hj
    have Hr := Lib.hid hr
    clear hn hd hj hr hv hjb
    have hK' := (KeepsOthers.setCell W ⟨w.heap.size, 0, none⟩ (.pointer (some ⟨w.heap.size + 1, 0, none⟩))).same D _ hK rfl
    gi_wp2
    refine ⟨by simp, .inl ⟨_, _, rfl, run_takeDeferred hK', ?_⟩⟩
    have hg1 : W.grownBy (W.setCell ⟨w.heap.size, 0, none⟩ (.pointer (some ⟨w.heap.size + 1, 0, none⟩))) (some w.heap.size) := grown_set _ _ _ _
    have hg2 := grownBy_putObj' (W.setCell ⟨w.heap.size, 0, none⟩ (.pointer (some ⟨w.heap.size + 1, 0, none⟩))) D (.deferred none)
    have hc5 := cell_kept (World.cell?_setCell_same' W ⟨w.heap.size, 0, none⟩ (.pointer (some ⟨w.heap.size + 1, 0, none⟩)) (by rw [cr]; rfl)) hg2 (fun r e => by cases e; exact ⟨_, hK', rfl⟩)
    have hj6 := (Hj.out.keep hg1 (.inl (by omega)) (.inl (by omega))).keep hg2 (.inr ⟨_, hK', rfl⟩) (.inr ⟨_, hK', rfl⟩)
    have hBf := (hB.setCell (p := ⟨w.heap.size, 0, none⟩) (Nat.le_refl _) (.pointer (some ⟨w.heap.size + 1, 0, none⟩))).trans (belowK_b (w := w) (Nat.le_refl _) _ D _ (.deferred none) (by omega) hK' rfl rfl)
    obtain ⟨ja2, jc2, hjb2, -⟩ := hj6.box
    refine ⟨.pointer (some ⟨w.heap.size + 1, 0, none⟩), ?_, w.heap.size + 1, t, rfl, Hrd.out, (Lib.cell_of_heap hjb2 3).trans rfl, fun _ => ⟨w.heap.size + 4, ?_, hj6⟩, hBf⟩
    · simp [results, Tryz.results53, go_sem, hc5]
    · have := (Array.getElem?_eq_some_iff.1 hK').1
      simp at this ⊢
      omega
  case stop =>
    rintro D c k W hD hk ⟨t, hrd, hlt, hB, hh⟩ hK
    rw [hz] at hD
    have Hrd := Lib.hid hrd
    clear hrd
    rcases hh with ⟨rfl, hr, hv, v0, hjb⟩ | ⟨rfl, q, v0, hq, hr, hjb⟩
    · have cv := (Lib.cell_of_heap hv 0).trans rfl
      have cr := (Lib.cell_of_heap hr 0).trans rfl
      have fr : ∀ j, W.frozen? ⟨w.heap.size, j, none⟩ = false := fun j => Lib.frozen_of_heap hr j
      have Hjb := Lib.hid hjb
      clear hr hv hjb
      have hK' := (KeepsOthers.setCell W ⟨w.heap.size, 0, none⟩ (.pointer (some ⟨w.heap.size + 1, 0, none⟩))).same D _ hK rfl
      gi_wp2
      refine ⟨by simp, .inl ⟨_, _, rfl, run_takeDeferred hK', ?_⟩⟩
      have hg1 : W.grownBy (W.setCell ⟨w.heap.size, 0, none⟩ (.pointer (some ⟨w.heap.size + 1, 0, none⟩))) (some w.heap.size) := grown_set _ _ _ _
      have hg2 := grownBy_putObj' (W.setCell ⟨w.heap.size, 0, none⟩ (.pointer (some ⟨w.heap.size + 1, 0, none⟩))) D (.deferred none)
      have hc5 := cell_kept (World.cell?_setCell_same' W ⟨w.heap.size, 0, none⟩ (.pointer (some ⟨w.heap.size + 1, 0, none⟩)) (by rw [cr]; rfl)) hg2 (fun r e => by cases e; exact ⟨_, hK', rfl⟩)
      have hjb2 := grown_keep hg2 (grown_keep hg1 Hjb.out (.inl (by omega))) (.inr ⟨_, hK', rfl⟩)
      have hBf := (hB.setCell (p := ⟨w.heap.size, 0, none⟩) (Nat.le_refl _) (.pointer (some ⟨w.heap.size + 1, 0, none⟩))).trans (belowK_b (w := w) (Nat.le_refl _) _ D _ (.deferred none) (by omega) hK' rfl rfl)
      refine ⟨.pointer (some ⟨w.heap.size + 1, 0, none⟩), ?_, w.heap.size + 1, t, rfl, Hrd.out, (Lib.cell_of_heap hjb2 3).trans rfl, fun h => by omega, hBf⟩
      simp [results, Tryz.results53, go_sem, hc5]
    · have cr := (Lib.cell_of_heap hr 0).trans rfl
      gi_wp2
      refine ⟨by simp, .inl ⟨_, _, rfl, run_takeDeferred hK, ?_⟩⟩
      have hg2 := grownBy_putObj' W D (.deferred none)
      have hc5 := cell_kept cr hg2 (fun r e => by cases e; exact ⟨_, hK, rfl⟩)
      have hjb2 := grown_keep hg2 hjb (.inr ⟨_, hK, rfl⟩)
      have hBf := hB.trans (belowK_b (w := w) (Nat.le_refl _) _ D _ (.deferred none) (by omega) hK rfl rfl)
      refine ⟨.pointer (some ⟨q, 0, none⟩), ?_, q, t, rfl, Hrd.out, (Lib.cell_of_heap hjb2 3).trans rfl, fun h => by omega, hBf⟩
      simp [results, Tryz.results53, go_sem, hc5]
end
end Go.Proofs.YtjjibdjliejcfaaGreatDoor
