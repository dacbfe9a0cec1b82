/- Site: its reading, and the laws' helpers. -/
import Derived.Test.YtimggihbldeleaaTCranetoS
import Derived.Test.YtimggihbldeleaaTCraneszS
import Derived.Test.YtimggihbldeleaaTCraneeqS
namespace Go.Proofs.Ytimggihbldeleaa
open Go.RowKit Go.WideShapes Go.ChangeShapes Go.Deep
abbrev SiteL := List (CraneF × List Chs)
def SiteL.wf (L : SiteL) : Prop := ∀ x ∈ L, x.1.wf ∧ ∀ y ∈ x.2, y.wf
def SiteL.cost (L : SiteL) : Nat := L.length + totN (fun f : CraneF => f.name.size) L
theorem cellsOf_Site : Try.prog.cellsOf 37 = 1 := by kernel_rfl
theorem cellsOf_SCrane : Try.prog.cellsOf 35 = 1 := by kernel_rfl
set_option maxRecDepth 100000 in
theorem open_Site {H : Type} {enc : TypeId × Value → H} {W : World} {base : Nat} {spare : Nat → Bool} {held : Bool} (fuel : Nat) (cs : List Value) (y : DataW H × List MemPlace) (hy : DataW.trod enc Try.prog W base spare held fuel 37 cs = some y) :
    ∃ L : SiteL, (∃ s : SV, cs = one s ∧ ∃ rs, Cranes 0 W.heap.size W s.v rs L) ∧ L.wf := by
  obtain ⟨xs, n, rfl, rfl, hl, hxs, hf⟩ := DataW.trod_struct Try.underlying37 hy
  rw [cellsOf_Site] at hl
  have hxs' : xs.length = 1 := hxs
  have hy2 := field_sub (i := 0) (by omega) (hf 0 _ rfl)
  obtain ⟨s, hs⟩ : ∃ s : SV, (cs.drop 0).take (Try.prog.cellsOf 35) = one s := by
    rcases open_slice Try.underlying35 hy2 with ⟨hcs, _⟩ | ⟨a, len, cap, m, _, D, Pl, hcs, _⟩
    · exact ⟨⟨none, 0, 0⟩, hcs⟩
    · exact ⟨⟨some a, len, cap⟩, hcs⟩
  have hy3 : DataW.trod enc Try.prog W base spare held n 35 (one s) = _ := hs ▸ hy2
  obtain ⟨L, hL, hw⟩ := open_SCrane' (v := s.v) ⟨n, hy3⟩ ⟨s.a, s.len, s.cap, rfl⟩
  refine ⟨L, ⟨s, ?_, hL⟩, hw⟩
  rw [cellsOf_SCrane, List.drop_zero, List.take_of_length_le (by omega)] at hs
  exact hs
set_option maxRecDepth 100000 in
theorem open_ASite {H : Type} {enc : TypeId × Value → H} {W : World} {base : Nat} {v : Value} {d : DataW H} {p : List MemPlace} (hv : Value.okWide Try.prog W .any base 37 v)
    (h : DataW.Trod enc Try.prog W 0 (fun _ => true) true 37 v d p) (_hlt : ∀ x ∈ p, x.block < W.heap.size) : ∃ L : SiteL, (∃ s : SV, v = .agg #[s.v] ∧ ∃ rs, Cranes 0 W.heap.size W s.v rs L) ∧ L.wf := by
  obtain ⟨cs, rfl, _⟩ := okWide_struct Try.underlying37 hv
  obtain ⟨fuel, hf⟩ := h
  obtain ⟨L, ⟨s, hs, hr⟩, hw⟩ := open_Site fuel _ _ hf
  refine ⟨L, ⟨s, ?_, hr⟩, hw⟩
  have h1 : cs = (one s).toArray := by rw [← hs]; simp [Value.cells]
  rw [h1]; rfl
/-- What copying a site returns. -/
def ToSite (L : SiteL) (w : World) (e : Ending) (w' : World) : Prop := ∃ (s : SV) (rs : List CraneR), e = .returned (.agg #[s.v]) ∧ CraneW w.heap.size w'.heap.size w' s.v rs L ∧ Below w.heap.size w w'
set_option maxRecDepth 100000 in
set_option maxHeartbeats 4000000 in
theorem law_toSite (s : SV) (rs : List CraneR) (L : SiteL) (lo hi : Nat) (w : World) (h : Cranes lo hi w s.v rs L) (hn : L.cost ≤ 1048576) : Calls Try.prog 31 #[.agg #[s.v]] w (ToSite L w) := by
  have HT := Lib.hid (fun w' (hb : Below w.heap.size w w') => law_toCraneS s.v rs L lo hi w' (h.ext hb) hn)
  clear h hn
  obtain ⟨sa, sl, sc⟩ := s
  simp only [SV.v] at *
  go_enter Try.func31, Try.ntmps31
  go_wp2_with fail
  refine (HT.out _ ?hb).mono ?_
  case hb => go_grown
  rintro e w1 ⟨v', rs', rfl, hs, hb1⟩
  have q1 := (bcell hb1).1
  have f1 := (bcell hb1).2
  have zb1 : w.heap.size + 1 < w1.heap.size := Nat.lt_of_lt_of_le (by first | omega | (simp; omega) | simp) hb1.size
  have zc1 : w.heap.size + 1 + 1 < w1.heap.size := Nat.lt_of_lt_of_le (by first | omega | (simp; omega) | simp) hb1.size
  have b1 : Below w.heap.size w w1 := Below.trans (by go_grown) (hb1.mono (by first | omega | (simp; omega) | simp))
  obtain ⟨va, vc, rfl⟩ : ∃ va vc, v' = .slice va rs'.length vc := by obtain ⟨⟨⟨a, cap, h, _⟩, _⟩, _⟩ := hs; exact ⟨a, cap, h⟩
  have hB : w.heap.size + 3 ≤ (((w.alloc (.cells #[.slice sa sl sc] 37)).alloc (.cells #[.slice none 0 0] 24)).alloc (.cells #[.slice none 0 0] 24)).heap.size := by simp <;> omega
  have hm : Mod w.heap.size (w.heap.size + 3) w1 ((w1.setCell ⟨w.heap.size + 1 + 1, 0, none⟩ (.slice va rs'.length vc)).setCell ⟨w.heap.size + 1, 0, none⟩ (.slice va rs'.length vc)) :=
    ((Mod.refl _ _ w1).setCell (p := ⟨w.heap.size + 1 + 1, 0, none⟩) (by simp <;> omega) (by simp <;> omega) _).setCell (p := ⟨w.heap.size + 1, 0, none⟩) (by simp <;> omega) (by simp <;> omega) _
  have Hfin := Lib.hid ((hs.keep (hm.same (Nat.le_refl _) (.inr hB))).widen (lo' := w.heap.size) (by omega) hm.size)
  clear hs hm hB
  go_wp2
  exact bodyPost_ret (v := .agg #[.slice va rs'.length vc]) (by simp [results, Try.results31, go_sem, q1, zb1, zc1]) rfl ⟨⟨va, rs'.length, vc⟩, rs', rfl, Hfin.out, by go_grown⟩
theorem law_szSite (s : SV) (rs : List CraneR) (L : SiteL) (lo hi : Nat) (n : Int) (w : World) (h : Cranes lo hi w s.v rs L) (hwf : L.wf) (h0 : 0 ≤ n) (hn : n ≤ 1048576) :
    Calls Try.prog 25 #[.agg #[s.v], .int .i64 n] w fun e w' => e = .returned (.int .i64 (szRes n (L.cost : Int))) ∧ Below w.heap.size w w' := by
  have HT := law_szCraneS s.v rs L lo hi n
  have hx := fun w' (hb : Below w.heap.size w w') => HT w' (h.ext hb) hwf h0 hn
  rw [show L.length + totN (fun f : CraneF => f.name.size) L = L.cost from rfl] at hx
  have HX := Lib.hid hx
  clear hx HT h hwf
  obtain ⟨sa, sl, sc⟩ := s
  simp only [SV.v] at *
  generalize L.cost = c at *
  by_cases hc : n < (c : Int)
  · rw [szRes_lt hc] at HX ⊢
    clear hc
    go_enter Try.func25, Try.ntmps25
    go_wp2_with fail
    refine (HX.out _ ?hb).mono ?_
    case hb => go_grown
    rintro e w1 ⟨rfl, hb1⟩
    go_wp2
    go_ret
    exact ⟨rfl, ((Below.refl _ _).alloc (Nat.le_refl _) _).trans (hb1.mono (by simp))⟩
  · rw [szRes_ge hc] at HX ⊢
    have hcn : decide (n - (c : Int) < 0) = false := decide_eq_false (by omega)
    go_enter Try.func25, Try.ntmps25
    go_wp2_with fail
    refine (HX.out _ ?hb).mono ?_
    case hb => go_grown
    rintro e w1 ⟨rfl, hb1⟩
    go_wp2
    go_ret
    exact ⟨rfl, ((Below.refl _ _).alloc (Nat.le_refl _) _).trans (hb1.mono (by simp))⟩
theorem law_eqSite (s s2 : SV) (rs rs2 : List CraneR) (L : SiteL) (lo hi lo2 hi2 : Nat) (w : World) (h : Cranes lo hi w s.v rs L) (h2 : Cranes lo2 hi2 w s2.v rs2 L) :
    Calls Try.prog 15 #[.agg #[s.v], .agg #[s2.v]] w fun e w' => e = .returned (.bool true) ∧ Below w.heap.size w w' := by
  have HX := Lib.hid (fun w' (hb : Below w.heap.size w w') => law_eqCraneS s.v s2.v rs rs2 L lo hi lo2 hi2 w' (h.ext hb) (h2.ext hb))
  clear h h2
  obtain ⟨sa, sl, sc⟩ := s
  obtain ⟨ta, tl, tc⟩ := s2
  simp only [SV.v] at *
  go_enter Try.func15, Try.ntmps15
  go_wp2_with fail
  refine (HX.out _ ?hb).mono ?_
  case hb => go_grown
  rintro e w1 ⟨rfl, hb1⟩
  go_wp2
  go_ret
  exact ⟨rfl, (((Below.refl _ _).alloc (Nat.le_refl _) _).alloc (by simp) _).trans (hb1.mono (by simp; omega))⟩
end Go.Proofs.Ytimggihbldeleaa
