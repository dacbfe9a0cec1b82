/- UnpackLifts, the program. -/
import Derived.Test.YtgbohbjpdmgneaaUr
import Derived.Test.YtgbohbjpdmgneaaPlJ
import Derived.Test.YtgbohbjpdmgneaaNX
namespace Go.Proofs.Ytgbohbjpdmgneaa
open Go.RowKit
theorem info_impl_Lift : (Try.prog.info? 99).map (fun i => (i.zero.map (·.cells.size), i.size, i.bytes)) = some (some 9, 9, 96) := by kernel_rfl
theorem LiftR.one (r : LiftR) : ∀ u ∈ r.cells, u.oneCell' = true := by
  obtain ⟨⟨x0, x1, x2, x3, x4, x5, x6, x7⟩, s⟩ := r
  intro u hu
  simp [LiftR.cells, SV.v] at hu
  rcases hu with rfl | rfl | rfl | rfl | rfl | rfl | rfl | rfl | rfl <;> rfl
theorem TL_TI : (99 : Nat) ≠ 2 := by decide
abbrev OwnL (lo : Nat) (w : World) (v : Value) (rs : List LiftR) (L : LiftsL) : Prop := OwnN 9 LiftR.cells LiftR.f LiftR.s 1 intCells lo 99 2 w v rs L
section
variable {ρ φ α : Type} {n m : Nat} {c : ρ → List Value} {d : α → List Value} {fl : ρ → φ} {sv : ρ → SV}
/-- One more, whose own memory lies behind B, where the others' lies ahead of it. -/
theorem OwnN.push2 {lo B : Nat} {te e : TypeId} (hte : te ≠ e) {w1 w2 : World} {v v' : Value} {rs : List ρ} {L : List (φ × List α)} {r : ρ} {x : φ × List α} (h1 : OwnN n c fl sv m d lo te e w1 v rs L)
    (hlt : ∀ (i : Nat) (s : ρ) (g : Nat), rs[i]? = some s → (sv s).v.ownBlock = some g → g < B) (hlo : lo ≤ B)
    (hf : fl r = x.1) (hr : Own m d B e w1 (sv r).v x.2) (hv : Own n c lo te w2 v' (rs ++ [r])) (hg : (w1.alloc (.cells (c r).toArray te)).grownBy w2 v.ownBlock) : OwnN n c fl sv m d lo te e w2 v' (rs ++ [r]) (L ++ [x]) := by
  have kept : ∀ {lo' : Nat} (s : SV) (y : List α), Own m d lo' e w1 s.v y → Own m d lo' e w2 s.v y := by
    intro lo' s y hs
    refine World.ownsRow.kept (hs.alloc _) hg ?_
    cases hsb : s.v.ownBlock with
    | none => exact .inl rfl
    | some g =>
      refine .inr fun hgv => ?_
      obtain ⟨cur, fz, hc⟩ := hs.block hsb
      obtain ⟨cur', fz', hc'⟩ := h1.out.block hgv.symm
      rw [hc] at hc'
      cases hc'
      exact hte rfl
  have at_ : ∀ (i : Nat) (s : ρ), (rs ++ [r])[i]? = some s → rs[i]? = some s ∨ (i = rs.length ∧ s = r) := by
    intro i s hs
    rw [List.getElem?_append] at hs
    by_cases hi : i < rs.length
    · rw [if_pos hi] at hs; exact .inl hs
    · rw [if_neg hi] at hs
      by_cases h0 : i - rs.length = 0
      · rw [h0] at hs; simp at hs; exact .inr ⟨by omega, hs.symm⟩
      · rw [List.getElem?_eq_none (by simp; omega)] at hs; cases hs
  refine ⟨hv, by simp [h1.len], ?_, ?_⟩
  · intro i s y hs hy
    rcases at_ i s hs with h0 | ⟨rfl, rfl⟩
    · have hi := (List.getElem?_eq_some_iff.1 h0).1
      rw [List.getElem?_append_left (by rw [← h1.len]; exact hi)] at hy
      exact ⟨(h1.row i s y h0 hy).1, kept _ _ (h1.row i s y h0 hy).2⟩
    · rw [h1.len, List.getElem?_append_right (Nat.le_refl _), Nat.sub_self] at hy
      simp at hy
      subst hy
      exact ⟨hf, kept _ _ (hr.lower hlo)⟩
  · intro i j s t g hs ht hij hsg htg
    rcases at_ i s hs with h0 | ⟨rfl, rfl⟩
    · rcases at_ j t ht with h2 | ⟨rfl, rfl⟩
      · exact h1.apart i j s t g h0 h2 hij hsg htg
      · have h3 := hlt i s g h0 hsg
        have h4 := (World.ownsRow.lt hr g htg).1
        omega
    · rcases at_ j t ht with h2 | ⟨rfl, rfl⟩
      · have h3 := hlt j t g h2 htg
        have h4 := (World.ownsRow.lt hr g hsg).1
        omega
      · exact hij rfl
end
theorem un_new2 {s : ByteArray} {w : World} : Un w.heap.size s.data.toList false (w.alloc (.cells #[.string s, .bool false] 159)) := by
  unfold Un World.alloc
  simp [bs_of]
def ByteI (b : Nat) (l : List UInt8) (bad : Bool) (w : World) (e : Ending) (w' : World) : Prop :=
  ∃ (c : Int) (r : List UInt8) (bad' : Bool), e = .returned (.int .i64 c) ∧ Un b r bad' w' ∧ r.length ≤ 1048576 ∧ (∀ c0 r0, l = c0 :: r0 → r = r0 ∧ bad' = bad) ∧ Mod b (b + 1) w w'
theorem impl_byteR (b : Nat) (l : List UInt8) (bad : Bool) (w : World) (h : Un b l bad w) (hl : l.length ≤ 1048576) : Calls Try.prog 114 #[.pointer (some ⟨b, 0, none⟩)] w (ByteI b l bad w) := by
  cases l with
  | nil =>
    refine (oneByte_nil b bad w h).mono ?_
    rintro e w' ⟨rfl, hu, hm⟩
    exact ⟨0, [], true, rfl, hu, by simp, fun c0 r0 he => (by cases he), hm⟩
  | cons c r =>
    have hr : r.length ≤ 1048576 := by simp only [List.length_cons] at hl; omega
    refine (oneByte_cons b c r bad w h hr).mono ?_
    rintro e w' ⟨rfl, hu, hm⟩
    exact ⟨_, r, bad, rfl, hu, hr, fun c0 r0 he => (by cases he; exact ⟨rfl, rfl⟩), hm⟩
/-- The bytes of a list. -/
def LBytes (L : LiftsL) : List UInt8 := liftsBytes L ++ endB (liftsBytes L)
def isPackL (l : List UInt8) : Prop := ∃ L, liftsOk L ∧ l = LBytes L
open Classical in
noncomputable def unpL (l : List UInt8) : LiftsL × Int := if h : isPackL l then (h.choose, 0) else ([], 8)
theorem unpL_f {l : List UInt8} (h : ¬ isPackL l) : unpL l = ([], 8) := dif_neg h
/-- A list that every valid list with these bytes is. -/
theorem unpL_t {l : List UInt8} {L : LiftsL} (hok : liftsOk L) (hl : l = LBytes L) (hu : ∀ X, liftsOk X → l = LBytes X → L = X) : unpL l = (L, 0) := by
  have h : isPackL l := ⟨L, hok, hl⟩
  unfold unpL
  rw [dif_pos h, ← hu _ h.choose_spec.1 h.choose_spec.2]
theorem LBytes_cut (X : LiftsL) : LBytes X = 76 :: (putN X.length ++ (X.flatMap liftBytes ++ endB (liftsBytes X))) := by
  unfold LBytes liftsBytes accL
  rw [List.take_length]
  simp
def UnLRes (L : LiftsL) (c : Int) (w : World) (e : Ending) (w' : World) : Prop :=
  ∃ (s : SV) (rs : List LiftR), e = .returned (.tuple #[s.v, .int .i64 c]) ∧ OwnL w.heap.size w' s.v rs L ∧ Below w.heap.size w w'
set_option maxRecDepth 100000 in
set_option maxHeartbeats 8000000 in
theorem impl_UnpackLifts (s : ByteArray) (w : World) (hs : s.size ≤ 1048576) : Calls Try.prog 45 #[.string s] w (UnLRes (unpL s.data.toList).1 (unpL s.data.toList).2 w) := by
  have hl : s.data.toList.length ≤ 1048576 := by simpa using hs
  have hba : Below w.heap.size w (w.alloc (.cells #[.string s, .bool false] 159)) := (Below.refl _ _).alloc (Nat.le_refl _) _
  have hN := Lib.hid (impl_byteR w.heap.size s.data.toList false _ un_new2 hl)
  have hz0 : w.heap.size + 1 ≤ (w.alloc (.cells #[.string s, .bool false] 159)).heap.size := by simp
  have Hsl : Hid (∀ L, (⟨(LBytes L).toArray⟩ : ByteArray) = s ↔ s.data.toList = LBytes L) := Lib.hid (fun L => ⟨fun h => by rw [← h], fun h => by rw [← h]⟩)
  generalize s.data.toList = l at *
  clear hl
  go_enter Try.func45, Try.ntmps45
  go_wp2_with fail
  refine hN.out.mono ?_
  rintro e w1 ⟨c1, r1, bad1, rfl, hu1, hr1, hc1, hm1⟩
  have Hc1 := Lib.hid hc1
  have B1 := hba.trans (hm1.below (Nat.le_refl _) hba.size)
  have z1 := Nat.le_trans hz0 hm1.size
  have hN := Lib.hid (impl_cntR w.heap.size 10 r1 bad1 _ hu1 hr1 (by omega))
  clear hc1 hm1 hu1 hba hz0
  go_wp2_with fail
  refine hN.out.mono ?_
  rintro e w2 ⟨n, r2, bad2, rfl, hn10, hu2, hr2, hc2, hm2⟩
  have B2 := B1.trans (hm2.below (Nat.le_refl _) B1.size)
  have z2 := Nat.le_trans z1 hm2.size
  have Hu2 := Lib.hid hu2
  have hcmp : Hid (∀ X, liftsOk X → l = LBytes X → n = X.length ∧ r2 = X.flatMap liftBytes ++ endB (liftsBytes X) ∧ bad2 = false) := Lib.hid (fun X hX he => by
    rw [LBytes_cut] at he
    obtain ⟨h1, h2⟩ := Hc1.out _ _ he
    have h10 := hX.2
    obtain ⟨h3, h4, h5⟩ := hc2 X.length _ (by omega) (f49_small (by omega) (by omega)) h1
    exact ⟨h3, h4, h5.trans h2⟩)
  clear hc2 hm2 hu2 Hc1 hN B1 z1 hr1
  go_wp2
  go_loopw [5, 15] (fun o i wr => ∃ (k : Nat) (sv : SV) (rs : List LiftR) (acc : LiftsL) (r : List UInt8) (bd : Bool), k ≤ n ∧ i = .int .i64 k ∧ o = sv.v ∧ Below w.heap.size w wr ∧ w.heap.size + 1 ≤ wr.heap.size ∧ Hid (OwnL (w.heap.size + 1) wr sv.v rs acc) ∧ acc.length = k ∧ Hid (∀ x ∈ acc, x.1.name.size ≤ maxLen) ∧ Hid (Un w.heap.size r bd wr) ∧ r.length ≤ 1048576 ∧ Hid (∀ X, liftsOk X → l = LBytes X → acc = X.take k ∧ r = (X.drop k).flatMap liftBytes ++ endB (liftsBytes X) ∧ bd = false)) (fun _ i _ => n - (intOf i).toNat)
  case atStart => exact ⟨0, ⟨none, 0, 0⟩, [], [], r2, bad2, Nat.zero_le _, rfl, rfl, B2, z2, Lib.hid (ownN_nil (own_nil _ _ _)), rfl, Lib.hid (fun x hx => by cases hx), Hu2, hr2, Lib.hid (fun X h1 h2 => by obtain ⟨_, h3, h4⟩ := hcmp.out X h1 h2; exact ⟨by simp, by simpa using h3, h4⟩)⟩
  case round =>
    clear Hu2 hr2 B2 z2
    obtain ⟨k, ⟨sa, sl, sc⟩, rs, acc, r, bd, hk, rfl, rfl, hB, hz, hown, hak, hnm, hu, hr, hcp⟩ := hrel
    simp only [SV.v] at *
    have hrk : rs.length = k := by rw [hown.out.len, hak]
    by_cases hlt : k < n
    · have hN := Lib.hid (impl_lftR w.heap.size r bd wr hu.out hr)
      have hblt := Lib.hid hown.out.lt
      go_wp2_with fail
      refine hN.out.mono ?_
      rintro e w8 ⟨⟨x0, x1, x2, x3, x4, x5, x6, x7⟩, ⟨ta, tl, tc⟩, a, r8, bd8, rfl, ho8, ha10, hf8, hu8, hr8, hc8, hm8⟩
      have b8 : Below w.heap.size wr w8 := hm8.below (Nat.le_refl _) hB.size
      have hs8 := b8.size
      have hO8 := Lib.hid (hown.out.mod hm8 (Nat.le_refl _))
      have Hu8 := Lib.hid hu8
      have Hc8 := Lib.hid hc8
      have Ho8 := Lib.hid (show Own 1 intCells wr.heap.size 2 w8 _ _ from ho8)
      clear hu8 hc8 hm8 ho8
      simp only [LiftR.cells, SV.v]
      go_wp2_with (at_builtin; refine wpList_app1 (c := LiftR.cells) (bytes := 96) rfl _ _ 26 99 rfl Try.underlying26 info_impl_Lift (by omega) LiftR.len LiftR.one (w.heap.size + 1) rs ⟨⟨x0, x1, x2, x3, x4, x5, x6, x7⟩, ⟨ta, tl, tc⟩⟩ (.slice sa sl sc) rfl w8 rfl hO8.out.out rfl (by omega) (by omega) (by omega) ?_; intro v' w9 hown9 hg9; have Hown9 := Lib.hid hown9; have Hg9 := Lib.hid hg9; obtain ⟨va, vc, rfl⟩ := own_sv hown9; clear hown9 hg9)
      have hown9 := Hown9.out
      have hg9 := Hg9.out
      have b9 : Below (w.heap.size + 1) w8 w9 := hO8.out.out.app (Below.refl _ _) (Nat.le_refl _) (by omega) hg9
      have hN9 := Lib.hid (hO8.out.push2 (B := wr.heap.size) (r := ⟨⟨x0, x1, x2, x3, x4, x5, x6, x7⟩, ⟨ta, tl, tc⟩⟩) (x := (⟨x0, x1, x2, x3, x4, x5, x6, x7⟩, a)) TL_TI hblt.out hz rfl Ho8.out hown9 hg9)
      have hl9 : (rs ++ [(⟨⟨x0, x1, x2, x3, x4, x5, x6, x7⟩, ⟨ta, tl, tc⟩⟩ : LiftR)]).length = k + 1 := by rw [List.length_append, hrk]; rfl
      rw [hl9] at hN9
      have hs9 := b9.size
      have B9 : Below w.heap.size w w9 := (hB.trans b8).trans (b9.mono (Nat.le_succ _))
      have Hu9 := Lib.hid (show Un w.heap.size r8 bd8 w9 from (b9.block w.heap.size (Nat.lt_succ_self _)).trans Hu8.out)
      have hcp9 : Hid (∀ X, liftsOk X → l = LBytes X → acc ++ [((⟨x0, x1, x2, x3, x4, x5, x6, x7⟩, a) : LiftF × List Int)] = X.take (k + 1) ∧ r8 = (X.drop (k + 1)).flatMap liftBytes ++ endB (liftsBytes X) ∧ bd8 = false) := Lib.hid (fun X h1 h2 => by
        obtain ⟨hn, _, _⟩ := hcmp.out X h1 h2
        obtain ⟨g1, g2, g3⟩ := hcp.out X h1 h2
        have hkx : k < X.length := by omega
        rw [List.drop_eq_getElem_cons hkx, List.flatMap_cons, List.append_assoc] at g2
        obtain ⟨g4, g5, g6, g7⟩ := Hc8.out X[k] _ (liftFit_of (h1.1 k hkx).1 (by omega)) g2
        exact ⟨by rw [g1, List.take_succ_eq_append_getElem hkx, g4, g5], g6, g7.trans g3⟩)
      have hnm9 : Hid (∀ x ∈ acc ++ [((⟨x0, x1, x2, x3, x4, x5, x6, x7⟩, a) : LiftF × List Int)], x.1.name.size ≤ maxLen) := Lib.hid (fun x hx => by
        rcases List.mem_append.1 hx with h | h
        · exact hnm.out x h
        · rw [List.mem_singleton.1 h]; unfold maxLen; dsimp only at hf8 ⊢; omega)
      go_roundw
      case rel => exact ⟨k + 1, ⟨va, _, vc⟩, _, acc ++ [(⟨x0, x1, x2, x3, x4, x5, x6, x7⟩, a)], r8, bd8, by omega, by go_num, rfl, B9, by omega, hN9, by rw [List.length_append, hak]; rfl, hnm9, Hu9, hr8, hcp9⟩
      case measure => simp [intOf]; omega
    · have hkk : k = n := by omega
      subst hkk
      have hPk := impl_PackLifts _ rs acc _ _ wr (hown.out.w LiftR.len intCells_len TL_TI).r hnm.out (by omega)
      have Hown := Lib.hid (fun w9 (hb9 : Below wr.heap.size wr w9) => (hown.out.below hb9).lower (Nat.le_succ _))
      have hBl := Lib.hid (fun w9 (hb9 : Below wr.heap.size wr w9) => hB.trans (hb9.mono hB.size))
      have Hun := Lib.hid (fun w9 (hb9 : Below wr.heap.size wr w9) => (show Un w.heap.size r bd w9 from (hb9.block _ (by omega)).trans hu.out))
      have hfin : Hid (∀ X, liftsOk X → l = LBytes X → acc = X ∧ bd = false) := Lib.hid (fun X h1 h2 => by
        obtain ⟨hn, _, _⟩ := hcmp.out X h1 h2
        obtain ⟨g1, g2, g3⟩ := hcp.out X h1 h2
        rw [hn, List.take_length] at g1
        exact ⟨g1, g3⟩)
      clear hcp hcmp hown hu hnm hB hr hrk hak
      by_cases hX : liftsOk acc ∧ l = LBytes acc
      · have HU := Lib.hid (unpL_t hX.1 hX.2 (fun X h1 h2 => (hfin.out X h1 h2).1))
        have hbd := (hfin.out acc hX.1 hX.2).2
        subst hbd
        rw [packL_t (liftsB_iff.2 hX.1), show (liftsBytes acc ++ endB (liftsBytes acc)) = LBytes acc from rfl, (Hsl.out acc).2 hX.2] at hPk
        have HPk := Lib.hid hPk
        clear hPk hfin Hsl hX
        go_wp2_with fail
        refine HPk.out.mono ?_
        rintro e w9 ⟨rfl, hb9⟩
        have c1 := (Hun.out w9 hb9).c1
        have hBe := hBl.out w9 hb9
        have hOe := Lib.hid (Hown.out w9 hb9)
        clear Hun hBl Hown HPk
        go_wp2
        go_ret2
        rw [HU.out]
        exact ⟨⟨sa, sl, sc⟩, rs, rfl, hOe.out, hBe⟩
      · have hno : ¬ isPackL l := fun ⟨X, h1, h2⟩ => hX (by rw [(hfin.out X h1 h2).1]; exact ⟨h1, h2⟩)
        have HU := Lib.hid (unpL_f hno)
        have hcs : (packL acc).2 = 0 → ¬ (⟨(packL acc).1.toArray⟩ : ByteArray) = s := by
          intro h0 h1
          by_cases hok : liftsB acc = true
          · rw [packL_t hok] at h1
            exact hX ⟨liftsB_iff.1 hok, (Hsl.out acc).1 h1⟩
          · rw [packL_f (by simpa using hok)] at h0
            cases h0
        have HPk := Lib.hid hPk
        clear hPk hfin Hsl hX hno
        generalize (packL acc).2 = q at *
        generalize (⟨(packL acc).1.toArray⟩ : ByteArray) = t at *
        have hcq : (q = 0 ∧ (t.toList == s.toList) = false) ∨ ((q == 0) = false ∧ (q != 0) = true ∧ decide (q = 0) = false ∧ ¬ q = 0) := by
          by_cases h : q = 0
          · exact .inl ⟨h, by rw [beq_eq_false_iff_ne]; intro e; exact hcs h (by simpa [ByteArray.toList_eq, ByteArray.ext_iff] using e)⟩
          · exact .inr ⟨by simpa using h, by simpa using h, by simpa using h, h⟩
        clear hcs
        cases bd
        all_goals
          rcases hcq with ⟨rfl, hcq⟩ | ⟨hcq, hcq2, hcq3, hcq4⟩
          all_goals
            go_wp2_with fail
            refine HPk.out.mono ?_
            rintro e w9 ⟨rfl, hb9⟩
            have c1 := (Hun.out w9 hb9).c1
            have hBe := hBl.out w9 hb9
            clear Hun hBl Hown HPk
            go_wp2
            go_ret2
            rw [HU.out]
            exact ⟨⟨none, 0, 0⟩, [], rfl, ownN_nil (own_nil _ _ _), hBe⟩
end Go.Proofs.Ytgbohbjpdmgneaa
