/- UnpackLifts, the reference. -/
import Derived.Test.YtgbohbjpdmgneaaUnL
import Derived.Test.YtgbohbjpdmgneaaUs
namespace Go.Proofs.Ytgbohbjpdmgneaa
open Go.RowKit
theorem liftsBytes_cut (X : LiftsL) : liftsBytes X = 76 :: (putN X.length ++ X.flatMap liftBytes) := by
  unfold liftsBytes accL
  rw [List.take_length]
  simp
theorem LBytes_in (X : LiftsL) : LBytes X = 76 :: ((putN X.length ++ X.flatMap liftBytes) ++ endB (76 :: (putN X.length ++ X.flatMap liftBytes))) := by
  unfold LBytes
  rw [liftsBytes_cut]
  rfl
theorem open_in {k : UInt8} {l l' : List UInt8} (h : k :: (l ++ endB (k :: l)) = k :: (l' ++ endB (k :: l'))) : l = l' :=
  (List.append_inj' (List.cons.inj h).2 (by simp [endB])).1
set_option maxRecDepth 100000 in
set_option maxHeartbeats 8000000 in
theorem spec_UnpackLifts (s : ByteArray) (w : World) (hs : s.size ≤ 1048576) : Calls Try.prog 44 #[.string s] w (UnLRes (unpL s.data.toList).1 (unpL s.data.toList).2 w) := by
  have hL : s.data.toList.length ≤ 1048576 := by simpa using hs
  have hN : Hid (Calls Try.prog 110 #[.string s, .int .u8 76] w (OpenS 76 s.data.toList w)) := Lib.hid (spec_Open 76 s.data.toList w hL)
  generalize s.data.toList = L at *
  go_enter Try.func44, Try.ntmps44
  go_wp2_with fail
  refine hN.out.mono ?_
  rintro e w1 ⟨l, ok, rfl, hr1, hB1, hll, hcase⟩
  have hl : l.length ≤ 1048576 := by omega
  have hin : Hid (∀ X, L = LBytes X → ok = true ∧ l = putN X.length ++ X.flatMap liftBytes) := Lib.hid (fun X hX => by
    rw [LBytes_in] at hX
    rcases hcase with ⟨h1, h2⟩ | ⟨_, h2⟩
    · exact ⟨h1, open_in (h2.symm.trans hX)⟩
    · exact absurd hX (h2 _))
  have hout : Hid (ok = true → L = 76 :: (l ++ endB (76 :: l))) := Lib.hid (fun h => by
    rcases hcase with ⟨_, h2⟩ | ⟨h1, _⟩
    · exact h2
    · rw [h] at h1; cases h1)
  clear hcase hN
  have hz1 : w.heap.size + 1 ≤ w1.heap.size := hr1.lt
  have hbe : Below w1.heap.size w1 (w1.alloc (.cells #[] 99)) := (Below.refl _ _).alloc (Nat.le_refl _) _
  have ho1 : Hid (OwnL (w.heap.size + 1) (w1.alloc (.cells #[] 99)) (.slice (some ⟨w1.heap.size, 0, none⟩) 0 0) [] []) := Lib.hid (ownN_nil (own_empty w1 _ _ hz1))
  have hN := Lib.hid (spec_cntR w.heap.size 10 l 0 ok _ (hr1.ext hbe) hl (Nat.zero_le _) (by omega))
  have hze := hbe.size
  have hB1e := hB1.trans (hbe.mono hB1.size)
  clear hr1
  go_wp2_with fail
  refine hN.out.mono ?_
  rintro e w2 ⟨n, q2, ok2, rfl, hn10, hq2, hu2, hc2, hs2, hm2⟩
  have B2 := hB1e.trans (hm2.below (Nat.le_refl _) hB1e.size)
  have z2 : w.heap.size + 1 ≤ w2.heap.size := by have := hm2.size; omega
  have ho2 := Lib.hid (ho1.out.mod hm2 (Nat.le_refl _))
  have Hu2 := Lib.hid hu2
  have hcmp : Hid (∀ X, liftsOk X → L = LBytes X → n = X.length ∧ l.drop q2 = X.flatMap liftBytes ∧ ok2 = true) := Lib.hid (fun X hX he => by
    obtain ⟨h1, h2⟩ := hin.out X he
    have h10 := hX.2
    exact hc2 h1 X.length _ (by omega) (f49_small (by omega) (by omega)) (by rw [List.drop_zero]; exact h2))
  have hsnd : Hid (ok2 = true → ok = true ∧ l = putN n ++ l.drop q2) := Lib.hid (fun h => by have := hs2 h; rwa [List.drop_zero] at this)
  clear hc2 hs2 hm2 hu2 hin hN ho1 hze hbe hB1e hB1
  go_wp2
  go_loopw [5, 6] (fun o i wr => ∃ (m : Nat) (sv : SV) (rs : List LiftR) (acc : LiftsL) (q : Nat) (k : Bool), acc.length + m = n ∧ i = .int .i64 m ∧ o = sv.v ∧ Below w.heap.size w wr ∧ w.heap.size + 1 ≤ wr.heap.size ∧ Hid (OwnL (w.heap.size + 1) wr sv.v rs acc) ∧ Hid (∀ x ∈ acc, x.1.name.size ≤ maxLen) ∧ Hid (Rd w.heap.size l q k wr) ∧ q ≤ l.length ∧
    Hid (∀ X, liftsOk X → L = LBytes X → acc = X.take acc.length ∧ l.drop q = (X.drop acc.length).flatMap liftBytes ∧ k = true) ∧ Hid (k = true → ok = true ∧ l = putN n ++ (acc.flatMap liftBytes ++ l.drop q))) (fun _ i _ => (intOf i).toNat)
  case atStart => exact ⟨n, ⟨some ⟨w1.heap.size, 0, none⟩, 0, 0⟩, [], [], q2, ok2, by simp, rfl, rfl, B2, z2, ho2, Lib.hid (fun x hx => by cases hx), Hu2, hq2, Lib.hid (fun X h1 h2 => by obtain ⟨_, h3, h4⟩ := hcmp.out X h1 h2; exact ⟨by simp, by simpa using h3, h4⟩), Lib.hid (fun h => by obtain ⟨h1, h2⟩ := hsnd.out h; exact ⟨h1, by simpa using h2⟩)⟩
  case round =>
    clear Hu2 hq2 B2 z2 ho2 hz1
    obtain ⟨m, ⟨sa, sl, sc⟩, rs, acc, q, k, hmn, rfl, rfl, hB, hz, hown, hnm, hu, hq, hcp, hsd⟩ := hrel
    simp only [SV.v] at *
    have hrk : rs.length = acc.length := hown.out.len
    have c2 := hu.out.c2
    have hak : acc.length ≤ 10 := by omega
    by_cases hgo : 0 < m ∧ k = true
    · obtain ⟨hm0, rfl⟩ := hgo
      have hgt : decide ((0 : Int) < (m : Int)) = true := decide_eq_true (by omega)
      have hN := Lib.hid (spec_lftR w.heap.size l q true wr hu.out hl hq)
      have hblt := Lib.hid hown.out.lt
      have Hrk := Lib.hid hrk
      clear hrk
      go_wp2_with fail
      refine hN.out.mono ?_
      rintro e w8 ⟨⟨x0, x1, x2, x3, x4, x5, x6, x7⟩, ⟨ta, tl, tc⟩, a, q8, k8, rfl, ho8, ha10, hf8, hq8, hu8, hc8, hs8, hm8⟩
      have b8 : Below w.heap.size wr w8 := hm8.below (Nat.le_refl _) hB.size
      have hz8 := b8.size
      have hO8 := Lib.hid (hown.out.mod hm8 (Nat.le_refl _))
      have Hu8 := Lib.hid hu8
      have Hc8 := Lib.hid hc8
      have Hs8 := Lib.hid hs8
      have Ho8 := Lib.hid (show Own 1 intCells wr.heap.size 2 w8 _ _ from ho8)
      clear hu8 hc8 hm8 ho8 hs8
      simp only [LiftR.cells, SV.v]
      go_wp2_with (at_builtin; refine wpList_app1 (c := LiftR.cells) (bytes := 96) rfl _ _ 26 99 rfl Try.underlying26 info_impl_Lift (by omega) LiftR.len LiftR.one (w.heap.size + 1) rs ⟨⟨x0, x1, x2, x3, x4, x5, x6, x7⟩, ⟨ta, tl, tc⟩⟩ (.slice sa sl sc) rfl w8 rfl hO8.out.out rfl (by have := Hrk.out; omega) (by have := Hrk.out; omega) (by omega) ?_; intro v' w9 hown9 hg9; have Hown9 := Lib.hid hown9; have Hg9 := Lib.hid hg9; obtain ⟨va, vc, rfl⟩ := own_sv hown9; clear hown9 hg9)
      have hown9 := Hown9.out
      have hg9 := Hg9.out
      have b9 : Below (w.heap.size + 1) w8 w9 := hO8.out.out.app (Below.refl _ _) (Nat.le_refl _) (by omega) hg9
      have hN9 := Lib.hid (hO8.out.push2 (B := wr.heap.size) (r := ⟨⟨x0, x1, x2, x3, x4, x5, x6, x7⟩, ⟨ta, tl, tc⟩⟩) (x := (⟨x0, x1, x2, x3, x4, x5, x6, x7⟩, a)) TL_TI hblt.out hz rfl Ho8.out hown9 hg9)
      have hl9 : (rs ++ [(⟨⟨x0, x1, x2, x3, x4, x5, x6, x7⟩, ⟨ta, tl, tc⟩⟩ : LiftR)]).length = rs.length + 1 := by rw [List.length_append]; rfl
      rw [hl9] at hN9
      have hs9 := b9.size
      have B9 : Below w.heap.size w w9 := (hB.trans b8).trans (b9.mono (Nat.le_succ _))
      have Hu9 := Lib.hid (show Rd w.heap.size l q8 k8 w9 from (b9.block w.heap.size (Nat.lt_succ_self _)).trans Hu8.out)
      have hla : (acc ++ [((⟨x0, x1, x2, x3, x4, x5, x6, x7⟩, a) : LiftF × List Int)]).length = acc.length + 1 := by rw [List.length_append]; rfl
      have hcp9 : Hid (∀ X, liftsOk X → L = LBytes X → acc ++ [((⟨x0, x1, x2, x3, x4, x5, x6, x7⟩, a) : LiftF × List Int)] = X.take (acc ++ [((⟨x0, x1, x2, x3, x4, x5, x6, x7⟩, a) : LiftF × List Int)]).length ∧ l.drop q8 = (X.drop (acc ++ [((⟨x0, x1, x2, x3, x4, x5, x6, x7⟩, a) : LiftF × List Int)]).length).flatMap liftBytes ∧ k8 = true) := Lib.hid (fun X h1 h2 => by
        obtain ⟨hn, _, _⟩ := hcmp.out X h1 h2
        obtain ⟨g1, g2, g3⟩ := hcp.out X h1 h2
        have hkx : acc.length < X.length := by omega
        rw [List.drop_eq_getElem_cons hkx, List.flatMap_cons] at g2
        obtain ⟨g4, g5, g6, g7⟩ := Hc8.out (by trivial) X[acc.length] _ (liftFit_of (h1.1 acc.length hkx).1 (by omega)) g2
        rw [hla]
        exact ⟨by rw [List.take_succ_eq_append_getElem hkx, ← g1, g4, g5], g6, g7⟩)
      have hsd9 : Hid (k8 = true → ok = true ∧ l = putN n ++ ((acc ++ [((⟨x0, x1, x2, x3, x4, x5, x6, x7⟩, a) : LiftF × List Int)]).flatMap liftBytes ++ l.drop q8)) := Lib.hid (fun h => by
        obtain ⟨g1, g2⟩ := Hs8.out h
        obtain ⟨g3, g4⟩ := hsd.out (by trivial)
        refine ⟨g3, ?_⟩
        rw [g2] at g4
        rw [List.flatMap_append]
        simpa using g4)
      have hnm9 : Hid (∀ x ∈ acc ++ [((⟨x0, x1, x2, x3, x4, x5, x6, x7⟩, a) : LiftF × List Int)], x.1.name.size ≤ maxLen) := Lib.hid (fun x hx => by
        rcases List.mem_append.1 hx with h | h
        · exact hnm.out x h
        · rw [List.mem_singleton.1 h]; unfold maxLen; dsimp only at hf8 ⊢; omega)
      have hsub : IntKind.i64.wrap ((m : Int) - 1) = ((m - 1 : Nat) : Int) := by rw [IntWalk.i64_in _ (by omega)]; omega
      go_wp2
      go_roundw
      case rel => exact ⟨m - 1, ⟨va, _, vc⟩, _, acc ++ [(⟨x0, x1, x2, x3, x4, x5, x6, x7⟩, a)], q8, k8, by omega, by first | rfl | go_num, rfl, B9, by omega, hN9, hnm9, Hu9, hq8, hcp9, hsd9⟩
      case measure => simp [intOf]; omega
    · have hfin : Hid (∀ X, liftsOk X → L = LBytes X → acc = X ∧ k = true ∧ q = l.length) := Lib.hid (fun X h1 h2 => by
        obtain ⟨hn, _, _⟩ := hcmp.out X h1 h2
        obtain ⟨g1, g2, g3⟩ := hcp.out X h1 h2
        have hm0 : m = 0 := by rcases Nat.eq_zero_or_pos m with h | h; exact h; exact absurd ⟨h, g3⟩ hgo
        have ha : acc.length = X.length := by omega
        rw [ha, List.take_length] at g1
        rw [ha, List.drop_length] at g2
        have g4 := List.drop_eq_nil_iff.1 g2
        exact ⟨g1, g3, by omega⟩)
      have hsfin : Hid (k = true → q = l.length → L = LBytes acc) := Lib.hid (fun h hql => by
        have hm0 : m = 0 := by rcases Nat.eq_zero_or_pos m with h' | h'; exact h'; exact absurd ⟨h', h⟩ hgo
        obtain ⟨g1, g2⟩ := hsd.out h
        rw [hout.out g1, LBytes_in]
        rw [hql, List.drop_length, List.append_nil, show n = acc.length by omega] at g2
        rw [← g2])
      have hW := spec_whole2 w.heap.size l q k wr hu.out
      have Hown := Lib.hid (fun w9 (hb9 : Below wr.heap.size wr w9) => (hown.out.below hb9).lower (Nat.le_succ _))
      have hBl := Lib.hid (fun w9 (hb9 : Below wr.heap.size wr w9) => hB.trans (hb9.mono hB.size))
      have hVd := Lib.hid (fun w9 (hb9 : Below wr.heap.size wr w9) => spec_LiftsOk (.slice sa sl sc) rs acc _ _ w9 ((hown.out.below hb9).w LiftR.len intCells_len TL_TI).r hnm.out (by omega))
      have hcs : m = 0 ∨ (0 < m ∧ k = false) := by
        rcases Nat.eq_zero_or_pos m with h | h
        · exact .inl h
        · exact .inr ⟨h, by cases k; rfl; exact absurd ⟨h, rfl⟩ hgo⟩
      clear hmn hgo hcp hsd hcmp hsnd hout hown hu hnm hB hrk
      by_cases hX : (k && decide (q = l.length)) = true ∧ liftsOk acc
      · obtain ⟨hwb, hokX⟩ := hX
        rw [hwb] at hW
        obtain ⟨hk1, hk2⟩ := Bool.and_eq_true _ _ ▸ hwb
        have hLA := hsfin.out hk1 (of_decide_eq_true hk2)
        have HU := Lib.hid (unpL_t hokX hLA (fun X h1 h2 => (hfin.out X h1 h2).1))
        have hm0 : m = 0 := by
          rcases hcs with h | ⟨_, h⟩
          · exact h
          · rw [h] at hk1; cases hk1
        subst hm0
        have hlb := liftsB_t hokX
        rw [hlb] at hVd
        have HW := Lib.hid hW
        clear hW hwb hokX hk1 hk2 hLA hcs hfin hsfin hlb
        go_wp2_with fail
        refine HW.out.mono ?_
        rintro e w9 ⟨rfl, hb9⟩
        have hV := Lib.hid (hVd.out w9 hb9)
        clear hVd
        go_wp2_with fail
        refine hV.out.mono ?_
        rintro e w10 ⟨rfl, hb10⟩
        have hb := hb9.trans (hb10.mono hb9.size)
        have hBe := hBl.out w10 hb
        have hOe := Lib.hid (Hown.out w10 hb)
        clear Hown hBl
        go_wp2
        go_ret2
        rw [HU.out]
        exact ⟨⟨sa, sl, sc⟩, rs, rfl, hOe.out, hBe⟩
      · have hno : ¬ isPackL L := fun ⟨X, h1, h2⟩ => hX (by
          obtain ⟨g1, g2, g3⟩ := hfin.out X h1 h2
          rw [g1, g2, g3, decide_eq_true rfl]
          exact ⟨rfl, h1⟩)
        have HU := Lib.hid (unpL_f hno)
        have hcb : ((k && decide (q = l.length)) = true ∧ liftsB acc = false) ∨ (k && decide (q = l.length)) = false := by
          cases hwb : (k && decide (q = l.length))
          · exact .inr rfl
          · refine .inl ⟨rfl, ?_⟩
            cases hlb : liftsB acc
            · rfl
            · exact absurd ⟨hwb, liftsB_iff.1 hlb⟩ hX
        clear hX hno hfin hsfin Hown
        rcases hcb with ⟨hwb, hlb⟩ | hwb
        · rw [hwb] at hW
          rw [hlb] at hVd
          have hm0 : m = 0 := by
            rcases hcs with h | ⟨_, h⟩
            · exact h
            · rw [h] at hwb; cases hwb
          subst hm0
          have HW := Lib.hid hW
          clear hW hwb hlb hcs
          go_wp2_with fail
          refine HW.out.mono ?_
          rintro e w9 ⟨rfl, hb9⟩
          have hV := Lib.hid (hVd.out w9 hb9)
          clear hVd
          go_wp2_with fail
          refine hV.out.mono ?_
          rintro e w10 ⟨rfl, hb10⟩
          have hBe := hBl.out w10 (hb9.trans (hb10.mono hb9.size))
          clear hBl
          go_wp2
          go_ret2
          rw [HU.out]
          exact ⟨⟨none, 0, 0⟩, [], rfl, ownN_nil (own_nil _ _ _), hBe⟩
        · rw [hwb] at hW
          have HW := Lib.hid hW
          clear hW hwb hVd
          rcases hcs with rfl | ⟨hgt, rfl⟩
          all_goals
            go_wp2_with fail
            all_goals
              refine HW.out.mono ?_
              rintro e w9 ⟨rfl, hb9⟩
              have hBe := hBl.out w9 hb9
              clear hBl
              go_wp2
              go_ret2
              rw [HU.out]
              exact ⟨⟨none, 0, 0⟩, [], rfl, ownN_nil (own_nil _ _ _), hBe⟩
end Go.Proofs.Ytgbohbjpdmgneaa
