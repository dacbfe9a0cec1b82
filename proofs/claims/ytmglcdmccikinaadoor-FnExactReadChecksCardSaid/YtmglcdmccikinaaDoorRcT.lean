/- The text of checks read, the reference: the walk. -/
import Derived.Test.YtmglcdmccikinaaDoorRcR
namespace Go.Proofs.YtmglcdmccikinaaDoor
open Go.RowKit
theorem len_strs (a : Option Addr) (n c : Nat) (w : World) : (Sem.run Tryd.prog (Builtin.len_ #[28] 3 #[.slice a n c]) w) = .ok (.int .i64 n) w := by simp [go_sem]
theorem toL_eq {c : ByteArray} {l : List UInt8} (h : c = ⟨l.toArray⟩) : c.toList = l := by rw [h, ByteArray.toList_eq]
theorem toL_ne {c : ByteArray} {l : List UInt8} (h : ¬ c = ⟨l.toArray⟩) : ¬ c.toList = l := by
  intro e
  apply h
  rw [ByteArray.toList_eq] at e
  apply ByteArray.ext
  rw [← e]
theorem toL_neb {c : ByteArray} {l : List UInt8} (h : ¬ c = ⟨l.toArray⟩) : (c.toList == l) = false := beq_eq_false_iff_ne.2 (toL_ne h)
theorem nums_cases (a d f : ByteArray) : (numB a = false ∧ True) ∨ (numB a = true ∧ numB d = false ∧ True) ∨ (numB a = true ∧ numB d = true ∧ numB f = false) ∨ (numB a = true ∧ numB d = true ∧ numB f = true) := by
  cases numB a <;> cases numB d <;> cases numB f <;> simp
set_option maxRecDepth 100000 in
set_option maxHeartbeats 8000000 in
theorem spec_Read (s : ByteArray) (w : World) (hs : s.size ≤ 1048576) : Calls Tryd.prog 4 #[.string s] w (RdRes s w) := by
  obtain ⟨F, hF⟩ : ∃ F, F = splitF s 10 0 := ⟨_, rfl⟩
  have HS : Hid (Calls Tryd.prog 9 #[.string s, .int .u8 10] w fun e w' => ∃ v, e = .returned v ∧ Slw 1 strC w.heap.size w'.heap.size w' v F ∧ Below w.heap.size w w') := Lib.hid (by rw [hF]; exact spec_Split s 10 w hs)
  have HS2 : Hid (∀ (t : ByteArray) (W : World), t.size ≤ 1048576 → Calls Tryd.prog 9 #[.string t, .int .u8 32] W (SplitRes t 32 W)) := Lib.hid (fun t W h => spec_Split t 32 W h)
  have hne : ¬ F.length = 0 := by
    rw [hF]
    unfold splitF
    rw [List.length_map]
    intro e
    exact splitL_ne _ _ (List.eq_nil_of_length_eq_zero e)
  have Hrl : Hid (∀ m, RcT s m → F.length ≤ 31 ∧ ∀ h : F.length - 1 < F.length, F[F.length - 1] = ⟨#[]⟩) := Lib.hid (fun m h => by
    have e := rct_lines h
    rw [← hF] at e
    have h1 := h.1.2
    have hl : F.length = m.length + 1 := by rw [e]; simp
    refine ⟨by omega, fun hh => ?_⟩
    have e3 : F[F.length - 1]? = some (⟨#[]⟩ : ByteArray) := by
      rw [hl, e, List.getElem?_append_right (by simp)]
      simp
    rw [List.getElem?_eq_getElem hh] at e3
    exact Option.some.inj e3)
  have Hln : Hid (∀ m, RcT s m → ∀ k (hk : k + 1 < F.length), ∃ x, LineOf F[k].data.toList x) := Lib.hid (fun m h k hk => by subst hF; exact rct_line h hk)
  have Hof : Hid (∀ l : List Chk, chksOk l → F.length = l.length + 1 → (∀ h : l.length < F.length, F[l.length] = ⟨#[]⟩) → (∀ i (h1 : i < l.length) (h2 : i < F.length), LineOf F[i].data.toList l[i]) → RcT s l) := Lib.hid (fun l h1 h2 h3 h4 => by subst hF; exact rct_of h1 h2 h3 h4)
  have Hpl : Hid (∀ k (h : k < F.length), F[k].size ≤ 1048576) := Lib.hid (fun k h => by subst hF; exact Nat.le_trans (piece_le (List.getElem_mem h)) hs)
  have hfl : F.length ≤ s.size + 1 := by rw [hF]; exact splitF_len s 10
  have HF := Lib.hid hF
  clear hF
  go_enter Tryd.func4, Tryd.ntmps4
  go_wp2_with fail
  refine HS.out.mono ?_
  rintro e w1 ⟨v1, rfl, s1, b1⟩
  have z1 := b1.size
  have hsl1 := s1.1
  obtain ⟨fa, fcap, hv, -⟩ := s1.1
  subst hv
  have S1 := Lib.hid s1
  clear s1 HS
  have hFl : F.length - 1 < F.length := by omega
  obtain ⟨fb, fo, rfl⟩ := hsl1.addr (by omega)
  have c0 := Strs.at (hsl1.ext ((Below.refl _ _).alloc (Nat.le_refl _) (.cells #[] 33))).get hFl
  have hw1 : IntKind.i64.wrap ((F.length : Int) - 1) = ((F.length - 1 : Nat) : Int) := by rw [IntKind.wrap_i64]; omega
  have hi1 : ((F.length - 1 : Nat) : Int) < (F.length : Int) := by omega
  by_cases hok : F[F.length - 1] = ⟨#[]⟩ ∧ F.length ≤ 31
  · obtain ⟨he, h31⟩ := hok
    have hq := emp2_t he
    have He := Lib.hid he
    clear he
    generalize hz : F[F.length - 1] = z at c0 hq
    clear hz
    have h31b : ¬ (31 : Int) < (F.length : Int) := by omega
    go_wp2
    clear c0 hq
    go_loopw [5, 6] (fun vo vi wr => ∃ (k : Nat) (acc : List Chk) (ov : Value), vo = ov ∧ k + 1 ≤ F.length ∧ vi = .int .i64 k ∧ acc.length = k ∧ Below w1.heap.size w1 wr ∧ Hid (Own 4 Chk.cells w1.heap.size 33 wr ov acc) ∧ Hid (∀ i (h1 : i < acc.length) (h2 : i < F.length), LineOf F[i].data.toList acc[i])) (fun _ vi _ => F.length - (intOf vi).toNat)
    case atStart => exact ⟨0, [], _, rfl, by omega, rfl, rfl, (Below.refl _ _).alloc (Nat.le_refl _) _, Lib.hid (own_empty w1 33 w1.heap.size (Nat.le_refl _)), Lib.hid (fun i h1 => absurd h1 (by simp))⟩
    case round =>
      obtain ⟨k, acc, ov, hov, hk, rfl, hak, hB, hown, hline⟩ := hrel
      have hov := hov.symm
      subst hov
      have zr := hB.size
      by_cases hlt : k < F.length - 1
      · have hkF : k < F.length := by omega
        have hlk := Hpl.out k hkF
        have d0 := Strs.at (hsl1.ext hB).get hkF
        have HSk := HS2.out F[k] wr hlk
        have Hrej : Hid ((∀ x, ¬ LineOf F[k].data.toList x) → ∀ m, ¬ RcT s m) := Lib.hid (fun h m hm => by
          obtain ⟨x, hx⟩ := Hln.out m hm k (by omega)
          exact h x hx)
        have Hwd : Hid (∀ x, LineOf F[k].data.toList x → splitF F[k] 32 0 = wordsB x ∧ Fit x) := Lib.hid (fun x h => ⟨words_of h, h.2⟩)
        have Hlo : Hid (∀ a b d f : ByteArray, splitF F[k] 32 0 = [a, b, (⟨#[101, 118, 101, 114, 121]⟩ : ByteArray), d, (⟨#[108, 97, 115, 116]⟩ : ByteArray), f] → NumOf a (numV a) → NumOf d (numV d) → NumOf f (numV f) → LineOf F[k].data.toList ⟨numV a, b, numV d, numV f⟩) := Lib.hid (fun a b d f h h1 h2 h3 => line_of h h1 h2 h3)
        have Hwl : Hid (∀ b ∈ splitF F[k] 32 0, b.size ≤ maxLen) := Lib.hid (fun b h => by have := piece_le h; unfold maxLen; omega)
        have Hgrow : Hid (∀ x, LineOf F[k].data.toList x → ∀ i (h1 : i < (acc ++ [x]).length) (h2 : i < F.length), LineOf F[i].data.toList (acc ++ [x])[i]) := Lib.hid (fun x h i h1 h2 => by
          by_cases hi : i < acc.length
          · rw [List.getElem_append_left hi]; exact hline.out i hi h2
          · have e : i = acc.length := by rw [List.length_append] at h1; simp at h1; omega
            subst e
            subst hak
            rw [List.getElem_append_right (Nat.le_refl _)]
            simpa using h)
        have hWne : 0 < (splitF F[k] 32 0).length := by
          unfold splitF
          rw [List.length_map]
          exact List.length_pos_iff.2 (splitL_ne _ _)
        have hWb : (splitF F[k] 32 0).length ≤ 1048577 := by have := splitF_len F[k] 32; omega
        unfold SplitRes at HSk
        generalize splitF F[k] 32 0 = W at *
        generalize F[k] = ln at *
        have HSk := Lib.hid HSk
        have hown1 := hown.out
        go_wp2_with (go_at_call 9; refine HSk.out.mono ?_; rintro e w2 ⟨v2, rfl, s2, b2⟩)
        have z2 := b2.size
        have hB2 := hB.trans (b2.mono zr)
        have hsl2 := s2.1
        obtain ⟨wa, wc, hv, -⟩ := s2.1
        subst hv
        clear s2 HSk d0
        obtain ⟨wb, wo, rfl⟩ := hsl2.addr hWne
        by_cases h6 : W.length = 6
        · rw [h6]
          rw [h6] at hsl2
          obtain ⟨a, b, c, d, e, f, hWW⟩ := six h6
          have y0 : w2.cell? ⟨wb, wo, none⟩ = some (.string a) := by subst hWW; exact Strs.at hsl2.get (k := 0) (by simp)
          have y1 : w2.cell? ⟨wb, wo + 1, none⟩ = some (.string b) := by subst hWW; exact Strs.at hsl2.get (k := 1) (by simp)
          have y2 : w2.cell? ⟨wb, wo + 2, none⟩ = some (.string c) := by subst hWW; exact Strs.at hsl2.get (k := 2) (by simp)
          have y3 : w2.cell? ⟨wb, wo + 3, none⟩ = some (.string d) := by subst hWW; exact Strs.at hsl2.get (k := 3) (by simp)
          have y4 : w2.cell? ⟨wb, wo + 4, none⟩ = some (.string e) := by subst hWW; exact Strs.at hsl2.get (k := 4) (by simp)
          have y5 : w2.cell? ⟨wb, wo + 5, none⟩ = some (.string f) := by subst hWW; exact Strs.at hsl2.get (k := 5) (by simp)
          have Hfit : Hid (∀ x, LineOf ln.data.toList x → NumOf a x.crane ∧ c = ⟨#[101, 118, 101, 114, 121]⟩ ∧ NumOf d x.every ∧ e = ⟨#[108, 97, 115, 116]⟩ ∧ NumOf f x.last) := Lib.hid (fun x hx => by
            obtain ⟨h1, h2, h3, h4⟩ := Hwd.out x hx
            rw [hWW] at h1
            unfold wordsB at h1
            simp only [List.cons.injEq, and_true] at h1
            obtain ⟨rfl, -, rfl, rfl, rfl, rfl⟩ := h1
            exact ⟨h2, rfl, h3, rfl, h4⟩)
          have Hlo2 : Hid (c = ⟨#[101, 118, 101, 114, 121]⟩ → e = ⟨#[108, 97, 115, 116]⟩ → numB a = true → numB d = true → numB f = true → LineOf ln.data.toList ⟨numV a, b, numV d, numV f⟩) := Lib.hid (fun h1 h2 h3 h4 h5 => Hlo.out a b d f (by rw [hWW, h1, h2]) (numB_of h3) (numB_of h4) (numB_of h5))
          have ma : a.size ≤ maxLen := Hwl.out a (by rw [hWW]; simp)
          have md : d.size ≤ maxLen := Hwl.out d (by rw [hWW]; simp)
          have mf : f.size ≤ maxLen := Hwl.out f (by rw [hWW]; simp)
          have HNa : Hid (∀ W, Calls Tryd.prog 10 #[.string a] W fun e w' => e = .returned (.tuple #[.int .i64 (numV a), .bool (numB a)]) ∧ Below W.heap.size W w') := Lib.hid (fun W => spec_Number a W ma)
          have HNd : Hid (∀ W, Calls Tryd.prog 10 #[.string d] W fun e w' => e = .returned (.tuple #[.int .i64 (numV d), .bool (numB d)]) ∧ Below W.heap.size W w') := Lib.hid (fun W => spec_Number d W md)
          have HNf : Hid (∀ W, Calls Tryd.prog 10 #[.string f] W fun e w' => e = .returned (.tuple #[.int .i64 (numV f), .bool (numB f)]) ∧ Below W.heap.size W w') := Lib.hid (fun W => spec_Number f W mf)
          clear hWW h6 hsl2 hWne hWb Hwd Hlo Hwl ma md mf
          have b2lt := World.block_lt_of_cell? w2 _ y0
          have hl6 := len_strs (some ⟨wb, wo, none⟩) 6 wc w2
          by_cases hc : c = ⟨#[101, 118, 101, 114, 121]⟩
          · by_cases he : e = ⟨#[108, 97, 115, 116]⟩
            · have hq2 := toL_eq (l := [101, 118, 101, 114, 121]) hc
              have hq4 := toL_eq (l := [108, 97, 115, 116]) he
              rcases nums_cases a d f with hn | hn | hn | hn
              · obtain ⟨hn1, -⟩ := hn
                have Hbad := Lib.hid (Hrej.out (fun x hx => by have h := (num_t (Hfit.out x hx).1).1; rw [hn1] at h; cases h))
                rw [hn1] at HNa
                clear hn1 hc he Hfit Hlo2
                repeat (first | go_values | go_skip | go_guarded | go_step | go_upon | go_back)
                rw [hl6]
                go_simp
                repeat (first | go_values | go_skip | go_guarded | go_step | go_upon | go_back)
                refine (HNa.out _).mono ?_
                rintro e3 w3 ⟨rfl, b3⟩
                have y3' := (b3.cell (p := ⟨wb, wo + 3, none⟩) b2lt).trans y3
                have b3lt := Nat.lt_of_lt_of_le b2lt b3.size
                dsimp only
                repeat (first | go_values | go_skip | go_guarded | go_step | go_upon | go_back)
                refine (HNd.out _).mono ?_
                rintro e4 w4 ⟨rfl, b4⟩
                have y5' := (b4.cell (p := ⟨wb, wo + 5, none⟩) b3lt).trans ((b3.cell (p := ⟨wb, wo + 5, none⟩) b2lt).trans y5)
                have b4lt := Nat.lt_of_lt_of_le b3lt b4.size
                dsimp only
                repeat (first | go_values | go_skip | go_guarded | go_step | go_upon | go_back)
                refine (HNf.out _).mono ?_
                rintro e5 w5 ⟨rfl, b5⟩
                have y1' := (b5.cell (p := ⟨wb, wo + 1, none⟩) b4lt).trans ((b4.cell (p := ⟨wb, wo + 1, none⟩) b3lt).trans ((b3.cell (p := ⟨wb, wo + 1, none⟩) b2lt).trans y1))
                have b25 : Below w2.heap.size w2 w5 := b3.trans ((b4.trans (b5.mono b4.size)).mono b3.size)
                have hB5 := hB2.trans (b25.mono hB2.size)
                dsimp only
                repeat (first | go_values | go_skip | go_guarded | go_step | go_upon | go_back)
                go_ret2
                exact rd_none Hbad.out (b1.trans (hB5.mono z1))
              · obtain ⟨hn1, hn2, -⟩ := hn
                have Hbad := Lib.hid (Hrej.out (fun x hx => by have h := (num_t (Hfit.out x hx).2.2.1).1; rw [hn2] at h; cases h))
                rw [hn1] at HNa
                rw [hn2] at HNd
                clear hn1 hn2 hc he Hfit Hlo2
                repeat (first | go_values | go_skip | go_guarded | go_step | go_upon | go_back)
                rw [hl6]
                go_simp
                repeat (first | go_values | go_skip | go_guarded | go_step | go_upon | go_back)
                refine (HNa.out _).mono ?_
                rintro e3 w3 ⟨rfl, b3⟩
                have y3' := (b3.cell (p := ⟨wb, wo + 3, none⟩) b2lt).trans y3
                have b3lt := Nat.lt_of_lt_of_le b2lt b3.size
                dsimp only
                repeat (first | go_values | go_skip | go_guarded | go_step | go_upon | go_back)
                refine (HNd.out _).mono ?_
                rintro e4 w4 ⟨rfl, b4⟩
                have y5' := (b4.cell (p := ⟨wb, wo + 5, none⟩) b3lt).trans ((b3.cell (p := ⟨wb, wo + 5, none⟩) b2lt).trans y5)
                have b4lt := Nat.lt_of_lt_of_le b3lt b4.size
                dsimp only
                repeat (first | go_values | go_skip | go_guarded | go_step | go_upon | go_back)
                refine (HNf.out _).mono ?_
                rintro e5 w5 ⟨rfl, b5⟩
                have y1' := (b5.cell (p := ⟨wb, wo + 1, none⟩) b4lt).trans ((b4.cell (p := ⟨wb, wo + 1, none⟩) b3lt).trans ((b3.cell (p := ⟨wb, wo + 1, none⟩) b2lt).trans y1))
                have b25 : Below w2.heap.size w2 w5 := b3.trans ((b4.trans (b5.mono b4.size)).mono b3.size)
                have hB5 := hB2.trans (b25.mono hB2.size)
                dsimp only
                repeat (first | go_values | go_skip | go_guarded | go_step | go_upon | go_back)
                go_ret2
                exact rd_none Hbad.out (b1.trans (hB5.mono z1))
              · obtain ⟨hn1, hn2, hn3⟩ := hn
                have Hbad := Lib.hid (Hrej.out (fun x hx => by have h := (num_t (Hfit.out x hx).2.2.2.2).1; rw [hn3] at h; cases h))
                rw [hn1] at HNa
                rw [hn2] at HNd
                rw [hn3] at HNf
                clear hn1 hn2 hn3 hc he Hfit Hlo2
                repeat (first | go_values | go_skip | go_guarded | go_step | go_upon | go_back)
                rw [hl6]
                go_simp
                repeat (first | go_values | go_skip | go_guarded | go_step | go_upon | go_back)
                refine (HNa.out _).mono ?_
                rintro e3 w3 ⟨rfl, b3⟩
                have y3' := (b3.cell (p := ⟨wb, wo + 3, none⟩) b2lt).trans y3
                have b3lt := Nat.lt_of_lt_of_le b2lt b3.size
                dsimp only
                repeat (first | go_values | go_skip | go_guarded | go_step | go_upon | go_back)
                refine (HNd.out _).mono ?_
                rintro e4 w4 ⟨rfl, b4⟩
                have y5' := (b4.cell (p := ⟨wb, wo + 5, none⟩) b3lt).trans ((b3.cell (p := ⟨wb, wo + 5, none⟩) b2lt).trans y5)
                have b4lt := Nat.lt_of_lt_of_le b3lt b4.size
                dsimp only
                repeat (first | go_values | go_skip | go_guarded | go_step | go_upon | go_back)
                refine (HNf.out _).mono ?_
                rintro e5 w5 ⟨rfl, b5⟩
                have y1' := (b5.cell (p := ⟨wb, wo + 1, none⟩) b4lt).trans ((b4.cell (p := ⟨wb, wo + 1, none⟩) b3lt).trans ((b3.cell (p := ⟨wb, wo + 1, none⟩) b2lt).trans y1))
                have b25 : Below w2.heap.size w2 w5 := b3.trans ((b4.trans (b5.mono b4.size)).mono b3.size)
                have hB5 := hB2.trans (b25.mono hB2.size)
                dsimp only
                repeat (first | go_values | go_skip | go_guarded | go_step | go_upon | go_back)
                go_ret2
                exact rd_none Hbad.out (b1.trans (hB5.mono z1))
              · obtain ⟨hn1, hn2, hn3⟩ := hn
                have Hx := Lib.hid (Hlo2.out hc he hn1 hn2 hn3)
                rw [hn1] at HNa
                rw [hn2] at HNd
                rw [hn3] at HNf
                clear hn1 hn2 hn3 hc he Hfit Hlo2
                generalize numV a = na at *
                generalize numV d = nd at *
                generalize numV f = nf at *
                repeat (first | go_values | go_skip | go_guarded | go_step | go_upon | go_back)
                rw [hl6]
                go_simp
                repeat (first | go_values | go_skip | go_guarded | go_step | go_upon | go_back)
                refine (HNa.out _).mono ?_
                rintro e3 w3 ⟨rfl, b3⟩
                have y3' := (b3.cell (p := ⟨wb, wo + 3, none⟩) b2lt).trans y3
                have b3lt := Nat.lt_of_lt_of_le b2lt b3.size
                dsimp only
                repeat (first | go_values | go_skip | go_guarded | go_step | go_upon | go_back)
                refine (HNd.out _).mono ?_
                rintro e4 w4 ⟨rfl, b4⟩
                have y5' := (b4.cell (p := ⟨wb, wo + 5, none⟩) b3lt).trans ((b3.cell (p := ⟨wb, wo + 5, none⟩) b2lt).trans y5)
                have b4lt := Nat.lt_of_lt_of_le b3lt b4.size
                dsimp only
                repeat (first | go_values | go_skip | go_guarded | go_step | go_upon | go_back)
                refine (HNf.out _).mono ?_
                rintro e5 w5 ⟨rfl, b5⟩
                have y1' := (b5.cell (p := ⟨wb, wo + 1, none⟩) b4lt).trans ((b4.cell (p := ⟨wb, wo + 1, none⟩) b3lt).trans ((b3.cell (p := ⟨wb, wo + 1, none⟩) b2lt).trans y1))
                have b25 : Below w2.heap.size w2 w5 := b3.trans ((b4.trans (b5.mono b4.size)).mono b3.size)
                have hB5 := hB2.trans (b25.mono hB2.size)
                dsimp only
                have z5 := hB5.size
                have hown5 := hown1.below (b2.trans (b25.mono b2.size))
                repeat (first | (at_builtin; refine wpList_app1 (c := Chk.cells) (bytes := 40) rfl _ _ 22 33 rfl Tryd.underlying22 info_Chks (by omega) Chk.len Chk.ones w1.heap.size acc ⟨na, b, nd, nf⟩ _ rfl w5 rfl hown5 rfl (by omega) (by omega) (by omega) ?_; intro v' w6 hown6 hg6) | go_values | go_skip | go_guarded | go_step | go_upon | go_back)
                have hB6 := hown5.app hB5 (Nat.le_refl _) z5 hg6
                go_roundw
                case rel => exact ⟨k + 1, acc ++ [⟨na, b, nd, nf⟩], _, rfl, by omega, by go_num, by rw [List.length_append]; simp; omega, hB6, Lib.hid hown6, Lib.hid (Hgrow.out _ Hx.out)⟩
                case measure => simp [intOf]; omega
            · have Hbad := Lib.hid (Hrej.out (fun x hx => he (Hfit.out x hx).2.2.2.1))
              have hq2 := toL_eq (l := [101, 118, 101, 114, 121]) hc
              have hq4 := toL_neb (l := [108, 97, 115, 116]) he
              clear hc he
              repeat (first | go_values | go_skip | go_guarded | go_step | go_upon | go_back)
              rw [hl6]
              go_simp
              repeat (first | go_values | go_skip | go_guarded | go_step | go_upon | go_back)
              go_ret2
              exact rd_none Hbad.out (b1.trans (hB2.mono z1))
          · have Hbad := Lib.hid (Hrej.out (fun x hx => hc (Hfit.out x hx).2.1))
            have hq2 := toL_ne (l := [101, 118, 101, 114, 121]) hc
            clear hc
            repeat (first | go_values | go_skip | go_guarded | go_step | go_upon | go_back)
            rw [hl6]
            go_simp
            repeat (first | go_values | go_skip | go_guarded | go_step | go_upon | go_back)
            go_ret2
            exact rd_none Hbad.out (b1.trans (hB2.mono z1))
        · have Hbad := Lib.hid (Hrej.out (fun x hx => h6 (by rw [(Hwd.out x hx).1]; rfl)))
          have hq6 : ((W.length : Int) == 6) = false := by rw [beq_eq_false_iff_ne]; omega
          have hq6b : ((W.length : Int) != 6) = true := by rw [bne_iff_ne]; omega
          have hl6 := len_strs (some ⟨wb, wo, none⟩) W.length wc w2
          clear h6
          repeat (first | go_values | go_skip | go_guarded | go_step | go_upon | go_back)
          rw [hl6]
          go_simp
          repeat (first | go_values | go_skip | go_guarded | go_step | go_upon | go_back)
          go_ret2
          exact rd_none Hbad.out (b1.trans (hB2.mono z1))
      · have hkk : k = F.length - 1 := by omega
        have hlen : F.length = acc.length + 1 := by omega
        have hwf : ∀ x ∈ acc, x.wf := fun x hx => by
          obtain ⟨i, hi, rfl⟩ := List.getElem_of_mem hx
          have hi2 : i < F.length := by omega
          have hL := hline.out i hi hi2
          obtain ⟨g1, g2, g3⟩ := line_i64 hL
          refine ⟨g1, ?_, g2, g3⟩
          have h1 := Hpl.out i hi2
          have h2 := line_name hL
          have h3 : F[i].data.toList.length = F[i].size := Array.length_toList
          unfold maxLen
          omega
        have hV := spec_l26Ok ov acc _ _ wr (hown.out.slw Chk.len).1 hwf
        have Hsl := Lib.hid (hown.out.slw Chk.len)
        have Hcl : Hid (∀ m, RcT s m → m = acc) := Lib.hid (fun m h => by
          have e := rct_lines h
          rw [← HF.out] at e
          have hlm : F.length = m.length + 1 := by rw [e]; simp
          refine List.ext_getElem (by omega) (fun i h1 h2 => ?_)
          have hi2 : i < F.length := by omega
          have hL := hline.out i h2 hi2
          have e2 : F[i] = (⟨(lineL m[i]).toArray⟩ : ByteArray) := by
            have e3 : F[i]? = some (⟨(lineL m[i]).toArray⟩ : ByteArray) := by
              rw [e, List.getElem?_append_left (by simpa using h1), List.getElem?_map, List.getElem?_eq_getElem h1]
              rfl
            rw [List.getElem?_eq_getElem hi2] at e3
            exact Option.some.inj e3
          rw [e2] at hL
          exact (ok_line (chks_all h.1 _ (List.getElem_mem h1))).uniq hL)
        have Hyes : Hid (chksOk acc → RcT s acc) := Lib.hid (fun h => Hof.out acc h hlen (fun h => by have := He.out; simp only [hlen] at this ⊢; simpa using this) hline.out)
        cases hqv : chksB acc
        · rw [hqv] at hV
          have HV := Lib.hid hV
          have Hno : Hid (∀ m, ¬ RcT s m) := Lib.hid (fun m h => by
            have e := Hcl.out m h
            subst e
            have := chksB_t h.1
            rw [hqv] at this
            cases this)
          clear hV hqv hwf hlen
          go_wp2_with (go_at_call 11; refine HV.out.mono ?_; rintro e w3 ⟨rfl, b3⟩)
          go_ret2
          exact rd_none Hno.out (b1.trans ((hB.trans (b3.mono zr)).mono z1))
        · rw [hqv] at hV
          have HV := Lib.hid hV
          have Hrc := Lib.hid (Hyes.out (chksB_iff.1 hqv))
          clear hV hqv hwf hlen
          go_wp2_with (go_at_call 11; refine HV.out.mono ?_; rintro e w3 ⟨rfl, b3⟩)
          go_ret2
          exact ⟨acc, true, .inl ⟨rfl, Hrc.out⟩, _, rfl, ((Hsl.out.ext (Nat.le_refl _) b3).mono' z1).fresh b3.size, b1.trans ((hB.trans (b3.mono zr)).mono z1)⟩
  · have Hbad := Lib.hid (fun m (h : RcT s m) => hok ⟨(Hrl.out m h).2 hFl, (Hrl.out m h).1⟩)
    by_cases he : F[F.length - 1] = ⟨#[]⟩
    · have h31 : 31 < F.length := Nat.lt_of_not_le (fun h => hok ⟨he, h⟩)
      have hq := emp2_t he
      clear hok he
      generalize F[F.length - 1] = z at *
      go_wp2
      go_ret2
      exact rd_none Hbad.out (b1.alloc z1 _)
    · have hq := emp2_f he
      clear hok he
      generalize F[F.length - 1] = z at *
      go_wp2
      go_ret2
      exact rd_none Hbad.out (b1.alloc z1 _)
end Go.Proofs.YtmglcdmccikinaaDoor
