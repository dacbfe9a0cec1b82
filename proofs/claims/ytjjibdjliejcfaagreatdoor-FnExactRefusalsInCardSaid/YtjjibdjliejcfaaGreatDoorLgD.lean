/- The log: the reference reads a line. -/
import Derived.Test.YtjjibdjliejcfaaGreatDoorLgR
import Derived.Test.YtjjibdjliejcfaaGreatDoorLgV
import Derived.Test.YtjjibdjliejcfaaGreatDoorTEntry
import Derived.Test.YtjjibdjliejcfaaGreatDoorOwn
import Derived.Test.YtjjibdjliejcfaaGreatDoorPh
import Derived.Test.YtjjibdjliejcfaaGreatDoorOwf
import Derived.Test.YtjjibdjliejcfaaGreatDoorNX
import Derived.Handy
namespace Go.Proofs.YtjjibdjliejcfaaGreatDoor
open Go.RowKit
theorem Ent.one (x : Ent) : ∀ u ∈ x.cells, u.oneCell' = true := by intro u hu; simp [Ent.cells] at hu; rcases hu with rfl | rfl | rfl <;> rfl
theorem info_Ent1 : (Tryz.prog.info? 48).map (fun i => (i.zero.map (·.cells.size), i.size, i.bytes)) = some (some 3, 3, 40) := by kernel_rfl
/-- The reference's reader, in block p (from B on). -/
structure RBox (B p : Nat) (sa : Option Addr) (n cap : Nat) (s : ByteArray) (t : LgSt) (w : World) : Prop where
  lo : B ≤ p
  box : ∃ ea en ec, w.heap[p]? = some (.cells #[.slice sa n cap, .string s, .int .i64 t.pos, .int .i64 t.sign, .int .i64 t.last, .slice ea en ec] 58 (0, 0)) ∧ Own 3 Ent.cells B 48 w (.slice ea en ec) t.es
  pos : t.pos ≤ s.size
  sg : 0 ≤ t.sign ∧ t.sign ≤ 65520
  last : 0 ≤ t.last ∧ t.last ≤ 1000000
  cnt : t.es.length ≤ t.pos
theorem RBox.cells {B p : Nat} {sa : Option Addr} {n cap : Nat} {s : ByteArray} {t : LgSt} {w : World} (h : RBox B p sa n cap s t w) : ∃ ea en ec, w.cell? ⟨p, 0, none⟩ = some (.slice sa n cap) ∧ w.cell? ⟨p, 1, none⟩ = some (.string s) ∧ w.cell? ⟨p, 2, none⟩ = some (.int .i64 t.pos) ∧ w.cell? ⟨p, 3, none⟩ = some (.int .i64 t.sign) ∧ w.cell? ⟨p, 4, none⟩ = some (.int .i64 t.last) ∧ w.cell? ⟨p, 5, none⟩ = some (.slice ea en ec) ∧ Own 3 Ent.cells B 48 w (.slice ea en ec) t.es ∧ p < w.heap.size := by
  obtain ⟨ea, en, ec, hb, ho⟩ := h.box
  exact ⟨ea, en, ec, (Lib.cell_of_heap hb 0).trans rfl, (Lib.cell_of_heap hb 1).trans rfl, (Lib.cell_of_heap hb 2).trans rfl, (Lib.cell_of_heap hb 3).trans rfl, (Lib.cell_of_heap hb 4).trans rfl, (Lib.cell_of_heap hb 5).trans rfl, ho, (Array.getElem?_eq_some_iff.1 hb).1⟩
theorem RBox.ext {B p : Nat} {sa : Option Addr} {n cap : Nat} {s : ByteArray} {t : LgSt} {w w' : World} (h : RBox B p sa n cap s t w) (hb : Below w.heap.size w w') : RBox B p sa n cap s t w' := by
  obtain ⟨ea, en, ec, h1, ho⟩ := h.box
  exact ⟨h.lo, ⟨ea, en, ec, (hb.block p (Array.getElem?_eq_some_iff.1 h1).1).trans h1, ho.below hb⟩, h.pos, h.sg, h.last, h.cnt⟩
/-- What reading a line does. -/
def LineRes (B p : Nat) (sa : Option Addr) (l : List Sgn) (cap : Nat) (s : ByteArray) (t : LgSt) (w : World) (e : Ending) (w' : World) : Prop :=
  (∃ u, nextL l s t = some u ∧ e = .returned (.bool true) ∧ RBox B p sa l.length cap s u w' ∧ Below B w w') ∨ (nextL l s t = none ∧ e = .returned (.bool false) ∧ RBox B p sa l.length cap s t w' ∧ Below B w w')
theorem keyOf_bd {n : ByteArray} : ∀ {l : List Sgn}, (∀ y ∈ l, 1 ≤ y.key ∧ y.key ≤ 65520) → ¬ keyOf l n = 0 → 1 ≤ keyOf l n ∧ keyOf l n ≤ 65520
  | [], _, h => absurd rfl h
  | x :: r, hk, h => by
    unfold keyOf at h ⊢
    split
    · exact hk x List.mem_cons_self
    · rename_i hx
      rw [if_neg hx] at h
      exact keyOf_bd (fun y hy => hk y (List.mem_cons_of_mem _ hy)) h
theorem RBox.made {B p : Nat} {sa : Option Addr} {n cap : Nat} {s : ByteArray} {w : World} {a b c : Int} {v0 : Value} {va : Option Addr} {m vc pos : Nat} {sg la P : Int} {es : List Ent} (hlo : B ≤ p) (hx : w.heap[p]? = some (.cells #[.slice sa n cap, .string s, .int .i64 a, .int .i64 b, .int .i64 c, v0] 58 (0, 0)))
    (ho : Own 3 Ent.cells B 48 w (.slice va es.length vc) es) (hpos : pos ≤ s.size) (hsg : 0 ≤ sg ∧ sg ≤ 65520) (hla : 0 ≤ la ∧ la ≤ 1000000) (hc : es.length ≤ pos) (hm : m = es.length) (hP : P = (pos : Int) := by rfl) :
    RBox B p sa n cap s ⟨pos, sg, la, es⟩ ((((w.setCell ⟨p, 5, none⟩ (.slice va m vc)).setCell ⟨p, 3, none⟩ (.int .i64 sg)).setCell ⟨p, 4, none⟩ (.int .i64 la)).setCell ⟨p, 2, none⟩ (.int .i64 P)) := by
  subst hP hm
  obtain ⟨o1, c1, h1, rfl⟩ := own_keepP (j := 5) (u := .slice va es.length vc) ho hx (by decide)
  obtain ⟨o2, c2, h2, rfl⟩ := own_keepP (j := 3) (u := .int .i64 sg) o1 h1 (by decide)
  obtain ⟨o3, c3, h3, rfl⟩ := own_keepP (j := 4) (u := .int .i64 la) o2 h2 (by decide)
  obtain ⟨o4, c4, h4, rfl⟩ := own_keepP (j := 2) (u := .int .i64 pos) o3 h3 (by decide)
  refine ⟨hlo, ⟨va, es.length, vc, ?_, o4⟩, hpos, hsg, hla, hc⟩
  rw [h4]
  rfl
theorem CutAt.size {s a b : ByteArray} {ok : Bool} (h : CutAt s a b ok) : a.size ≤ s.size ∧ b.size ≤ s.size := by
  rcases h with ⟨i, -, rfl, rfl, -⟩ | ⟨-, rfl, rfl, -⟩
  · rw [ByteArray.size_extract, ByteArray.size_extract]; omega
  · exact ⟨Nat.le_refl _, by simp⟩
set_option maxRecDepth 100000 in
set_option maxHeartbeats 8000000 in
theorem spec_LineR (B p : Nat) (sa : Option Addr) (l : List Sgn) (cap lo hi : Nat) (s : ByteArray) (t : LgSt) (w : World) (h : RBox B p sa l.length cap s t w) (hl : Sgns lo hi w (.slice sa l.length cap) l) (hs : s.size ≤ 4000) (hB : B ≤ w.heap.size) (hkb : ∀ y ∈ l, 1 ≤ y.key ∧ y.key ≤ 65520) :
    Calls Tryz.prog 81 #[.pointer (some ⟨p, 0, none⟩)] w (LineRes B p sa l cap s t w) := by
  have Hbox := Lib.hid h
  have Hl := Lib.hid hl
  have hpos := h.pos
  obtain ⟨ea, en, ec, c0, c1, c2, c3, c4, c5, -, hpw⟩ := h.cells
  clear h hl
  go_enter Tryz.func81, Tryz.ntmps81
  go_wp2
  go_loop [3] (fun i => ∃ k : Nat, t.pos ≤ k ∧ k ≤ s.size ∧ i = .int .i64 k ∧ Hid (∀ j (h : j < s.size), t.pos ≤ j → j < k → ¬ s[j].toNat = 10)) (fun i => s.size - (intOf i).toNat)
  case atStart => exact ⟨t.pos, Nat.le_refl _, hpos, rfl, Lib.hid (fun _ _ h1 h2 => absurd h1 (by omega))⟩
  case round =>
    obtain ⟨k, hk0, hk, rfl, hh⟩ := hrel
    by_cases hlt : k < s.size
    · have Hst : Hid (¬ s[k].toNat = 10 → ∀ j (h : j < s.size), t.pos ≤ j → j < k + 1 → ¬ s[j].toNat = 10) := Lib.hid (fun h j hj h1 hjk => by
        by_cases e : j < k
        · exact hh.out j hj h1 e
        · have : j = k := by omega
          subst this; exact h)
      have Hnl : Hid (s[k].toNat = 10 → NlAt s t.pos k) := Lib.hid (fun h => ⟨hk0, hlt, h, hh.out⟩)
      have hc : s[k].toNat < 256 := s[k].toNat_lt
      by_cases h10 : s[k].toNat = 10
      · have hNl := Lib.hid (Hnl.out h10)
        have hq : ((s[k].toNat : Int) != 10) = false := by rw [bne_eq_false_iff_eq]; omega
        have hk1 : (0 : Int) ≤ (t.pos : Int) := by omega
        have hk2 : (t.pos : Int) ≤ (k : Int) := by omega
        have hk3 : (k : Int) ≤ (s.size : Int) := by omega
        clear Hst Hnl h10
        go_wp2_with fail
        have hC1 := spec_Cut (s.extract t.pos k)
        go_region_held3 (fun w' => (∀ b' o', b' < w.heap.size → w'.cell? ⟨b', o', none⟩ = w.cell? ⟨b', o', none⟩) ∧ Below w.heap.size w w') (first | (refine heldB ?_; go_grown; done))
          (first | (go_at_call 93; refine (hC1 _ (by rw [ByteArray.size_extract]; unfold maxLen; omega)).mono ?_; rintro e w1 ⟨a1, r1, o1, rfl, hc1, hb1'⟩; have b1 : Below w.heap.size w w1 := Below.trans (by go_grown) (hb1'.mono (by go_size))))
        have Hc1 := Lib.hid hc1
        have z1 := hc1.size
        rw [ByteArray.size_extract] at z1
        have B1 := Lib.hid b1
        clear hc1 hb1' b1 hC1
        go_wp2_with fail
        refine (spec_Cut r1 _ (by unfold maxLen; omega)).mono ?_
        rintro e w2 ⟨a2, r2, o2, rfl, hc2, b2⟩
        have Hc2 := Lib.hid hc2
        have z2 := hc2.size
        have B2 := Lib.hid (B1.out.trans (b2.mono B1.out.size))
        clear hc2 b2
        go_wp2_with fail
        refine (spec_Cut r2 _ (by unfold maxLen; omega)).mono ?_
        rintro e w3 ⟨a3, r3, o3, rfl, hc3, b3⟩
        have Hc3 := Lib.hid hc3
        have z3 := hc3.size
        have B3 := Lib.hid (B2.out.trans (b3.mono B2.out.size))
        clear hc3 b3
        go_wp2_with fail
        refine (spec_Number a2 _ (by unfold maxLen; omega)).mono ?_
        rintro e w4 ⟨rfl, b4⟩
        have B4 := Lib.hid (B3.out.trans (b4.mono B3.out.size))
        clear b4 c0 c1 c2 c3 c4 c5
        have hbox4 := Hbox.out.ext B4.out
        obtain ⟨ea', en', ec', c0, c1, c2, c3, c4, c5, -, hpw4⟩ := hbox4.cells
        have hnv := numV_i64 a2
        have hba : Below w4.heap.size w4 (w4.alloc (.cells #[.int .i64 (numV a2), .string a3, .string r3] 48)) := (Below.refl _ _).alloc (Nat.le_refl _) _
        have eA : (w4.alloc (.cells #[.int .i64 (numV a2), .string a3, .string r3] 48)).heap[w4.heap.size]? = some (.cells #[.int .i64 (numV a2), .string a3, .string r3] 48) := Array.getElem?_push_size
        obtain ⟨W, hW⟩ : ∃ W, w4.alloc (.cells #[.int .i64 (numV a2), .string a3, .string r3] 48) = W := ⟨_, rfl⟩
        rw [hW] at hba eA
        have HW := Lib.hid hW
        have Hba := Lib.hid hba
        have B5 := Lib.hid (B4.out.trans (hba.mono B4.out.size))
        have EA := Lib.hid eA
        have hKey := spec_Key _ l a3 lo hi W (Hl.out.ext B5.out)
        have hPl := spec_Plain w4.heap.size 0 ⟨numV a2, a3, r3⟩ W (fun j u hu => by
          rw [Nat.zero_add, Lib.cell_of_heap eA]
          simpa [Ent.cells] using hu) ⟨hnv, by show a3.size ≤ maxLen; unfold maxLen; omega, by show r3.size ≤ maxLen; unfold maxLen; omega⟩
        have HK := Lib.hid hKey
        clear hKey hW hba eA
        have Hno := Lib.hid (fun (h : ¬ (o1 = true ∧ o2 = true ∧ o3 = true ∧ numB a2 = true ∧ (⟨numV a2, a3, r3⟩ : Ent).plain ∧ ¬ keyOf l a3 = 0 ∧ t.last ≤ numV a2)) => nextL_none (l := l) (s := s) (t := t) (fun u hu => by
          obtain ⟨q1, q2, q3, -, q4, q5, q6, q7, -⟩ := step_parse hu hNl.out Hc1.out Hc2.out Hc3.out
          exact h ⟨q1, q2, q3, q4, q5, q6, q7⟩))
        have hbox5 := Hbox.out.ext B5.out
        have Hb5 := Lib.hid hbox5
        obtain ⟨fa, fn, fc, d0, d1, d2, d3, d4, d5, -, hpw5⟩ := hbox5.cells
        clear hbox5 hbox4
        cases o1
        · have Hr := Lib.hid (Hno.out (fun h => by cases h.1))
          clear Hno hPl
          go_wp2_with fail
          rw [HW.out]
          refine HK.out.mono ?_
          rintro e w5 ⟨rfl, rfl⟩
          go_wp2
          go_ret
          exact .inr ⟨Hr.out, rfl, Hb5.out, B5.out.mono hB⟩
        cases o2
        · have Hr := Lib.hid (Hno.out (fun h => by cases h.2.1))
          clear Hno hPl
          go_wp2_with fail
          rw [HW.out]
          refine HK.out.mono ?_
          rintro e w5 ⟨rfl, rfl⟩
          go_wp2
          go_ret
          exact .inr ⟨Hr.out, rfl, Hb5.out, B5.out.mono hB⟩
        cases o3
        · have Hr := Lib.hid (Hno.out (fun h => by cases h.2.2.1))
          clear Hno hPl
          go_wp2_with fail
          rw [HW.out]
          refine HK.out.mono ?_
          rintro e w5 ⟨rfl, rfl⟩
          go_wp2
          go_ret
          exact .inr ⟨Hr.out, rfl, Hb5.out, B5.out.mono hB⟩
        cases hnb : numB a2
        · have Hr := Lib.hid (Hno.out (fun h => by rw [hnb] at h; cases h.2.2.2.1))
          clear Hno hPl
          go_wp2_with fail
          rw [HW.out]
          refine HK.out.mono ?_
          rintro e w5 ⟨rfl, rfl⟩
          go_wp2
          go_ret
          exact .inr ⟨Hr.out, rfl, Hb5.out, B5.out.mono hB⟩
        generalize hn : numV a2 = n at *
        by_cases hpl : (⟨n, a3, r3⟩ : Ent).plain
        · rw [plainB_t hpl] at hPl
          have HP := Lib.hid hPl
          clear hPl
          by_cases hk0 : keyOf l a3 = 0
          · have Hr := Lib.hid (Hno.out (fun h => h.2.2.2.2.2.1 hk0))
            clear Hno
            generalize keyOf l a3 = kk at *
            subst hk0
            go_wp2_with fail
            rw [HW.out]
            refine HK.out.mono ?_
            rintro e w5 ⟨rfl, rfl⟩
            go_wp2_with (go_at_call 58; refine HP.out.mono ?_; rintro e w6 ⟨rfl, rfl⟩)
            go_ret
            exact .inr ⟨Hr.out, rfl, Hb5.out, B5.out.mono hB⟩
          · have hkbd := keyOf_bd hkb hk0
            by_cases hla : t.last ≤ n
            · have hq0 : (keyOf l a3 == 0) = false := beq_eq_false_iff_ne.2 hk0
              have hq1 : decide (n < t.last) = false := decide_eq_false (by omega)
              have hcl : ∀ w' : World, Below W.heap.size W w' → ∀ j u, (Ent.cells ⟨n, a3, r3⟩)[j]? = some u → w'.cell? ⟨w4.heap.size, 0 + j, none⟩ = some u := fun w' hb j u hu => by
                rw [hb.cell (p := ⟨w4.heap.size, 0 + j, none⟩) (Array.getElem?_eq_some_iff.1 EA.out).1, Nat.zero_add, Lib.cell_of_heap EA.out]
                simpa [Ent.cells] using hu
              have HS := Lib.hid (spec_Sign (keyOf l a3) t.sign w4.heap.size 0 ⟨n, a3, r3⟩ W hkbd Hb5.out.sg (hcl W (Below.refl _ _)) hpl)
              have hsgb := signE_bd (keyOf l a3) t.sign ⟨n, a3, r3⟩
              have HL := Lib.hid (fun w' (hb : Below W.heap.size W w') => spec_Line (signE (keyOf l a3) t.sign ⟨n, a3, r3⟩) w4.heap.size 0 ⟨n, a3, r3⟩ w' hsgb (hcl w' hb) hpl)
              have Hyes := Lib.hid (fun (h : lineB (signE (keyOf l a3) t.sign ⟨n, a3, r3⟩) ⟨n, a3, r3⟩ = s.extract t.pos (k + 1)) => nextL_some (l := l) (s := s) (t := t) (u := ⟨k + 1, signE (keyOf l a3) t.sign ⟨n, a3, r3⟩, n, t.es ++ [⟨n, a3, r3⟩]⟩) ⟨⟨n, a3, r3⟩, hpl, hk0, hla, rfl, (show k + 1 ≤ s.size by omega), h.symm, rfl, rfl⟩)
              have Hnn := Lib.hid (fun (h : ¬ lineB (signE (keyOf l a3) t.sign ⟨n, a3, r3⟩) ⟨n, a3, r3⟩ = s.extract t.pos (k + 1)) => nextL_none (l := l) (s := s) (t := t) (fun u hu => by
                obtain ⟨-, -, -, -, -, -, -, -, q8, q9⟩ := step_parse hu hNl.out Hc1.out Hc2.out Hc3.out
                rw [hn] at q8 q9
                apply h
                rw [q9, q8]))
              clear Hno hcl
              generalize signE (keyOf l a3) t.sign ⟨n, a3, r3⟩ = sg at *
              have hkk := Lib.hid hk0
              clear hk0
              generalize keyOf l a3 = kk at *
              have hn0 := Lib.hid hpl.1
              clear hpl hn hnb
              go_wp2_with fail
              rw [HW.out]
              refine HK.out.mono ?_
              rintro e w5 ⟨rfl, rfl⟩
              go_wp2_with (go_at_call 58; refine HP.out.mono ?_; rintro e w6 ⟨rfl, rfl⟩)
              refine HS.out.mono ?_
              rintro e w7 ⟨rfl, b7⟩
              have B7 := Lib.hid (B5.out.trans (b7.mono B5.out.size))
              have hbox7 := Hb5.out.ext b7
              have Hb7 := Lib.hid hbox7
              have HL7 := Lib.hid (fun w' (hb : Below w7.heap.size w7 w') => HL.out w' (b7.trans (hb.mono b7.size)))
              have HA7 := Lib.hid ((b7.block w4.heap.size (Array.getElem?_eq_some_iff.1 EA.out).1).trans EA.out)
              have b57 := Lib.hid b7
              clear d0 d1 d2 d3 d4 d5 c0 c1 c2 c3 c4 c5 HL HS HP HK b7
              obtain ⟨ga, gn, gc, d0, d1, d2, d3, d4, d5, -, hpw7⟩ := hbox7.cells
              clear hbox7
              have hk4 : (t.pos : Int) ≤ ((k : Int) + 1) := by omega
              have hk5 : ((k : Int) + 1) ≤ (s.size : Int) := by omega
              have hk6 : IntKind.i64.wrap ((k : Int) + 1) = (k : Int) + 1 := by apply wrap_small <;> omega
              by_cases hline : lineB sg ⟨n, a3, r3⟩ = s.extract t.pos (k + 1)
              · have Hr := Lib.hid (Hyes.out hline)
                have hq2 := sm_eqN hline
                clear hline Hyes Hnn
                go_wp2_with fail
                go_region_held3 (fun w' => (∀ b' o', b' < w7.heap.size → w'.cell? ⟨b', o', none⟩ = w7.cell? ⟨b', o', none⟩) ∧ Below w7.heap.size w7 w') (first | (refine heldB ?_; go_grown; done))
                  (first | (go_at_call 59; refine (HL7.out _ ?hb).mono ?_; (case hb => go_grown); rintro e w8 ⟨rfl, hb8⟩; have b8 : Below w7.heap.size w7 w8 := Below.trans (by go_grown) (hb8.mono (by go_size))))
                have B8 := Lib.hid (B7.out.trans (b8.mono B7.out.size))
                have Hb8 := Lib.hid (Hb7.out.ext b8)
                have B48 := Lib.hid ((Hba.out.trans (b57.out.mono Hba.out.size)).trans (b8.mono (Nat.le_trans Hba.out.size b57.out.size)))
                have hA8 := (b8.block w4.heap.size (Array.getElem?_eq_some_iff.1 HA7.out).1).trans HA7.out
                have q0 : w8.drew.cell? ⟨w4.heap.size, 0, none⟩ = some (.int .i64 n) := (Lib.cell_of_heap (w := w8.drew) hA8 0).trans rfl
                have q1 : w8.drew.cell? ⟨w4.heap.size, 1, none⟩ = some (.string a3) := (Lib.cell_of_heap (w := w8.drew) hA8 1).trans rfl
                have q2 : w8.drew.cell? ⟨w4.heap.size, 2, none⟩ = some (.string r3) := (Lib.cell_of_heap (w := w8.drew) hA8 2).trans rfl
                have hAlt : w4.heap.size < w8.drew.heap.size := (Array.getElem?_eq_some_iff.1 hA8).1
                clear d0 d1 d2 d3 d4 d5 b8 hb8 HL7
                obtain ⟨ha, hn', hc, hbx4, hown4⟩ := (Hbox.out.ext B4.out).box
                have hgq : ∀ g, (Value.slice ha hn' hc).ownBlock = some g → g < w4.heap.size := fun g hg => (World.ownsRow.lt hown4 g hg).2
                have hbx := (B48.out.block p (Array.getElem?_eq_some_iff.1 hbx4).1).trans hbx4
                have hown := hown4.below B48.out
                have hnp := own_ne hown hbx (by decide)
                have d5 : w8.drew.cell? ⟨p, 5, none⟩ = some (.slice ha hn' hc) := (Lib.cell_of_heap (w := w8.drew) hbx 5).trans rfl
                have hp8 : p < w8.drew.heap.size := (Array.getElem?_eq_some_iff.1 hbx).1
                have hB8 : B ≤ w8.drew.heap.size := Nat.le_trans hB B8.out.size
                have B8d := Lib.hid (show Below w.heap.size w w8.drew from B8.out.drew)
                have hcnt := Hbox.out.cnt
                have Ho8 := Lib.hid (show Own 3 Ent.cells B 48 w8.drew (.slice ha hn' hc) t.es from hown.drew)
                have Hx8 := Lib.hid (show w8.drew.heap[p]? = _ from hbx)
                have HA8 := Lib.hid (show w8.drew.heap[w4.heap.size]? = _ from hA8)
                clear hbx4 hown4 hown hbx hA8
                go_wp2_with fail
                refine region_ph 7 (fun w' => w'.cell? ⟨w4.heap.size, 0, none⟩ = some (.int .i64 n) ∧ w'.cell? ⟨w4.heap.size, 1, none⟩ = some (.string a3) ∧ w'.cell? ⟨w4.heap.size, 2, none⟩ = some (.string r3)) (fun w' => w'.cell? ⟨p, 5, none⟩ = some (.slice ha hn' hc)) (by kernel_rfl) ⟨q0, q1, q2⟩ d5 (fun hp => ?_)
                clear B8 Hb8 B48
                generalize w8.drew = wd at *
                refine take_ph 139 (i := 0) rfl rfl (by decide) (by kernel_rfl) (by kernel_rfl) (by kernel_rfl) (fun _ _ _ h => h) (by rfl) (fun w hSw => by (try dsimp only at hSw); go_simp; first | done | with_reducible rfl) hp (fun hp => ?_)
                try simp only [Act.put, List.setIfInBounds_toArray, List.set_cons_zero, List.set_cons_succ]
                refine take_ph 140 (i := 1) rfl rfl (by decide) (by kernel_rfl) (by kernel_rfl) (by kernel_rfl) (fun _ _ _ h => h) (by rfl) (fun w hSw => by (try dsimp only at hSw); go_simp; first | done | with_reducible rfl) hp (fun hp => ?_)
                try simp only [Act.put, List.setIfInBounds_toArray, List.set_cons_zero, List.set_cons_succ]
                refine take_ph 141 (i := 2) rfl rfl (by decide) (by kernel_rfl) (by kernel_rfl) (by kernel_rfl) (fun _ _ _ h => h) (by rfl) (fun w hSw => by (try dsimp only at hSw); go_simp; first | done | with_reducible rfl) hp (fun hp => ?_)
                try simp only [Act.put, List.setIfInBounds_toArray, List.set_cons_zero, List.set_cons_succ]
                refine take_ph 142 (i := 3) rfl rfl (by decide) (by kernel_rfl) (by kernel_rfl) (by kernel_rfl) (fun _ _ _ h => h) (by rfl) (fun w hSw => by (try dsimp only at hSw); go_simp; first | done | with_reducible rfl) hp (fun hp => ?_)
                try simp only [Act.put, List.setIfInBounds_toArray, List.set_cons_zero, List.set_cons_succ]
                refine take_ph1 143 (i := 4) rfl rfl (by decide) (by rfl) (by kernel_rfl) (by kernel_rfl) (by kernel_rfl) (by kernel_rfl) (fun _ _ _ h => h) (by rfl) (fun w hSw hBw => by (try dsimp only at hSw hBw); go_simp; first | done | with_reducible rfl) hp (fun hp => ?_)
                try simp only [Act.put, List.setIfInBounds_toArray, List.set_cons_zero, List.set_cons_succ]
                refine take_ph 144 (i := 5) rfl rfl (by decide) (by kernel_rfl) (by kernel_rfl) (by kernel_rfl) (fun _ _ _ h => h) (by rfl) (fun w hSw => by (try dsimp only at hSw); go_simp; first | done | with_reducible rfl) hp (fun hp => ?_)
                try simp only [Act.put, List.setIfInBounds_toArray, List.set_cons_zero, List.set_cons_succ]
                refine AnyL.one (i := 6) (by kernel_rfl) rfl (fun K hK => ?_)
                go_simp
                refine hK.out _ _ (ph1 ⟨by rw [World.cell?_alloc_lt _ _ _ (show w4.heap.size < _ from hAlt)]; exact q0, by rw [World.cell?_alloc_lt _ _ _ (show w4.heap.size < _ from hAlt)]; exact q1, by rw [World.cell?_alloc_lt _ _ _ (show w4.heap.size < _ from hAlt)]; exact q2⟩ (by rw [World.cell?_alloc_lt _ _ _ (show p < _ from hp8)]; exact d5)) (fun hp => ?_)
                clear hK
                try simp only [Act.put, List.setIfInBounds_toArray, List.set_cons_zero, List.set_cons_succ]
                refine AnyL.one (i := 7) (by kernel_rfl) rfl (fun K hK => ?_)
                refine step_app1 (c := Ent.cells) (bytes := 40) rfl _ _ 24 48 rfl Tryz.underlying24 info_Ent1 (by omega) Ent.len Ent.one B t.es ⟨n, a3, r3⟩ (.slice ha hn' hc) rfl wd rfl Ho8.out rfl (by omega) (by omega) hB8 ?_
                intro v' w9 hown9 hg9
                have b9 : Below B wd w9 := Ho8.out.app (Below.refl _ _) (Nat.le_refl _) hB8 hg9
                obtain ⟨va, vc, rfl⟩ := own_sv hown9
                have hx9 : w9.heap[p]? = wd.heap[p]? := (hg9.block p (by simp; omega) (fun e => hnp e.symm)).trans (Below.heap_alloc _ _ _ hp8)
                have hA9 : w9.heap[w4.heap.size]? = wd.heap[w4.heap.size]? := (hg9.block _ (by simp; omega) (fun e => absurd (hgq _ e.symm) (Nat.lt_irrefl _))).trans (Below.heap_alloc _ _ _ hAlt)
                have hx9 := hx9.trans Hx8.out
                have hA9 := hA9.trans HA8.out
                have f9 : ∀ j, w9.frozen? ⟨p, j, none⟩ = false := fun j => Lib.frozen_of_heap hx9 j
                have r0 : w9.cell? ⟨w4.heap.size, 0, none⟩ = some (.int .i64 n) := (Lib.cell_of_heap hA9 0).trans rfl
                have r1 : w9.cell? ⟨w4.heap.size, 1, none⟩ = some (.string a3) := (Lib.cell_of_heap hA9 1).trans rfl
                have r2 : w9.cell? ⟨w4.heap.size, 2, none⟩ = some (.string r3) := (Lib.cell_of_heap hA9 2).trans rfl
                have e0 : w9.cell? ⟨p, 0, none⟩ = some _ := (Lib.cell_of_heap hx9 0).trans rfl
                have e1 : w9.cell? ⟨p, 1, none⟩ = some _ := (Lib.cell_of_heap hx9 1).trans rfl
                have e2 : w9.cell? ⟨p, 2, none⟩ = some _ := (Lib.cell_of_heap hx9 2).trans rfl
                have e3 : w9.cell? ⟨p, 3, none⟩ = some _ := (Lib.cell_of_heap hx9 3).trans rfl
                have e4 : w9.cell? ⟨p, 4, none⟩ = some _ := (Lib.cell_of_heap hx9 4).trans rfl
                have e5 : w9.cell? ⟨p, 5, none⟩ = some _ := (Lib.cell_of_heap hx9 5).trans rfl
                have Hown9 := Lib.hid hown9
                have B9 := Lib.hid ((B8d.out.mono hB).trans b9)
                have Hx9 := Lib.hid hx9
                have hpq : ¬ p = w4.heap.size := Nat.ne_of_lt hpw4
                have HA9 := Lib.hid hA9
                clear hown9 hx9 hA9 hg9 b9
                refine hK.out _ _ (ph2 rfl ⟨r0, r1, r2⟩) (fun hp => ?_)
                clear hK
                try simp only [Act.put, List.setIfInBounds_toArray]
                refine take_ph 147 (i := 8) rfl rfl (by decide) (by kernel_rfl) (by kernel_rfl) (by kernel_rfl) (fun _ _ _ h => h) (by rfl) (fun w hSw => by (try dsimp only at hSw); go_simp; first | done | with_reducible rfl) hp (fun hp => ?_)
                try simp only [Act.put]
                refine take_ph 148 (i := 9) rfl rfl (by decide) (by kernel_rfl) (by kernel_rfl) (by kernel_rfl) (fun _ _ _ h => h) (by rfl) (fun w hSw => by (try dsimp only at hSw); go_simp; first | done | with_reducible rfl) hp (fun hp => ?_)
                try simp only [Act.put]
                refine AnyL.one (i := 10) (by kernel_rfl) rfl (fun K hK => ?_)
                go_simp
                refine hK.out _ _ (ph2 rfl ⟨?_, ?_, ?_⟩) (fun hp => ?_)
                · rw [World.cell?_setCell_other _ _ _ _ (fun e => hpq (congrArg Addr.block e))]; exact r0
                · rw [World.cell?_setCell_other _ _ _ _ (fun e => hpq (congrArg Addr.block e))]; exact r1
                · rw [World.cell?_setCell_other _ _ _ _ (fun e => hpq (congrArg Addr.block e))]; exact r2
                clear hK
                refine AnyL.done (by kernel_rfl) ?_ _
                go_wp2
                go_ret
                exact .inl ⟨_, Hr.out, rfl, RBox.made Hb7.out.lo Hx9.out Hown9.out (by omega) hsgb (by have := hn0.out; exact ⟨this.1, this.2⟩) (by simp; omega) (by simp), (((B9.out.setCell (p := ⟨p, 5, none⟩) Hb7.out.lo _).setCell (p := ⟨p, 3, none⟩) Hb7.out.lo _).setCell (p := ⟨p, 4, none⟩) Hb7.out.lo _).setCell (p := ⟨p, 2, none⟩) Hb7.out.lo _⟩
              · have Hr := Lib.hid (Hnn.out hline)
                have hq2 := sm_neN hline
                clear hline Hyes Hnn
                go_wp2_with fail
                go_region_held3 (fun w' => (∀ b' o', b' < w7.heap.size → w'.cell? ⟨b', o', none⟩ = w7.cell? ⟨b', o', none⟩) ∧ Below w7.heap.size w7 w') (first | (refine heldB ?_; go_grown; done))
                  (first | (go_at_call 59; refine (HL7.out _ ?hb).mono ?_; (case hb => go_grown); rintro e w8 ⟨rfl, hb8⟩; have b8 : Below w7.heap.size w7 w8 := Below.trans (by go_grown) (hb8.mono (by go_size))))
                go_wp2
                go_ret
                exact .inr ⟨Hr.out, rfl, Hb7.out.ext b8, (B7.out.trans (b8.mono B7.out.size)).mono hB⟩
            · have Hr := Lib.hid (Hno.out (fun h => hla h.2.2.2.2.2.2))
              clear Hno
              generalize keyOf l a3 = kk at *
              have hq0 : (kk == 0) = false := beq_eq_false_iff_ne.2 hk0
              have hq1 : decide (n < t.last) = true := decide_eq_true (by omega)
              go_wp2_with fail
              rw [HW.out]
              refine HK.out.mono ?_
              rintro e w5 ⟨rfl, rfl⟩
              go_wp2_with (go_at_call 58; refine HP.out.mono ?_; rintro e w6 ⟨rfl, rfl⟩)
              go_ret
              exact .inr ⟨Hr.out, rfl, Hb5.out, B5.out.mono hB⟩
        · have Hr := Lib.hid (Hno.out (fun h => hpl h.2.2.2.2.1))
          rw [plainB_f hpl] at hPl
          have HP := Lib.hid hPl
          clear hPl Hno
          go_wp2_with fail
          rw [HW.out]
          refine HK.out.mono ?_
          rintro e w5 ⟨rfl, rfl⟩
          go_wp2_with (go_at_call 58; refine HP.out.mono ?_; rintro e w6 ⟨rfl, rfl⟩)
          go_ret
          exact .inr ⟨Hr.out, rfl, Hb5.out, B5.out.mono hB⟩
      · have Hn := Lib.hid (Hst.out h10)
        have hq : ((s[k].toNat : Int) != 10) = true := by rw [bne_iff_ne]; omega
        clear Hst Hnl h10
        go_wp2
        go_round
        case rel => exact ⟨k + 1, by omega, by omega, by go_num, Hn⟩
        case measure => simp [intOf]; omega
    · have Hr : Hid (nextL l s t = none) := Lib.hid (nextL_none (step_none (fun i hi => by
        obtain ⟨h1, h2, h3, -⟩ := hi
        exact hh.out i h2 h1 (by omega) h3)))
      go_wp2
      go_ret
      exact .inr ⟨Hr.out, rfl, Hbox.out, Below.refl _ _⟩
end Go.Proofs.YtjjibdjliejcfaaGreatDoor
