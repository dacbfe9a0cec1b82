/- The log: AddEntry, in both packages. -/
import Derived.Test.YtjjibdjliejcfaaGreatDoorLgX
import Derived.Test.YtjjibdjliejcfaaGreatDoorAs
namespace Go.Proofs.YtjjibdjliejcfaaGreatDoor
open Go.RowKit
/-- What AddEntry answers. -/
def AddEC (l : List Sgn) (s : ByteArray) (x : Ent) (r : ByteArray) (c : Int) : Prop :=
  ∃ c0 t, CodeC l s c0 t ∧ ((¬ c0 = 0 ∧ r = ⟨#[]⟩ ∧ c = c0) ∨ (c0 = 0 ∧ AddC l t x c ∧ ((c = 0 ∧ r = s ++ lineB (signE (keyOf l x.who) t.sign x) x) ∨ (¬ c = 0 ∧ r = ⟨#[]⟩))))
theorem AddEC.uniq {l : List Sgn} {s : ByteArray} {x : Ent} {r r2 : ByteArray} {c c2 : Int} (h : AddEC l s x r c) (h2 : AddEC l s x r2 c2) : r = r2 ∧ c = c2 := by
  obtain ⟨a, t, h, hh⟩ := h
  obtain ⟨a2, t2, h2, hh2⟩ := h2
  obtain ⟨rfl, ht⟩ := h.uniq h2
  rcases hh with ⟨n, rfl, rfl⟩ | ⟨rfl, hc, hr⟩ <;> rcases hh2 with ⟨n', rfl, rfl⟩ | ⟨n', hc2, hr2⟩
  · exact ⟨rfl, rfl⟩
  · exact absurd n' n
  · exact absurd rfl n'
  · obtain rfl := ht rfl
    obtain rfl := hc.uniq hc2
    rcases hr with ⟨a, rfl⟩ | ⟨a, rfl⟩ <;> rcases hr2 with ⟨b, rfl⟩ | ⟨b, rfl⟩
    · exact ⟨rfl, rfl⟩
    · exact absurd a b
    · exact absurd b a
    · exact ⟨rfl, rfl⟩
theorem CodeC.fit {l : List Sgn} {s : ByteArray} {t : LgSt} (h : CodeC l s 0 t) : sgnsOk l ∧ s.size ≤ 4000 ∧ t.pos = s.size := by
  have key : OpenC l s 0 t → sgnsOk l ∧ s.size ≤ 4000 := fun h => by
    rcases h with ⟨-, h⟩ | ⟨-, -, h⟩ | ⟨h1, h2, -, -⟩
    · exact absurd h (by decide)
    · exact absurd h (by decide)
    · exact ⟨h1, h2⟩
  rcases h with ⟨h, h2⟩ | ⟨h, hp, -⟩ | ⟨h, -, hz⟩
  · exact absurd rfl h2
  · exact ⟨(key h).1, (key h).2, hp⟩
  · exact absurd hz (by decide)
theorem add_bound2 {l : List Sgn} {t : LgSt} {x : Ent} (h : AddC l t x 0) : t.pos + (lineB (signE (keyOf l x.who) t.sign x) x).size ≤ 4000 := by
  have h2 : (addL l t x).pos = t.pos + (lineB (signE (keyOf l x.who) t.sign x) x).size := rfl
  rw [← h2]
  rcases h with ⟨-, h⟩ | ⟨-, -, h⟩ | ⟨-, -, -, h⟩ | ⟨-, -, -, -, h⟩ | ⟨-, -, -, h, -⟩
  · exact absurd h (by decide)
  · exact absurd h (by decide)
  · exact absurd h (by decide)
  · exact absurd h (by decide)
  · exact h
def AddERes (l : List Sgn) (s : ByteArray) (x : Ent) (w : World) (e : Ending) (w' : World) : Prop := ∃ r c, e = .returned (.tuple #[.string r, .int .i64 c]) ∧ AddEC l s x r c ∧ Below w.heap.size w w'
set_option maxRecDepth 100000 in
set_option maxHeartbeats 4000000 in
theorem spec_AddEntry (v : Value) (l : List Sgn) (lo hi : Nat) (s : ByteArray) (x : Ent) (w : World) (hl : Sgns lo hi w v l) (hwf : ∀ x ∈ l, x.wf) (hs : s.size ≤ 1048576) (hx : x.wf) :
    Calls Tryz.prog 27 #[v, .string s, .agg x.cells.toArray] w (AddERes l s x w) := by
  have hl0 := hl
  obtain ⟨sa, cap, rfl, -⟩ := hl
  have hba : Below w.heap.size w (w.alloc (.cells #[.int .i64 x.second, .string x.who, .string x.what] 48)) := (Below.refl _ _).alloc (Nat.le_refl _) _
  have HB := Lib.hid (spec_CodeL sa l cap lo hi s (w.alloc (.cells #[.int .i64 x.second, .string x.who, .string x.what] 48)) (hl0.ext hba) hwf hs)
  have Hl := Lib.hid hl0
  have hxb := Lib.hid (blkN_new w (.cells #[.int .i64 x.second, .string x.who, .string x.what] 48))
  have Hx := Lib.hid hx
  have Hba := Lib.hid hba
  clear hl0 hx hba
  simp only [Ent.cells]
  go_enter Tryz.func27, Tryz.ntmps27
  go_wp2_with fail
  refine HB.out.mono ?_
  rintro e w1 ⟨p, t, c, rfl, hc, hb, b1⟩
  have Hb1 := Lib.hid (Hba.out.trans (b1.mono Hba.out.size))
  have hxb1 := blkN_below b1 hxb.out
  have Hc := Lib.hid hc
  by_cases h0 : c = 0
  · subst h0
    obtain ⟨hok, hsz, hpe⟩ := hc.fit
    have hA := Lib.hid (spec_Add _ p sa l cap lo hi s t x w.heap.size 0 w1 (hb rfl) (Hl.out.ext Hb1.out) hsz hpe (fun j u hu => by
      rw [Nat.zero_add, Lib.cell_of_heap hxb1]
      simpa [Ent.cells] using hu) Hx.out (sgnsOk_keys hok))
    have Hpe := Lib.hid hpe
    clear hok hpe hb hc hxb1
    go_wp2_with fail
    refine hA.out.mono ?_
    rintro e w2 ⟨r, c, rfl, hc2, b2, hcase⟩
    have Hb2 := Lib.hid (Hb1.out.trans (b2.mono Hb1.out.size))
    rcases hcase with ⟨rfl, rfl⟩ | ⟨h1, rfl⟩
    · have hbd := add_bound2 hc2
      have Hc2 := Lib.hid hc2
      have hsa : ¬ 9223372036854775807 < s.size + (lineB (signE (keyOf l x.who) t.sign x) x).size := by omega
      have Hfin : Hid (∀ e w', (∃ r c, e = .returned (.tuple #[.string r, .int .i64 c]) ∧ AddEC l s x r c ∧ Below w.heap.size w w') → AddERes l s x w e w') := Lib.hid (fun _ _ h => h)
      have Hec : Hid (AddEC l s x (s ++ lineB (signE (keyOf l x.who) t.sign x) x) 0) := Lib.hid ⟨0, t, Hc.out, .inr ⟨rfl, hc2, .inl ⟨rfl, rfl⟩⟩⟩
      clear hc2 hbd
      generalize lineB (signE (keyOf l x.who) t.sign x) x = ln at *
      go_wp2
      go_ret2
      exact Hfin.out _ _ ⟨_, 0, rfl, Hec.out, Hb2.out⟩
    · have hq : (c != 0) = true := by rw [bne_iff_ne]; exact h1
      have Hc2 := Lib.hid hc2
      have H1 := Lib.hid h1
      clear hc2 h1
      go_wp2
      go_ret2
      exact ⟨_, c, rfl, ⟨0, t, Hc.out, .inr ⟨rfl, Hc2.out, .inr ⟨H1.out, rfl⟩⟩⟩, Hb2.out⟩
  · have hq : (c != 0) = true := by rw [bne_iff_ne]; exact h0
    have H0 := Lib.hid h0
    clear hb hc h0 hxb1
    go_wp2
    go_ret2
    exact ⟨_, c, rfl, ⟨c, t, Hc.out, .inl ⟨H0.out, rfl, rfl⟩⟩, Hb1.out⟩
set_option maxRecDepth 100000 in
set_option maxHeartbeats 4000000 in
theorem impl_AddEntry (v : Value) (l : List Sgn) (lo hi : Nat) (s : ByteArray) (x : Ent) (w : World) (hl : Sgns lo hi w v l) (hhi : hi ≤ w.heap.size) (hwf : ∀ x ∈ l, x.wf) (hs : s.size ≤ 1048576) (hx : x.wf) (hm : ML w) (h10 : P10 w) (hev : EV w) (hhd : HD w) :
    Calls Tryz.prog 29 #[v, .string s, .agg x.cells.toArray] w (AddERes l s x w) := by
  have hl0 := hl
  obtain ⟨sa, cap, rfl, -⟩ := hl
  have hba : Below w.heap.size w (w.alloc (.cells #[.int .i64 x.second, .string x.who, .string x.what] 48)) := (Below.refl _ _).alloc (Nat.le_refl _) _
  have HB := Lib.hid (impl_OpenLog sa l cap lo hi s (w.alloc (.cells #[.int .i64 x.second, .string x.who, .string x.what] 48)) (hl0.ext hba) (Nat.le_trans hhi hba.size) hwf hs (hm.ext hba) (h10.ext hba) (hev.ext hba))
  have Hl := Lib.hid hl0
  have hxb := Lib.hid (blkN_new w (.cells #[.int .i64 x.second, .string x.who, .string x.what] 48))
  have Hx := Lib.hid hx
  have Hba := Lib.hid hba
  have H10 := Lib.hid h10
  have Hhd := Lib.hid hhd
  clear hl0 hx hba hm h10 hev hhd
  simp only [Ent.cells]
  go_enter Tryz.func29, Tryz.ntmps29
  go_wp2_with fail
  refine HB.out.mono ?_
  rintro e w1 ⟨pv, c, t, rfl, hc, hb, b1⟩
  have Hb1 := Lib.hid (Hba.out.trans (b1.mono Hba.out.size))
  have hxb1 := blkN_below b1 hxb.out
  have hz1 := Hba.out.size
  have Hc := Lib.hid hc
  by_cases h0 : c = 0
  · subst h0
    obtain ⟨hok, hsz, hpe⟩ := hc.fit
    obtain ⟨q, Bo, rfl, hBo, hj⟩ := hb rfl
    have hT := Lib.hid (impl_Take _ Bo q sa l cap lo hi t x w1 hj (Hl.out.ext Hb1.out) hBo hok Hx.out (H10.out.ext Hb1.out))
    have Hpe := Lib.hid hpe
    have d0 : w1.cell? ⟨w.heap.size, 0, none⟩ = some _ := (Lib.cell_of_heap hxb1 0).trans rfl
    have d1 : w1.cell? ⟨w.heap.size, 1, none⟩ = some _ := (Lib.cell_of_heap hxb1 1).trans rfl
    have d2 : w1.cell? ⟨w.heap.size, 2, none⟩ = some _ := (Lib.cell_of_heap hxb1 2).trans rfl
    clear hok hpe hb hc hxb1 hj
    go_wp2_with fail
    refine hT.out.mono ?_
    rintro e w2 ⟨c, hc2, hB2, -, hcase⟩
    have Hb2 := Lib.hid (Hb1.out.trans (hB2.mono hz1))
    have Hpe2 := Hpe.out
    rcases hcase with ⟨rfl, rfl, -⟩ | ⟨h1, -, -, q2, hq2, rfl, hqx⟩
    · have hbd := add_bound2 hc2
      have hsa : ¬ 9223372036854775807 < s.size + (lineB (signE (keyOf l x.who) t.sign x) x).size := by omega
      have Hfin : Hid (∀ e w', (∃ r c, e = .returned (.tuple #[.string r, .int .i64 c]) ∧ AddEC l s x r c ∧ Below w.heap.size w w') → AddERes l s x w e w') := Lib.hid (fun _ _ h => h)
      have Hec : Hid (AddEC l s x (s ++ lineB (signE (keyOf l x.who) t.sign x) x) 0) := Lib.hid ⟨0, t, Hc.out, .inr ⟨rfl, hc2, .inl ⟨rfl, rfl⟩⟩⟩
      clear hc2 hbd Hpe2
      generalize lineB (signE (keyOf l x.who) t.sign x) x = ln at *
      go_wp2
      go_ret2
      exact Hfin.out _ _ ⟨_, 0, rfl, Hec.out, Hb2.out⟩
    · have hC := Lib.hid (impl_CodeOf q2 c w2 hqx (Hhd.out.ext Hb2.out))
      have Hc2 := Lib.hid hc2
      have H1 := Lib.hid h1
      clear hc2 h1 hqx Hpe2 d0 d1 d2
      go_wp2_with fail
      refine hC.out.mono ?_
      rintro e w3 ⟨rfl, b3⟩
      go_wp2
      go_ret2
      exact ⟨_, c, rfl, ⟨0, t, Hc.out, .inr ⟨rfl, Hc2.out, .inr ⟨H1.out, rfl⟩⟩⟩, Hb2.out.trans (b3.mono Hb2.out.size)⟩
  · have hq : (c != 0) = true := by rw [bne_iff_ne]; exact h0
    have H0 := Lib.hid h0
    clear hb hc h0 hxb1
    go_wp2
    go_ret2
    exact ⟨_, c, rfl, ⟨c, t, Hc.out, .inl ⟨H0.out, rfl, rfl⟩⟩, Hb1.out⟩
end Go.Proofs.YtjjibdjliejcfaaGreatDoor
