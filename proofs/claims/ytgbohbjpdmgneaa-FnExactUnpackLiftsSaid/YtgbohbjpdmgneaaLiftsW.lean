/- Lifts: validity, the program. (Under way.) -/
import Derived.Test.YtgbohbjpdmgneaaLiftsV
import Derived.Test.YtgbohbjpdmgneaaMapB
import Derived.Carry
namespace Go.Proofs.Ytgbohbjpdmgneaa
open Go.RowKit
theorem info_boolZ : (Try.prog.info? 4).map (fun i => i.zero) = some (some (.bool false)) := by kernel_rfl
theorem zero_bool (w : World) : (zeroValue 4).run Try.prog w = .ok (.bool false) w := by
  obtain ⟨i, hi, hz⟩ := Option.map_eq_some_iff.1 info_boolZ
  simp [zeroValue, typeInfo, hi, hz]
/-- The number before the j-th; -1 ahead of the first. -/
def prevAt (l : List Int) (j : Nat) : Int := if j = 0 then -1 else l.getD (j - 1) 0
theorem prevAt_step {l : List Int} {j : Nat} (h : j < l.length) : prevAt l (j + 1) = l[j] := by
  unfold prevAt; rw [if_neg (by omega), Nat.add_sub_cancel, List.getD_eq_getElem?_getD, List.getElem?_eq_getElem h]; rfl
theorem riseRow_iff {l : List Int} {n : Int} {j : Nat} (h : j < l.length) (hall : ∀ i (h : i < l.length), i < j → riseRow l n i h) : riseRow l n j h ↔ (¬ l[j] ≤ prevAt l j ∧ ¬ n ≤ l[j]) := by
  by_cases hj : j = 0
  · subst hj
    unfold riseRow prevAt
    simp only [if_true]
    constructor
    · rintro ⟨⟨h1, h2⟩, _⟩; omega
    · rintro ⟨h1, h2⟩; exact ⟨by omega, fun h0 => absurd h0 (by omega)⟩
  · obtain ⟨i, rfl⟩ : ∃ i, j = i + 1 := ⟨j - 1, by omega⟩
    rw [prevAt_step (by omega)]
    have h0 := (hall i (by omega) (by omega)).1.1
    unfold riseRow
    simp only [Nat.add_sub_cancel]
    constructor
    · rintro ⟨⟨h1, h2⟩, h3⟩
      have := h3 (by omega)
      omega
    · rintro ⟨h1, h2⟩
      exact ⟨by omega, fun _ => by omega⟩
set_option maxRecDepth 100000 in
set_option maxHeartbeats 8000000 in
theorem impl_LiftsOk (v : Value) (rs : List LiftR) (L : LiftsL) (lo hi : Nat) (w : World) (h : Lifts lo hi w v rs L) (hwf : ∀ x ∈ L, x.1.name.size ≤ maxLen) (hlen : L.length ≤ 1048576) :
    Calls Try.prog 65 #[v] w fun e w' => e = .returned (.bool (liftsB L)) ∧ Below w.heap.size w w' := by
  have hl1 := h.len
  have Hs := Lib.hid h
  obtain ⟨⟨a, cap, rfl, hcp, -⟩, -, -⟩ := h
  rw [hl1] at hcp ⊢
  have Hl1 := Lib.hid hl1
  have Hwf := Lib.hid hwf
  have hM0 := Lib.hid (SeenM.made Try.prog 9 4 w)
  have hba : Below w.heap.size w (w.alloc (.map #[] 0)) := (Below.refl _ _).alloc (Nat.le_refl _) _
  clear hl1 hwf
  have hmm := @run_makeMap Try.prog
  go_enter Try.func65, Try.ntmps65
  go_wp2
  go_loopw [12] (fun i wr => ∃ k : Nat, k ≤ L.length ∧ i = .int .i64 k ∧ Below w.heap.size w wr ∧ Hid (SeenM Try.prog 9 4 w.heap.size ((L.take k).map (fun x => x.1.name)) wr) ∧ Hid (∀ i (h : i < L.length), i < k → liftRow L i h)) (fun i _ => L.length - (intOf i).toNat)
  case atStart => exact ⟨0, Nat.zero_le _, rfl, hba, by simpa using hM0, Lib.hid (fun _ _ h => absurd h (by omega))⟩
  case round =>
    clear hM0 hba hmm
    obtain ⟨k, hk, rfl, hB, hM, hall⟩ := hrel
    by_cases hlt : k < L.length
    · have hk1 : k < rs.length := by rw [Hl1.out]; exact hlt
      have hs : Lifts lo hi wr (.slice a L.length cap) rs L := by rw [← Hl1.out]; exact Hs.out.ext hB
      obtain ⟨hfl, -⟩ := hs.one hlt hk1
      obtain ⟨b, off, rfl⟩ := hs.out.addr (by omega)
      obtain ⟨c0, c1, c2, c3, c4, c5, c6, c7, c8⟩ := Lifts_at hs hk1
      rw [hfl] at c0 c1 c2 c3 c4 c5 c6 c7
      have hnw := Hwf.out _ (List.getElem_mem hlt)
      have hone := fun (s : SV) w => impl_One L[k].1 s w hnw
      have hrw := (Hs.out.one hlt hk1).2
      clear hs hfl
      generalize rs[k].s = sk at *
      obtain ⟨sa, sl, sc⟩ := sk
      have hone := hone ⟨sa, sl, sc⟩
      simp only [LiftR.cells, SV.v] at hone c8 hrw
      have Hrw := Lib.hid hrw
      clear hrw
      cases hp : plainB L[k].1
      · have Hd := Lib.hid (liftsB_f (L := L) (fun h => by
          obtain ⟨g1, g2, g3, g4, g5, g6, _⟩ := (h.1 k hlt).1
          rw [plainB_t ⟨g1, g2, g3, g4, g5, g6⟩] at hp; cases hp))
        rw [hp] at hone
        have hone := Lib.hid hone
        clear hp
        generalize L[k].1 = f at *
        obtain ⟨x0, x1, x2, x3, x4, x5, x6, x7⟩ := f
        dsimp only at *
        go_wp2_with (first | (go_at_call 135; refine (hone.out _).mono ?_; rintro e w1 ⟨rfl, hb1⟩; have B1 := hB.trans ((((Below.refl _ wr).alloc (Nat.le_refl _) _).trans (hb1.mono (by simp))).mono hB.size)))
        go_ret
        rw [Hd.out]; exact ⟨rfl, B1⟩
      · rw [hp] at hone
        have hone := Lib.hid hone
        have hlook := Lib.hid (fun w1 (hb : Below wr.heap.size wr w1) => (hM.out.below hb).look (t := 181) Try.underlying9 Try.underlying4 Try.underlying181 (zero_bool w1) hnw)
        by_cases hmem : L[k].1.name ∈ (L.take k).map (fun x => x.1.name)
        · have Hd := Lib.hid (liftsB_f (L := L) (fun h => by
            obtain ⟨x, hx, he⟩ := List.mem_map.1 hmem
            obtain ⟨j, hj, rfl⟩ := List.getElem_of_mem hx
            rw [List.getElem_take] at he
            rw [List.length_take] at hj
            exact (h.1 k hlt).2 j (by omega) he))
          rw [memB_t hmem] at hlook
          clear hp hmem
          generalize L[k].1 = f at *
          obtain ⟨x0, x1, x2, x3, x4, x5, x6, x7⟩ := f
          dsimp only at *
          go_wp2_with (first | (go_at_call 135; refine (hone.out _).mono ?_; rintro e w1 ⟨rfl, hb1⟩; have b1 := (((Below.refl _ wr).alloc (Nat.le_refl _) _).trans (hb1.mono (by simp))); have B1 := hB.trans (b1.mono hB.size); have hrun := hlook.out w1 b1; have hx1 := Lib.hid (blkN_below hb1 (blkN_new wr _)); have d0 : w1.cell? ⟨wr.heap.size, 0, none⟩ = some (.string x0) := (Lib.cell_of_heap hx1.out 0).trans rfl))
          go_ret
          rw [Hd.out]; exact ⟨rfl, B1⟩
        · rw [memB_f hmem] at hlook
          have hpl := Lib.hid (plainB_iff.1 hp)
          have Hmem := Lib.hid hmem
          have hnl : ((L.take k).map (fun x => x.1.name)).length < maxLen := by rw [List.length_map, List.length_take]; unfold maxLen; omega
          have Hnext := Lib.hid (fun (hr : rises L[k].2 k) => lifts_step hlt hall.out ⟨by obtain ⟨g1, g2, g3, g4, g5, g6⟩ := hpl.out; exact ⟨g1, g2, g3, g4, g5, g6, hr⟩, fun j hj he => Hmem.out (List.mem_map.2 ⟨L[j], List.mem_take_iff_getElem.2 ⟨j, by omega, rfl⟩, he⟩)⟩)
          have Hbad := Lib.hid (fun (hr : ¬ rises L[k].2 k) => liftsB_f (L := L) (fun h => hr (h.1 k hlt).1.2.2.2.2.2.2))
          have Hnm := Lib.hid (show (L.take (k + 1)).map (fun x => x.1.name) = (L.take k).map (fun x => x.1.name) ++ [L[k].1.name] by rw [List.take_succ_eq_append_getElem hlt, List.map_append]; rfl)
          clear hp hmem
          generalize L[k].2 = l at *
          generalize hff : L[k].1 = f at *
          obtain ⟨x0, x1, x2, x3, x4, x5, x6, x7⟩ := f
          dsimp only at *
          have Hff := Lib.hid hff
          clear hff
          go_wp2_with (first
            | (go_at_call 135; refine (hone.out _).mono ?_; rintro e w1 ⟨rfl, hb1⟩; have b1 := (((Below.refl _ wr).alloc (Nat.le_refl _) _).trans (hb1.mono (by simp))); have B1 := hB.trans (b1.mono hB.size); have hrun := hlook.out w1 b1; have hx1 := Lib.hid (blkN_below hb1 (blkN_new wr _)); have d0 : w1.cell? ⟨wr.heap.size, 0, none⟩ = some (.string x0) := (Lib.cell_of_heap hx1.out 0).trans rfl)
            | (at_mapUpdate; refine wpList_seen_put rfl _ _ _ 181 rfl 9 4 Try.underlying9 Try.underlying4 Try.underlying181 w.heap.size _ rfl (hM.out.below b1) hnl x0 rfl rfl hnw ?_))
          intro w2 hM2 hg2
          have hqM : some wr.heap.size ≠ some w.heap.size := by have := hM.out.lt; simp; omega
          have hx2 := Lib.hid ((hg2.block _ (Array.getElem?_eq_some_iff.1 hx1.out).1 hqM).trans hx1.out)
          have B2 : Below w.heap.size w w2 := B1.grown hg2 B1.size (fun k hk => by cases hk; exact Nat.le_refl _)
          have d8 : w2.cell? ⟨wr.heap.size, 8, none⟩ = some (.slice sa sl sc) := (Lib.cell_of_heap hx2.out 8).trans rfl
          have HM2 := Lib.hid hM2
          clear hM2 hg2 hrun d0 hx1 b1 hb1
          obtain ⟨a', cap', he, hcap', -⟩ := Hrw.out
          cases he
          have Hl := Lib.hid (Hrw.out.ext B2)
          have hlc : l.length ≤ 9223372036854775807 := by omega
          have hpv : prevAt l 0 = -1 := rfl
          go_wp2
          go_loop [6, 32] (fun bf i => ∃ j : Nat, j ≤ l.length ∧ i = .int .i64 j ∧ bf = .int .i64 (prevAt l j) ∧ Hid (∀ i (h : i < l.length), i < j → riseRow l k i h)) (fun _ i => l.length - (intOf i).toNat)
          case atStart => exact ⟨0, Nat.zero_le _, rfl, by rw [hpv], Lib.hid (fun _ _ h => absurd h (by omega))⟩
          case round =>
            clear hpv
            obtain ⟨j, hj, rfl, rfl, hall2⟩ := hrel
            by_cases hlj : j < l.length
            · obtain ⟨b2, off2, rfl⟩ := Hl.out.addr (by omega)
              have p0 := Ints.at Hl.out.get hlj
              have hit := Lib.hid (riseRow_iff hlj hall2.out)
              have Hst := Lib.hid (rise_step hlj hall2.out)
              have Hnp := Lib.hid (prevAt_step hlj)
              have Hnb := Lib.hid (fun (h : ¬ riseRow l k j hlj) => Hbad.out (fun hr => h (hr j hlj)))
              generalize riseRow l k j hlj = P at *
              generalize l[j] = x at *
              generalize prevAt l j = p at *
              by_cases h1 : x ≤ p
              · have Hd := Lib.hid (Hnb.out (fun h => (hit.out.1 h).1 h1))
                go_wp2
                go_ret
                rw [Hd.out]; exact ⟨rfl, B2⟩
              · by_cases h2 : (k : Int) ≤ x
                · have Hd := Lib.hid (Hnb.out (fun h => (hit.out.1 h).2 h2))
                  go_wp2
                  go_ret
                  rw [Hd.out]; exact ⟨rfl, B2⟩
                · have Hd := Lib.hid (Hst.out (hit.out.2 ⟨h1, h2⟩))
                  go_wp2
                  go_round
                  case rel => exact ⟨j + 1, by omega, by go_num, by rw [Hnp.out], Hd⟩
                  case measure => simp [intOf]; omega
            · have Hr : Hid (rises l k) := Lib.hid (fun i h => hall2.out i h (by omega))
              have Hd := Lib.hid (Hnext.out Hr.out)
              go_wp2
              go_roundw
              case rel => exact ⟨k + 1, by omega, by go_num, B2, Lib.hid (by rw [Hnm.out, List.map_take]; exact HM2.out), Hd⟩
              case measure => simp [intOf]; omega
    · have hkk : k = L.length := by omega
      subst hkk
      by_cases hr : L.length ≤ 10
      · have Hd := Lib.hid (liftsB_t (L := L) ⟨fun i h => hall.out i h h, hr⟩)
        go_wp2
        go_ret
        rw [Hd.out]; exact ⟨ret_bool (by first | exact decide_eq_true (by omega) | exact decide_eq_false (by omega) | rfl), hB⟩
      · have Hd := Lib.hid (liftsB_f (L := L) (fun h => hr h.2))
        go_wp2
        go_ret
        rw [Hd.out]; exact ⟨ret_bool (by first | exact decide_eq_true (by omega) | exact decide_eq_false (by omega) | rfl), hB⟩
end Go.Proofs.Ytgbohbjpdmgneaa
