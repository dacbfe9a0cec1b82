/- Zones, the reference: products, signs, corners, boxes. Zones, the reference: whether a shape is convex, whether a zone is valid. -/
import Derived.Test.YtpabbehpkokhbaaDoorTZone
import Derived.Test.YtpabbehpkokhbaaDoorBasic
import Derived.Test.YtpabbehpkokhbaaDoorPlV
import Derived.Handy
namespace Go.Proofs.YtpabbehpkokhbaaDoor
open Go.RowKit
set_option maxHeartbeats 1000000 in
theorem spec_Cr (a b p : Pnt) (w : World) (ha : Crd a) (hb : Crd b) (hp : Crd p) : Calls Tryd.prog 80 #[.agg #[.int .i64 (a).x, .int .i64 (a).y], .agg #[.int .i64 (b).x, .int .i64 (b).y], .agg #[.int .i64 (p).x, .int .i64 (p).y]] w fun e w' => e = .returned (.int .i64 (crossP a b p)) ∧ Below w.heap.size w w' := by
  obtain ⟨⟨⟨h1, h2⟩, h3, h4⟩, h5, h6⟩ := cross_bd ha hb hp
  obtain ⟨⟨_, _⟩, _, _⟩ := ha
  obtain ⟨⟨_, _⟩, _, _⟩ := hb
  obtain ⟨⟨_, _⟩, _, _⟩ := hp
  unfold crossP at h5 h6 ⊢
  obtain ⟨ax, ay⟩ := a
  obtain ⟨bx, bY⟩ := b
  obtain ⟨px, py⟩ := p
  dsimp only at *
  go_enter Tryd.func80, Tryd.ntmps80
  go_wp2
  go_ret
  exact ⟨rfl, (((Below.refl _ _).alloc (Nat.le_refl _) _).alloc (by simp) _).alloc (by simp; omega) _⟩
theorem spec_Sg (n : Int) (w : World) : Calls Tryd.prog 81 #[.int .i64 n] w fun e w' => e = .returned (.int .i64 (sgnI n)) ∧ w = w' := by
  rcases sgn_cases n with ⟨h, e⟩ | ⟨h, e⟩ | ⟨rfl, e⟩
  all_goals
    rw [e]
    clear e
    go_enter Tryd.func81, Tryd.ntmps81
    go_wp2
    go_ret
    exact ⟨rfl, rfl⟩
theorem spec_Mn (a b : Int) (w : World) : Calls Tryd.prog 93 #[.int .i64 a, .int .i64 b] w fun e w' => e = .returned (.int .i64 (min a b)) ∧ w = w' := by
  rcases (by omega : (a < b ∧ min a b = a) ∨ (¬ a < b ∧ min a b = b)) with ⟨h, h2⟩ | ⟨h, h2⟩
  all_goals
    rw [h2]
    clear h2
    go_enter Tryd.func93, Tryd.ntmps93
    go_wp2
    go_ret
    exact ⟨rfl, rfl⟩
theorem spec_Mx (a b : Int) (w : World) : Calls Tryd.prog 94 #[.int .i64 a, .int .i64 b] w fun e w' => e = .returned (.int .i64 (max a b)) ∧ w = w' := by
  rcases (by omega : (b < a ∧ max a b = a) ∨ (¬ b < a ∧ max a b = b)) with ⟨h, h2⟩ | ⟨h, h2⟩
  all_goals
    rw [h2]
    clear h2
    go_enter Tryd.func94, Tryd.ntmps94
    go_wp2
    go_ret
    exact ⟨rfl, rfl⟩
theorem box_casesZ (a b p : Pnt) : (boxP a b p ∧ (min a.x b.x ≤ p.x ∧ p.x ≤ max a.x b.x) ∧ (min a.y b.y ≤ p.y ∧ p.y ≤ max a.y b.y)) ∨ (¬ boxP a b p ∧ (min a.x b.x ≤ p.x ∧ p.x ≤ max a.x b.x) ∧ ¬ (min a.y b.y ≤ p.y ∧ p.y ≤ max a.y b.y)) ∨ (¬ boxP a b p ∧ ¬ (min a.x b.x ≤ p.x ∧ p.x ≤ max a.x b.x)) := by
  by_cases h1 : min a.x b.x ≤ p.x ∧ p.x ≤ max a.x b.x
  · by_cases h2 : min a.y b.y ≤ p.y ∧ p.y ≤ max a.y b.y
    · exact .inl ⟨⟨h1, h2⟩, h1, h2⟩
    · exact .inr (.inl ⟨fun h => h2 h.2, h1, h2⟩)
  · exact .inr (.inr ⟨fun h => h1 h.1, h1⟩)
set_option maxRecDepth 100000 in
set_option maxHeartbeats 4000000 in
theorem spec_Bx (a b p : Pnt) (w : World) : Calls Tryd.prog 82 #[.agg #[.int .i64 (a).x, .int .i64 (a).y], .agg #[.int .i64 (b).x, .int .i64 (b).y], .agg #[.int .i64 (p).x, .int .i64 (p).y]] w fun e w' => e = .returned (.bool (decide (boxP a b p))) ∧ Below w.heap.size w w' := by
  rcases box_casesZ a b p with ⟨h, ⟨h1, h2⟩, h3, h4⟩ | ⟨h, ⟨h1, h2⟩, h3⟩ | ⟨h, h1⟩
  all_goals
    first | rw [decide_eq_true h] | rw [decide_eq_false h]
    clear h
    obtain ⟨ax, ay⟩ := a
    obtain ⟨bx, bY⟩ := b
    obtain ⟨px, py⟩ := p
    dsimp only at *
    go_enter Tryd.func82, Tryd.ntmps82
    go_wp2_with fail
    go_quiet (first | (go_at_call 93; exact Calls.quiet_of_same (Calls.turn (spec_Mn _ _ _))) | (go_at_call 94; exact Calls.quiet_of_same (Calls.turn (spec_Mx _ _ _))) | (go_at_call 58; first | exact Calls.quiet_of_same (Calls.turn (spec_In_t _ _ _ _ (by omega) (by omega))) | exact Calls.quiet_of_same (Calls.turn (spec_In_f _ _ _ _ (by omega)))))
    go_wp2
    go_ret
    exact ⟨rfl, below_dN ((((Below.refl _ _).alloc (Nat.le_refl _) _).alloc (by simp) _).alloc (by simp; omega) _) _⟩
theorem cnr_at {C : List Pnt} {k : Nat} (hk : k < C.length) : cnr C k = C[k] := by unfold cnr; rw [List.getD_eq_getElem?_getD, List.getElem?_eq_getElem hk]; rfl
theorem cells2z {p : Nat} {a b : Value} {t : TypeId} {f : Nat × Nat} {w : World} (h : w.heap[p]? = some (.cells #[a, b] t f)) : w.cell? ⟨p, 0, none⟩ = some a ∧ w.cell? ⟨p, 1, none⟩ = some b := ⟨(Lib.cell_of_heap h 0).trans rfl, (Lib.cell_of_heap h 1).trans rfl⟩
set_option maxRecDepth 100000 in
set_option maxHeartbeats 2000000 in
theorem spec_Nxt (v : Value) (C : List Pnt) (lo hi k : Nat) (w : World) (h : Pnts lo hi w v C) (hk : k < C.length) (hl : C.length ≤ 1048576) :
    Calls Tryd.prog 61 #[v, .int .i64 k] w fun e w' => e = .returned (.agg #[.int .i64 (cnr C ((k + 1) % C.length)).x, .int .i64 (cnr C ((k + 1) % C.length)).y]) ∧ Below w.heap.size w w' := by
  obtain ⟨a, cap, rfl, hcp, hh⟩ := h
  obtain ⟨b, off, rfl, -, -, hc⟩ := hh (by omega)
  have hm : (k + 1) % C.length < C.length := Nat.mod_lt _ (by omega)
  have hba : Below w.heap.size w (w.alloc (.cells #[.int .i64 0, .int .i64 0] 26)) := (Below.refl _ _).alloc (Nat.le_refl _) _
  obtain ⟨c0, c1⟩ := Pnts.at hc hm
  rw [cnr_at hm]
  have hz := World.block_lt_of_cell? w _ c0
  have d0 := (hba.cell (p := ⟨b, off + (k + 1) % C.length * 2, none⟩) hz).trans c0
  have d1 := (hba.cell (p := ⟨b, off + (k + 1) % C.length * 2 + 1, none⟩) hz).trans c1
  have hX := blkN_new w (.cells #[.int .i64 0, .int .i64 0] 26)
  have hr : ((k : Int) + 1).tmod (C.length : Int) = (((k + 1) % C.length : Nat) : Int) := (Int.ofNat_tmod (k + 1) C.length).symm
  have hn0 : ((C.length : Int) == 0) = false := by rw [beq_eq_false_iff_ne]; omega
  have hn1 : ¬ (C.length : Int) = 0 := by omega
  generalize C[(k + 1) % C.length] = q at *
  obtain ⟨x, y⟩ := q
  dsimp only at *
  have hmI : (((k + 1) % C.length : Nat) : Int) < (C.length : Int) := by omega
  have hm0 : (0 : Int) ≤ (((k + 1) % C.length : Nat) : Int) := by omega
  generalize (k + 1) % C.length = m at *
  clear hh hc
  go_enter Tryd.func61, Tryd.ntmps61
  go_wp2
  exact bodyPost_ret (v := .agg #[.int .i64 x, .int .i64 y]) (by simp [results, Tryd.results61, go_sem]) rfl ⟨rfl, (Below.refl _ _).alloc (Nat.le_refl _) _⟩
def turnOk (C : List Pnt) (k i : Nat) : Prop := i ≠ k → i ≠ (k + 1) % C.length → 0 < eg C k (cnr C i)
def ConvA (C : List Pnt) : Prop := ∀ k, k < C.length → ∀ i, i < C.length → turnOk C k i
open Classical in
noncomputable def convB (C : List Pnt) : Bool := decide (ConvA C)
theorem convB_iff {C : List Pnt} : convB C = true ↔ ConvA C := ⟨fun h => by classical exact of_decide_eq_true h, fun h => by classical exact decide_eq_true h⟩
set_option maxRecDepth 100000 in
set_option maxHeartbeats 8000000 in
theorem spec_Turns (v : Value) (C : List Pnt) (lo hi : Nat) (w : World) (h : Pnts lo hi w v C) (hc : ∀ p ∈ C, Crd p) (hl : C.length ≤ 1024) :
    Calls Tryd.prog 63 #[v] w fun e w' => e = .returned (.bool (convB C)) ∧ Below w.heap.size w w' := by
  obtain ⟨m, hm⟩ : ∃ m, m = convB C := ⟨_, rfl⟩
  have Hm := Lib.hid (show m = true ↔ ConvA C by rw [hm]; exact convB_iff)
  rw [← hm]
  clear hm
  have Hh := Lib.hid h
  have Hc := Lib.hid (fun i (hi : i < C.length) => (show Crd (cnr C i) by rw [cnr_at hi]; exact hc _ (List.getElem_mem hi)))
  have HN := Lib.hid (fun k (hk : k < C.length) W (hb : Below w.heap.size w W) => spec_Nxt v C lo hi k W (h.ext hb) hk (by omega))
  obtain ⟨a, cap, rfl, hcp, -⟩ := h
  clear hc
  go_enter Tryd.func63, Tryd.ntmps63
  go_wp2
  go_loopw [3] (fun i wr => ∃ k : Nat, k ≤ C.length ∧ i = .int .i64 k ∧ Hid (∀ k', k' < k → ∀ i, i < C.length → turnOk C k' i) ∧ Below w.heap.size w wr) (fun i _ => C.length - (Go.RowKit.intOf i).toNat)
  case atStart => exact ⟨0, Nat.zero_le _, rfl, Lib.hid (fun k' h => absurd h (by omega)), Below.refl _ _⟩
  case round =>
    obtain ⟨k, hk, rfl, hall, hB⟩ := hrel
    by_cases hlt : k < C.length
    · have hltI : (k : Int) < (C.length : Int) := by omega
      have hk2 : (k + 1) % C.length < C.length := Nat.mod_lt _ (by omega)
      have hr : ((k : Int) + 1).tmod (C.length : Int) = (((k + 1) % C.length : Nat) : Int) := (Int.ofNat_tmod (k + 1) C.length).symm
      have hkw : IntKind.i64.wrap ((k : Int) + 1) = (k : Int) + 1 := IntWalk.i64_in _ (by omega)
      have hn0 : ((C.length : Int) == 0) = false := by rw [beq_eq_false_iff_ne]; omega
      have hn1 : ¬ (C.length : Int) = 0 := by omega
      have HNk := Lib.hid (HN.out k hlt)
      have Hck := Lib.hid (Hc.out k hlt)
      have Hcn := Lib.hid (Hc.out _ hk2)
      have hE : Hid (∀ i, turnOk C k i = (i ≠ k → i ≠ (k + 1) % C.length → 0 < crossP (cnr C k) (cnr C ((k + 1) % C.length)) (cnr C i))) := Lib.hid (fun i => rfl)
      obtain ⟨nx, hnx⟩ : ∃ nx, (k + 1) % C.length = nx := ⟨_, rfl⟩
      rw [hnx] at hr hk2 HNk Hcn hE
      clear hnx
      have hw2 : IntKind.i64.wrap (nx : Int) = nx := IntWalk.i64_in _ (by omega)
      have hr2 : IntKind.i64.wrap (((k : Int) + 1).tmod (C.length : Int)) = (nx : Int) := by rw [hr, hw2]
      have hk0 : (0 : Int) ≤ (k : Int) := Int.natCast_nonneg _
      have hnil : ¬ C = [] := fun e => by rw [e] at hlt; exact absurd hlt (by simp)
      have hlen0 : ¬ C.length = 0 := by omega
      go_wp2_with fail
      obtain ⟨wo, hwo⟩ : ∃ wo, wo = wr := ⟨wr, rfl⟩
      rw [← hwo] at hB ⊢
      clear hwo
      go_loopw [4] (fun i wy => ∃ j : Nat, j ≤ C.length ∧ i = .int .i64 j ∧ Hid (∀ i, i < j → turnOk C k i) ∧ Below w.heap.size w wy) (fun i _ => C.length - (Go.RowKit.intOf i).toNat)
      case atStart => exact ⟨0, Nat.zero_le _, rfl, Lib.hid (fun i h => absurd h (by omega)), hB⟩
      case round =>
        clear hB
        obtain ⟨j, hj, rfl, hin, hB⟩ := hrel
        by_cases hjl : j < C.length
        · have hjI : (j : Int) < (C.length : Int) := by omega
          have hj0 : (0 : Int) ≤ (j : Int) := Int.natCast_nonneg _
          by_cases e1 : j = k
          · have hne : ((j : Int) != (k : Int)) = false := by simp; omega
            have hin2 := Lib.hid (show ∀ i, i < j + 1 → turnOk C k i from fun i hi => by
              by_cases e : i = j
              · intro h0; exact absurd (e.trans e1) h0
              · exact hin.out i (by omega))
            clear e1
            go_wp2_with fail
            go_quiet (fail)
            go_wp2_with fail
            go_roundw
            case rel => exact ⟨j + 1, by omega, by go_num, hin2, below_dN hB _⟩
            case measure => simp [Go.RowKit.intOf]; omega
          · have hne : ((j : Int) != (k : Int)) = true := by simp; omega
            by_cases e2 : j = nx
            · have hne2 : ((j : Int) != (nx : Int)) = false := by simp; omega
              have hin2 := Lib.hid (show ∀ i, i < j + 1 → turnOk C k i from fun i hi => by
                by_cases e : i = j
                · rw [hE.out]; intro _ h0; exact absurd (e.trans e2) h0
                · exact hin.out i (by omega))
              clear e1 e2
              go_wp2_with fail
              go_quiet (fail)
              go_wp2_with fail
              go_roundw
              case rel => exact ⟨j + 1, by omega, by go_num, hin2, below_dN hB _⟩
              case measure => simp [Go.RowKit.intOf]; omega
            · have hne2 : ((j : Int) != (nx : Int)) = true := by simp; omega
              have hPj := Hh.out.ext hB
              obtain ⟨bb, oo, rfl⟩ := hPj.addr (by omega)
              obtain ⟨c0, c1⟩ := Pnts.at hPj.get hlt
              obtain ⟨d0, d1⟩ := Pnts.at hPj.get hjl
              rw [← cnr_at hlt] at c0 c1
              rw [← cnr_at hjl] at d0 d1
              have hC1 := Lib.hid (fun W (hb : Below wr.heap.size wr W) => HNk.out W (hB.trans (hb.mono hB.size)))
              have hC2 := Lib.hid (fun W => spec_Cr (cnr C k) (cnr C nx) (cnr C j) W Hck.out Hcn.out (Hc.out j hjl))
              have hT := Lib.hid (show turnOk C k j ↔ 0 < crossP (cnr C k) (cnr C nx) (cnr C j) by rw [hE.out]; exact ⟨fun h => h e1 e2, fun h _ _ => h⟩)
              generalize crossP (cnr C k) (cnr C nx) (cnr C j) = z at *
              generalize cnr C k = pk at *
              generalize cnr C nx = pn at *
              generalize cnr C j = pj at *
              obtain ⟨kx, ky⟩ := pk
              obtain ⟨nx', ny⟩ := pn
              obtain ⟨jx, jy⟩ := pj
              dsimp only at *
              have hbw := World.block_lt_of_cell? wr _ c0
              clear e1 e2 hPj
              by_cases hz : 0 < z
              · have hz2 : ¬ z ≤ 0 := by omega
                have hin2 := Lib.hid (show ∀ i, i < j + 1 → turnOk C k i from fun i hi => by
                  by_cases e : i = j
                  · rw [e]; exact hT.out.2 hz
                  · exact hin.out i (by omega))
                clear hz
                go_wp2_with fail
                go_region_held3 (fun w' => (∀ b' o', b' < wr.heap.size → w'.cell? ⟨b', o', none⟩ = wr.cell? ⟨b', o', none⟩) ∧ Below wr.heap.size wr w') (first | (refine heldB ?_; go_grown; done))
                  (first | (go_at_call 61; refine (hC1.out _ (by go_grown)).mono ?_; rintro e w1 ⟨rfl, b1'⟩; have b1 : Below wr.heap.size wr w1 := Below.trans (by go_grown) (b1'.mono (by first | exact Nat.le_refl _ | go_size))) | (go_at_call 80; refine (hC2.out _).mono ?_; rintro e w2 ⟨rfl, b2'⟩; have b2 : Below wr.heap.size wr w2 := b1.trans (b2'.mono b1.size)))
                rename_i hHeld
                clear hHeld
                have hB2 := hB.trans (b2.mono hB.size)
                go_wp2_with fail
                go_roundw
                case rel => exact ⟨j + 1, by omega, by go_num, hin2, hB2⟩
                case measure => simp [Go.RowKit.intOf]; omega
              · have hz2 : z ≤ 0 := by omega
                have hm : m = false := by
                  rw [← Bool.not_eq_true]
                  intro h
                  exact hz (hT.out.1 (Hm.out.1 h k hlt j hjl))
                subst hm
                clear hz
                go_wp2_with fail
                go_region_held3 (fun w' => (∀ b' o', b' < wr.heap.size → w'.cell? ⟨b', o', none⟩ = wr.cell? ⟨b', o', none⟩) ∧ Below wr.heap.size wr w') (first | (refine heldB ?_; go_grown; done))
                  (first | (go_at_call 61; refine (hC1.out _ (by go_grown)).mono ?_; rintro e w1 ⟨rfl, b1'⟩; have b1 : Below wr.heap.size wr w1 := Below.trans (by go_grown) (b1'.mono (by first | exact Nat.le_refl _ | go_size))) | (go_at_call 80; refine (hC2.out _).mono ?_; rintro e w2 ⟨rfl, b2'⟩; have b2 : Below wr.heap.size wr w2 := b1.trans (b2'.mono b1.size)))
                rename_i hHeld
                clear hHeld
                have hB2 := hB.trans (b2.mono hB.size)
                go_wp2_with fail
                go_ret
                exact ⟨rfl, hB2⟩
        · go_wp2_with fail
          go_roundw
          case rel => exact ⟨k + 1, by omega, by go_num, Lib.hid (fun k' hk' i hi => by
            by_cases e : k' = k
            · rw [e]; exact hin.out i (by omega)
            · exact hall.out k' (by omega) i hi), hB⟩
          case measure => simp [Go.RowKit.intOf]; omega
    · have hm : m = true := Hm.out.2 (fun k' hk' => hall.out k' (by omega))
      subst hm
      go_wp2
      go_ret
      exact ⟨rfl, hB⟩
end Go.Proofs.YtpabbehpkokhbaaDoor
