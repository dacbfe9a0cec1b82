/- The draws of a table: the table. -/
import Derived.Test.YtmkhapgkiecmaaaDtB
import Derived.Test.YtmkhapgkiecmaaaTabC
namespace Go.Proofs.Ytmkhapgkiecmaaa
open Go.RowKit
theorem OwnSS.push2 {α : Type} {n : Nat} {c : α → List Value} {lo : Nat} {te e : TypeId} (hte : te ≠ e) {w w1 w2 : World} {v v' : Value} {rows : List SV} {L : List (List α)} {r : SV} {x : List α} (h : OwnSS n c lo te e w v rows L) (hlo : lo ≤ w.heap.size) (h1 : OwnSS n c lo te e w1 v rows L) (hr : Own n c w.heap.size e w1 r.v x)
    (hv : Own 1 one lo te w2 v' (rows ++ [r])) (hg : (w1.alloc (.cells (one r).toArray te)).grownBy w2 v.ownBlock) : OwnSS n c lo te e w2 v' (rows ++ [r]) (L ++ [x]) := by
  have kept : ∀ {lo' : Nat} (s : SV) (y : List α), Own n c lo' e w1 s.v y → Own n c lo' e w2 s.v y := by
    intro lo' s y hs
    refine World.ownsRow.kept (hs.alloc _) hg ?_
    cases hsb : s.v.ownBlock with
    | none => exact .inl rfl
    | some g =>
      refine .inr fun hgv => ?_
      obtain ⟨cur, fz, hc⟩ := hs.block hsb
      obtain ⟨cur', fz', hc'⟩ := h1.out.block hgv.symm
      rw [hc] at hc'
      cases hc'
      exact hte rfl
  have hlt : ∀ (i : Nat) (s : SV) (g : Nat), rows[i]? = some s → s.v.ownBlock = some g → g < w.heap.size := by
    intro i s g hs hg
    have hiL : i < L.length := by rw [← h.len]; exact (List.getElem?_eq_some_iff.1 hs).1
    exact (World.ownsRow.lt (h.row i s L[i] hs (List.getElem?_eq_getElem hiL)) g hg).2
  refine ⟨hv, by simp [h.len], ?_, ?_⟩
  · intro i s y hs hy
    rw [List.getElem?_append] at hs hy
    by_cases hi : i < rows.length
    · rw [if_pos hi] at hs
      rw [if_pos (by rw [← h.len]; exact hi)] at hy
      exact kept s y (h1.row i s y hs hy)
    · rw [if_neg hi] at hs
      rw [if_neg (by rw [← h.len]; exact hi), ← h.len] at hy
      by_cases h0 : i - rows.length = 0
      · rw [h0] at hs hy
        simp at hs hy
        subst hs hy
        exact kept _ _ (hr.lower hlo)
      · rw [List.getElem?_eq_none (by simp; omega)] at hs
        cases hs
  · intro i j s t g hs ht hij hsg htg
    rw [List.getElem?_append] at hs ht
    by_cases hi : i < rows.length
    · rw [if_pos hi] at hs
      by_cases hj : j < rows.length
      · rw [if_pos hj] at ht
        exact h.apart i j s t g hs ht hij hsg htg
      · rw [if_neg hj] at ht
        have h2 := hlt i s g hs hsg
        by_cases h0 : j - rows.length = 0
        · rw [h0] at ht; simp at ht; subst ht
          have := (World.ownsRow.lt hr g htg).1
          omega
        · rw [List.getElem?_eq_none (by simp; omega)] at ht; cases ht
    · rw [if_neg hi] at hs
      by_cases h0 : i - rows.length = 0
      · rw [h0] at hs; simp at hs; subst hs
        have h3 := (World.ownsRow.lt hr g hsg).1
        by_cases hj : j < rows.length
        · rw [if_pos hj] at ht
          have h2 := hlt j t g ht htg
          omega
        · rw [if_neg hj] at ht
          by_cases h0' : j - rows.length = 0
          · omega
          · rw [List.getElem?_eq_none (by simp; omega)] at ht; cases ht
      · rw [List.getElem?_eq_none (by simp; omega)] at hs; cases hs
theorem OwnSS.modD {α : Type} {n : Nat} {c : α → List Value} {lo b : Nat} {te e : TypeId} {w w' : World} {v : Value} {rows : List SV} {L : List (List α)} (h : OwnSS n c lo te e w v rows L) (hm : Mod b (b + 1) w w') (hb : b + 1 ≤ lo) : OwnSS n c lo te e w' v rows L :=
  ⟨h.out.mod hm hb, h.len, fun i r x hr hx => (h.row i r x hr hx).mod hm hb, h.apart⟩
theorem info_boolD : (Try.prog.info? 4).map (fun i => (i.zero.map (·.cells.size), i.size, i.bytes)) = some (some 1, 1, 1) := by kernel_rfl
theorem info_rowD : (Try.prog.info? 68).map (fun i => (i.zero.map (·.cells.size), i.size, i.bytes)) = some (some 1, 1, 24) := by kernel_rfl
theorem all24 {L : List (List Bool)} {D : List Bool} (h : ∀ r ∈ L, r.length = 24) (hd : D.length = 24) : ∀ r ∈ L ++ [D], r.length = 24 := by
  intro r hr
  rcases List.mem_append.1 hr with hr | hr
  · exact h r hr
  · rw [List.mem_singleton.1 hr]; exact hd
def TabOut (w : World) (e : Ending) (w' : World) : Prop := ∃ v rows L, e = .returned v ∧ SSw 1 boolCells w.heap.size w'.heap.size w' v rows L ∧ TabOk L
set_option maxRecDepth 100000 in
set_option maxHeartbeats 8000000 in
theorem spec_Tab15 (q q2 : Nat) (f g : CraneF) (n : Int) (w : World) (h : CrB q 0 f w) (h2 : CrB q2 0 g w) (hf : GeoOk f) (hg : GeoOk g) (hn : 0 ≤ n ∧ n ≤ 1000) :
    Calls Try.prog 94 #[.pointer (some ⟨q, 0, none⟩), .pointer (some ⟨q2, 0, none⟩), .int .i64 n] w fun e w' => TabOut w e w' ∧ Below w.heap.size w w' := by
  have hcf := Lib.hid (fun (k m : Nat) (hk : k < 24) (hm : m < 24) w' (hb : Below w.heap.size w w') => spec_Conflict q 0 q2 0 f g k m n w' (h.below hb) (h2.below hb) hf hg hk hm hn)
  have hql := h.lt
  have hql2 := h2.lt
  have hB1 := (Below.refl w.heap.size w).alloc (Nat.le_refl _) (.cells #[] 68 (0, 0))
  have hO1 := Lib.hid (ownSS_nil (n := 1) (c := boolCells) (e := 4) (own_empty (n := 1) (c := one) w 68 w.heap.size (Nat.le_refl _)))
  clear h h2 hf hg hn
  go_enter Try.func94, Try.ntmps94
  go_wp2_with fail
  go_loopw [7, 8] (fun o i wr => ∃ (k : Nat) (rows : List SV) (L : List (List Bool)), k ≤ 24 ∧ i = .int .i64 k ∧ Hid (L.length = k) ∧ Hid (∀ r ∈ L, r.length = 24) ∧ Below w.heap.size w wr ∧ Hid (OwnSS 1 boolCells w.heap.size 68 4 wr o rows L)) (fun _ i _ => 24 - (intOf i).toNat)
  case atStart => exact ⟨0, [], [], by omega, rfl, Lib.hid rfl, Lib.hid (by simp), hB1, hO1⟩
  case round =>
    clear hB1 hO1
    obtain ⟨k, rows, L, hk, rfl, hLk, hL24, hB, hown⟩ := hrel
    have hBs := hB.size
    by_cases hlt : k < 24
    · have hlt' : (k : Int) < 24 := by omega
      have hrl : Hid (rows.length = k) := Lib.hid (hown.out.len.trans hLk.out)
      obtain ⟨ga, gc, rfl⟩ := own_valD hown.out.out
      obtain ⟨wo, hwo⟩ : ∃ wo : World, wo = wr := ⟨_, rfl⟩
      subst hwo
      have hb0 := (Below.refl wo.heap.size wo).alloc (Nat.le_refl _) (.cells #[] 4 (0, 0))
      have hown0 : Hid (Own 1 boolCells wo.heap.size 4 (wo.alloc (.cells #[] 4 (0, 0))) (.slice (some ⟨wo.heap.size, 0, none⟩) 0 0) []) := Lib.hid (own_empty wo _ _ (Nat.le_refl _))
      obtain ⟨rn, hrn⟩ : ∃ rn, rows.length = rn := ⟨_, rfl⟩
      rw [hrn] at hown ⊢
      have Hrn := Lib.hid hrn
      clear hrn
      go_wp2_with fail
      go_loopw [9, 10] (fun o2 i wr => ∃ (m : Nat) (D : List Bool), m ≤ 24 ∧ i = .int .i64 m ∧ Hid (D.length = m) ∧ Below wo.heap.size wo wr ∧ Hid (Own 1 boolCells wo.heap.size 4 wr o2 D)) (fun _ i _ => 24 - (intOf i).toNat)
      case atStart => exact ⟨0, [], by omega, rfl, Lib.hid rfl, hb0, hown0⟩
      case round =>
        clear hb0 hown0
        obtain ⟨m, D, hm, rfl, hDm, hB2, hdv⟩ := hrel
        have hBs2 := hB2.size
        have hB' := hB.trans (hB2.mono hB.size)
        obtain ⟨da, dc, rfl⟩ := own_valD hdv.out
        by_cases hm24 : m < 24
        · have hc := Lib.hid (hcf.out k m hlt hm24 _ hB')
          obtain ⟨cv, hcv⟩ : ∃ cv, decide (confP f g k m (n * n)) = cv := ⟨_, rfl⟩
          rw [hcv] at hc
          clear hcv
          obtain ⟨dn, hdn⟩ : ∃ dn, D.length = dn := ⟨_, rfl⟩
          rw [hdn] at hdv ⊢
          have Hdn := Lib.hid hdn
          clear hdn
          go_wp2_with fail
          refine hc.out.mono ?_
          rintro e w3 ⟨rfl, hb3⟩
          have hB3 := hB2.trans (hb3.mono hB2.size)
          have hdv3 := Lib.hid (hdv.out.below hb3)
          have hs3 := hB3.size
          clear hb3 hdv hc
          go_wp2_with (at_builtin; refine wpList_app1 (c := boolCells) (bytes := 1) rfl _ _ 68 4 rfl Try.underlying68 info_boolD (by omega) boolCells_len boolCells_one wo.heap.size D cv _ rfl w3 rfl hdv3.out rfl (by have := Hdn.out; have := hDm.out; omega) (by have := Hdn.out; have := hDm.out; omega) hs3 ?_; intro v' w4 hown4 hg4; have hB4 := hdv3.out.app hB3 (Nat.le_refl _) hs3 hg4; have Hown4 := Lib.hid hown4; clear hown4 hg4)
          go_roundw
          case rel => exact ⟨m + 1, D ++ [cv], by omega, congrArg (Value.int .i64) (by omega), Lib.hid (by rw [List.length_append, List.length_singleton, hDm.out]), hB4, Hown4⟩
          case measure => simp [intOf]; omega
        · have hpush := Lib.hid (fun v' w3 h1 h2 => OwnSS.push (te := 68) (r := ⟨da, D.length, dc⟩) (by decide) hown.out hB.size hB2 hdv.out (v' := v') (w2 := w3) h1 h2)
          have Hown2 := Lib.hid (hown.out.below hB2)
          obtain ⟨dn, hdn⟩ : ∃ dn, D.length = dn := ⟨_, rfl⟩
          have hd24 : Hid (D.length = 24) := Lib.hid (by rw [hDm.out]; omega)
          rw [hdn] at hpush ⊢
          clear hdn
          go_wp2_with (at_builtin; refine wpList_app1 (c := one) (bytes := 24) rfl _ _ 45 68 rfl Try.underlying45 info_rowD (by omega) one_len one_one w.heap.size rows ⟨da, dn, dc⟩ _ rfl wr rfl Hown2.out.out rfl (by have := Hrn.out; have := hrl.out; omega) (by have := Hrn.out; have := hrl.out; omega) hB'.size ?_; intro v' w3 hown3 hg3; have hB3 := Hown2.out.out.app hB' (Nat.le_refl _) hB'.size hg3; have Hown3 := Lib.hid (hpush.out _ _ hown3 hg3); clear hown3 hg3 hpush)
          go_roundw
          case rel => exact ⟨k + 1, rows ++ [⟨da, dn, dc⟩], L ++ [D], by omega, congrArg (Value.int .i64) (by omega), Lib.hid (by rw [List.length_append, List.length_singleton, hLk.out]), Lib.hid (all24 hL24.out hd24.out), hB3, Hown3⟩
          case measure => simp [intOf]; omega
    · go_wp2
      go_ret
      exact ⟨⟨_, rows, L, rfl, hown.out.w boolCells_len (by decide), ⟨by rw [hLk.out]; omega, hL24.out⟩⟩, hB⟩
end Go.Proofs.Ytmkhapgkiecmaaa
