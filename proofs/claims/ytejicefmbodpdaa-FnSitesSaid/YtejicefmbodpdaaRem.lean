/- RemoveCrane, the reference. -/
import Derived.Test.YtejicefmbodpdaaSiR
namespace Go.Proofs.Ytejicefmbodpdaa
open Go.RowKit

noncomputable def code4 (L : SiteL) (i : Int) : Int := if siteB L = true then (if 0 ≤ i ∧ i < (L.length : Int) then 0 else 2) else 1
noncomputable def removed (L : SiteL) (i : Int) : SiteL × Int := if code4 L i = 0 then (if L.length = 1 then ([], 6) else (L.eraseIdx i.toNat, 0)) else ([], code4 L i)
theorem code4_cases (L : SiteL) (i : Int) : (siteB L = false ∧ code4 L i = 1) ∨ (siteB L = true ∧ ¬ (0 ≤ i ∧ i < (L.length : Int)) ∧ code4 L i = 2) ∨ (siteB L = true ∧ (0 ≤ i ∧ i < (L.length : Int)) ∧ code4 L i = 0) := by
  unfold code4
  cases h1 : siteB L
  · exact .inl ⟨rfl, if_neg (by simp)⟩
  refine .inr ?_
  by_cases h3 : 0 ≤ i ∧ i < (L.length : Int)
  · exact .inr ⟨rfl, h3, (if_pos rfl).trans (if_pos h3)⟩
  · exact .inl ⟨rfl, h3, (if_pos rfl).trans (if_neg h3)⟩
theorem removed_no {L : SiteL} {i : Int} {c : Int} (h : code4 L i = c) (hc : c ≠ 0) : removed L i = ([], c) := by unfold removed; rw [h]; exact if_neg hc
theorem removed_one {L : SiteL} {i : Int} (h : code4 L i = 0) (h1 : L.length = 1) : removed L i = ([], 6) := by unfold removed; rw [if_pos h]; exact if_pos h1
theorem removed_yes {L : SiteL} {i : Int} (h : code4 L i = 0) (h1 : ¬ L.length = 1) : removed L i = (L.eraseIdx i.toNat, 0) := by unfold removed; rw [if_pos h]; exact if_neg h1
theorem totM_erase {φ α : Type} (a p : Nat) : ∀ (L : List (φ × List α)) (i : Nat), totM a p (L.eraseIdx i) ≤ totM a p L
  | [], i => by simp [totM]
  | x :: r, 0 => by simp [totM]
  | x :: r, i + 1 => by have := totM_erase a p r i; simp only [List.eraseIdx_cons_succ, totM]; omega
theorem removed_tot (L : SiteL) (i : Int) (N : Nat) (h : totM 6 2 L ≤ N) : totM 6 2 (removed L i).1 ≤ N := by
  unfold removed
  split
  · split
    · simp [totM]
    · exact Nat.le_trans (totM_erase 6 2 L _) h
  · simp [totM]
set_option maxRecDepth 100000 in
set_option maxHeartbeats 4000000 in
theorem spec_Code4 (p : Nat) (v : Value) (rs : List CraneR) (L : SiteL) (lo hi : Nat) (i : Int) (w : World) (hp : w.cell? ⟨p, 0, none⟩ = some v) (h : Cranes lo hi w v rs L) (hwf : L.wf) :
    Calls Try.prog 34 #[.pointer (some ⟨p, 0, none⟩), .int .i64 i] w fun e w' => e = .returned (.int .i64 (code4 L i)) ∧ Below w.heap.size w w' := by
  have hV := spec_SiteOk p v rs L lo hi w hp h hwf
  have hpl := World.block_lt_of_cell? w _ hp
  have Hp := Lib.hid hp
  have hln : ∃ a cap, v = .slice a L.length cap := by obtain ⟨a, cap, hv, _⟩ := h.out; exact ⟨a, cap, by rw [← h.len]; exact hv⟩
  obtain ⟨a, cap, rfl⟩ := hln
  clear h hwf hp
  rcases code4_cases L i with ⟨h1, h2⟩ | ⟨h1, h2, h3⟩ | ⟨h1, ⟨h2, h2'⟩, h3⟩
  · rw [h2]
    rw [h1] at hV
    have hV := Lib.hid hV
    clear h1 h2
    go_enter Try.func34, Try.ntmps34
    go_wp2_with fail
    refine hV.out.mono ?_
    rintro e w1 ⟨rfl, hb1⟩
    go_wp2
    go_ret
    exact ⟨rfl, hb1⟩
  · rw [h3]
    have hL6 := (siteB_iff.1 h1).2.2
    rw [h1] at hV
    have hV := Lib.hid hV
    clear h1 h3
    go_enter Try.func34, Try.ntmps34
    go_wp2_with fail
    refine hV.out.mono ?_
    rintro e w1 ⟨rfl, hb1⟩
    have cp := (hb1.cell (p := ⟨p, 0, none⟩) hpl).trans Hp.out
    go_wp2_with (go_at_call 51; first | (refine (spec_In_t _ _ _ _ (by omega) (by omega)).mono ?_; rintro e w' ⟨rfl, rfl⟩) | (refine (spec_In_f _ _ _ _ (by omega)).mono ?_; rintro e w' ⟨rfl, rfl⟩))
    go_ret
    exact ⟨rfl, hb1⟩
  · rw [h3]
    have hL6 := (siteB_iff.1 h1).2.2
    rw [h1] at hV
    have hV := Lib.hid hV
    clear h1 h3
    go_enter Try.func34, Try.ntmps34
    go_wp2_with fail
    refine hV.out.mono ?_
    rintro e w1 ⟨rfl, hb1⟩
    have cp := (hb1.cell (p := ⟨p, 0, none⟩) hpl).trans Hp.out
    go_wp2_with (go_at_call 51; first | (refine (spec_In_t _ _ _ _ (by omega) (by omega)).mono ?_; rintro e w' ⟨rfl, rfl⟩) | (refine (spec_In_f _ _ _ _ (by omega)).mono ?_; rintro e w' ⟨rfl, rfl⟩))
    go_ret
    exact ⟨rfl, hb1⟩
theorem erase_skip {L : SiteL} {i : Nat} (h : i < L.length) : (L.take (i + 1)).eraseIdx i = (L.take i).eraseIdx i := by
  rw [List.take_succ_eq_append_getElem h, List.eraseIdx_append_of_length_le (by rw [List.length_take]; omega), List.length_take, show i - min i L.length = 0 by omega, List.eraseIdx_of_length_le (l := L.take i) (by rw [List.length_take]; omega)]
  simp
theorem erase_next {L : SiteL} {i k : Nat} (h : k < L.length) (_hi : i < L.length) (hne : k ≠ i) : (L.take (k + 1)).eraseIdx i = (L.take k).eraseIdx i ++ [L[k]] := by
  rw [List.take_succ_eq_append_getElem h]
  by_cases hlt : i < k
  · rw [List.eraseIdx_append_of_lt_length (by rw [List.length_take]; omega)]
  · rw [List.eraseIdx_append_of_length_le (by rw [List.length_take]; omega), List.length_take, List.eraseIdx_of_length_le (l := [L[k]]) (by simp; omega), List.eraseIdx_of_length_le (l := L.take k) (by rw [List.length_take]; omega)]
end Go.Proofs.Ytejicefmbodpdaa
