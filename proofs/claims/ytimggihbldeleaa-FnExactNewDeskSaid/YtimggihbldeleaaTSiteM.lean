/- Sites: marks. -/
import Derived.Test.YtimggihbldeleaaTSite
import Derived.Test.YtimggihbldeleaaTCranemark
namespace Go.Proofs.Ytimggihbldeleaa
open Go.RowKit
abbrev totC (L : SiteL) : Nat := totM 6 2 L
abbrev numC (k : Nat) (L : SiteL) : SiteL := numM 6 mkCraneF 2 marksChs k L
theorem law_markSite (s : SV) (rs : List CraneR) (L : SiteL) (lo hi k : Nat) (w : World) (h : CraneW lo hi w s.v rs L) (hhi : hi ≤ w.heap.size) (hk : 1 ≤ k) (hkb : k + totC L ≤ 1099511627776) :
    Calls Try.prog 19 #[.agg #[s.v], .int .i64 k] w fun e w' => ∃ rs', e = .returned (.int .i64 ((k + totC L : Nat) : Int)) ∧ CraneW lo hi w' s.v rs' (numC k L) ∧ Mod lo hi w w' := by
  have hb : Below w.heap.size w (w.alloc (.cells #[s.v] 24)) := (Below.refl _ _).alloc (Nat.le_refl _) _
  have hM := law_markCraneS s.v rs L lo hi k _ (h.ext hhi hb) (Nat.le_trans hhi hb.size) hk hkb
  obtain ⟨sa, sl, sc⟩ := s
  simp only [SV.v] at hM hb ⊢
  have hM := Lib.hid hM
  clear h
  go_enter Try.func19, Try.ntmps19
  go_wp2_with fail
  refine hM.out.mono ?_
  rintro e w1 ⟨rs', rfl, hN, hm⟩
  have HN := Lib.hid hN
  clear hN
  go_wp2
  go_ret
  exact ⟨rs', rfl, HN.out, (Mod.of_below hb).trans hm⟩
theorem law_heldSite (s : SV) (rs : List CraneR) (L : SiteL) (lo hi k : Nat) (w : World) (h : Cranes lo hi w s.v rs (numC k L)) (hk : 1 ≤ k) (hkb : k + totC L ≤ 1099511627776) :
    Calls Try.prog 22 #[.agg #[s.v], .int .i64 k] w fun e w' => e = .returned (.int .i64 ((k + totC L : Nat) : Int)) ∧ Below w.heap.size w w' := by
  have hb : Below w.heap.size w (w.alloc (.cells #[s.v] 24)) := (Below.refl _ _).alloc (Nat.le_refl _) _
  have hM := law_heldCraneS s.v rs L lo hi k _ (h.ext hb) hk hkb
  obtain ⟨sa, sl, sc⟩ := s
  simp only [SV.v] at hM hb ⊢
  have hM := Lib.hid hM
  have hge : decide ((k : Int) + (totC L : Int) < 0) = false := decide_eq_false (by omega)
  clear h
  unfold totC at hkb hge ⊢
  generalize totM 6 2 L = tt at *
  go_enter Try.func22, Try.ntmps22
  go_wp2_with fail
  refine hM.out.mono ?_
  rintro e w1 ⟨rfl, hb1⟩
  go_wp2
  go_ret
  exact ⟨ret_int (by omega), hb.trans (hb1.mono hb.size)⟩
theorem totM_bd {φ α : Type} (a p c : Nat) : ∀ (L : List (φ × List α)), (∀ x ∈ L, x.2.length ≤ c) → totM a p L ≤ (a + c * p) * L.length
  | [], _ => by simp [totM]
  | x :: r, h => by
    have h1 := totM_bd a p c r fun y hy => h y (List.mem_cons_of_mem _ hy)
    have h2 := Nat.mul_le_mul_right p (h x List.mem_cons_self)
    simp only [totM, List.length_cons, Nat.mul_succ]
    omega
theorem totM_cost {φ α : Type} (g : φ → Nat) : ∀ (L : List (φ × List α)), totM 6 2 L ≤ 6 * (L.length + totN g L)
  | [] => by simp [totM, totN]
  | x :: r => by
    have h1 := totM_cost g r
    simp only [totM, totN, List.length_cons]
    omega
end Go.Proofs.Ytimggihbldeleaa
