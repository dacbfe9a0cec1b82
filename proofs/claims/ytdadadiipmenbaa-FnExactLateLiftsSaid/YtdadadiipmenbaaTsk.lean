/- Tasks: validity, in both packages. -/
import Derived.Test.YtdadadiipmenbaaTTask
import Derived.Test.YtdadadiipmenbaaBasic
import Derived.Test.YtdadadiipmenbaaOwn
import Derived.Deep.QuietTactic
import Derived.BigQuiet
namespace Go.Proofs.Ytdadadiipmenbaa
open Go.RowKit
def Tsk.ok (x : Tsk) : Prop := (0 ≤ x.lift ∧ x.lift ≤ 9) ∧ (0 ≤ x.crane ∧ x.crane ≤ 5) ∧ (0 ≤ x.start ∧ x.start ≤ 1000000) ∧ (x.start ≤ x.fin ∧ x.fin ≤ 1000000)
instance (x : Tsk) : Decidable x.ok := by unfold Tsk.ok; infer_instance
theorem Tsk.cases (x : Tsk) : (x.ok ∧ (0 ≤ x.lift ∧ x.lift ≤ 9) ∧ (0 ≤ x.crane ∧ x.crane ≤ 5) ∧ (0 ≤ x.start ∧ x.start ≤ 1000000) ∧ (x.start ≤ x.fin ∧ x.fin ≤ 1000000)) ∨ (¬ x.ok ∧ ¬ (0 ≤ x.lift ∧ x.lift ≤ 9)) ∨ (¬ x.ok ∧ (0 ≤ x.lift ∧ x.lift ≤ 9) ∧ ¬ (0 ≤ x.crane ∧ x.crane ≤ 5)) ∨
    (¬ x.ok ∧ (0 ≤ x.lift ∧ x.lift ≤ 9) ∧ (0 ≤ x.crane ∧ x.crane ≤ 5) ∧ ¬ (0 ≤ x.start ∧ x.start ≤ 1000000)) ∨ (¬ x.ok ∧ (0 ≤ x.lift ∧ x.lift ≤ 9) ∧ (0 ≤ x.crane ∧ x.crane ≤ 5) ∧ (0 ≤ x.start ∧ x.start ≤ 1000000) ∧ ¬ (x.start ≤ x.fin ∧ x.fin ≤ 1000000)) := by
  unfold Tsk.ok
  omega
def bef (a b : Tsk) : Prop := a.start < b.start ∨ (a.start = b.start ∧ (a.crane < b.crane ∨ (a.crane = b.crane ∧ a.lift < b.lift)))
instance (a b : Tsk) : Decidable (bef a b) := by unfold bef; infer_instance
def rowT (l : List Tsk) (i : Nat) : Prop := (l.getD i default).ok ∧ (0 < i → bef (l.getD (i - 1) default) (l.getD i default))
def tsksOk (l : List Tsk) : Prop := (∀ i, i < l.length → rowT l i) ∧ l.length ≤ 40
open Classical in
noncomputable def tsksB (l : List Tsk) : Bool := decide (tsksOk l)
theorem tsksB_t {l : List Tsk} (h : tsksOk l) : tsksB l = true := by classical exact decide_eq_true h
theorem tsksB_f {l : List Tsk} (h : ¬ tsksOk l) : tsksB l = false := by classical exact decide_eq_false h
theorem tsksB_iff {l : List Tsk} : tsksB l = true ↔ tsksOk l := ⟨fun h => by classical exact of_decide_eq_true h, tsksB_t⟩
theorem tsks_bad {l : List Tsk} {k : Nat} (hk : k < l.length) (h : ¬ rowT l k) : tsksB l = false := tsksB_f fun ho => h (ho.1 k hk)
theorem tsks_end {l : List Tsk} (h : ∀ i, i < l.length → rowT l i) : tsksB l = decide (l.length ≤ 40) := by
  by_cases hl : l.length ≤ 40
  · rw [tsksB_t ⟨h, hl⟩, decide_eq_true hl]
  · rw [tsksB_f (fun ho => hl ho.2), decide_eq_false hl]
set_option maxHeartbeats 2000000 in
theorem spec_TOne (b o : Nat) (x : Tsk) (w : World) (c0 : w.cell? ⟨b, o, none⟩ = some (.int .i64 x.lift)) (c1 : w.cell? ⟨b, o + 1, none⟩ = some (.int .i64 x.crane)) (c2 : w.cell? ⟨b, o + 2, none⟩ = some (.int .i64 x.start)) (c3 : w.cell? ⟨b, o + 3, none⟩ = some (.int .i64 x.fin)) :
    Calls Try.prog 75 #[.pointer (some ⟨b, o, none⟩)] w fun e w' => e = .returned (.bool (decide x.ok)) ∧ ∃ n, w' = w.drewN n := by
  rcases Tsk.cases x with ⟨hok, ⟨_, _⟩, ⟨_, _⟩, ⟨_, _⟩, ⟨_, _⟩⟩ | ⟨hok, _⟩ | ⟨hok, ⟨_, _⟩, _⟩ | ⟨hok, ⟨_, _⟩, ⟨_, _⟩, _⟩ | ⟨hok, ⟨_, _⟩, ⟨_, _⟩, ⟨_, _⟩, _⟩
  all_goals
    first | rw [decide_eq_true hok] | rw [decide_eq_false hok]
    clear hok
    go_enter Try.func75, Try.ntmps75
    go_wp2_with (go_quiet (first | (go_at_call 60; first | exact Calls.quiet_of_same (Calls.turn (spec_In_t _ _ _ _ (by omega) (by omega))) | exact Calls.quiet_of_same (Calls.turn (spec_In_f _ _ _ _ (by omega))))))
    all_goals
      go_ret
      exact ⟨rfl, _, rfl⟩
theorem bef_cases (x y : Tsk) : ((x.start != y.start) = true ∧ decide (x.start < y.start) = decide (bef x y)) ∨ ((x.start != y.start) = false ∧ (x.crane != y.crane) = true ∧ decide (x.crane < y.crane) = decide (bef x y)) ∨ ((x.start != y.start) = false ∧ (x.crane != y.crane) = false ∧ decide (x.lift < y.lift) = decide (bef x y)) := by
  by_cases h1 : x.start = y.start
  · refine .inr ?_
    by_cases h2 : x.crane = y.crane
    · exact .inr ⟨by simp [h1], by simp [h2], decide_eq_decide.2 (by unfold bef; omega)⟩
    · exact .inl ⟨by simp [h1], by simpa using h2, decide_eq_decide.2 (by unfold bef; omega)⟩
  · exact .inl ⟨by simpa using h1, decide_eq_decide.2 (by unfold bef; omega)⟩
set_option maxHeartbeats 2000000 in
theorem spec_TBefore (b o b2 o2 : Nat) (x y : Tsk) (w : World) (c0 : w.cell? ⟨b, o, none⟩ = some (.int .i64 x.lift)) (c1 : w.cell? ⟨b, o + 1, none⟩ = some (.int .i64 x.crane)) (c2 : w.cell? ⟨b, o + 2, none⟩ = some (.int .i64 x.start))
    (d0 : w.cell? ⟨b2, o2, none⟩ = some (.int .i64 y.lift)) (d1 : w.cell? ⟨b2, o2 + 1, none⟩ = some (.int .i64 y.crane)) (d2 : w.cell? ⟨b2, o2 + 2, none⟩ = some (.int .i64 y.start)) :
    Calls Try.prog 76 #[.pointer (some ⟨b, o, none⟩), .pointer (some ⟨b2, o2, none⟩)] w fun e w' => e = .returned (.bool (decide (bef x y))) ∧ ∃ n, w' = w.drewN n := by
  rcases bef_cases x y with ⟨h1, h2⟩ | ⟨h1, h2, h3⟩ | ⟨h1, h2, h3⟩
  all_goals
    generalize decide (bef x y) = r at *
    go_enter Try.func76, Try.ntmps76
    go_wp2_with (go_quiet (fail))
    all_goals
      go_ret
      first | exact ⟨rfl, _, rfl⟩ | exact ⟨rfl, _, by simp only [World.drewN_drewN]; rfl⟩
def cmpI (a b : Int) : Int := if a < b then -1 else if b < a then 1 else 0
theorem cmpI_cases (a b : Int) : (decide (a < b) = true ∧ cmpI a b = -1) ∨ (decide (a < b) = false ∧ decide (b < a) = true ∧ cmpI a b = 1) ∨ (decide (a < b) = false ∧ decide (b < a) = false ∧ cmpI a b = 0) := by
  unfold cmpI
  simp only [decide_eq_true_eq, decide_eq_false_iff_not]
  split
  · omega
  · split <;> omega
def orL (l : List Int) : Int := (l.find? (· != 0)).getD 0
theorem orL_hit : ∀ {l : List Int} {k : Nat}, k < l.length → (∀ j, j < k → l.getD j 0 = 0) → l.getD k 0 ≠ 0 → orL l = l.getD k 0
  | [], _, h, _, _ => absurd h (by simp)
  | x :: r, 0, _, _, hv => by
    have hx : (x != 0) = true := by simpa using hv
    simp [orL, hx]
  | x :: r, k + 1, h, hz, hv => by
    have h0 : x = 0 := by simpa using hz 0 (by omega)
    subst h0
    have := orL_hit (l := r) (k := k) (by simpa using h) (fun j hj => by simpa using hz (j + 1) (by omega)) (by simpa using hv)
    simpa [orL, List.find?_cons] using this
theorem orL_none : ∀ {l : List Int}, (∀ j, j < l.length → l.getD j 0 = 0) → orL l = 0
  | [], _ => rfl
  | x :: r, h => by
    have h0 : x = 0 := by simpa using h 0 (by simp)
    subst h0
    have := orL_none (l := r) (fun j hj => by simpa using h (j + 1) (by simpa using hj))
    simpa [orL, List.find?_cons] using this
theorem cmp_bef (x y : Tsk) : decide (0 ≤ orL [cmpI x.start y.start, cmpI x.crane y.crane, cmpI x.lift y.lift]) = !decide (bef x y) := by
  rw [← decide_not, decide_eq_decide]
  unfold bef
  rcases cmpI_cases x.start y.start with ⟨h1, h2⟩ | ⟨h1, h1', h2⟩ | ⟨h1, h1', h2⟩ <;> rw [h2] <;> simp only [decide_eq_true_eq, decide_eq_false_iff_not] at * <;> simp [orL, List.find?_cons] <;> try omega
  rcases cmpI_cases x.crane y.crane with ⟨h3, h4⟩ | ⟨h3, h3', h4⟩ | ⟨h3, h3', h4⟩ <;> rw [h4] <;> simp only [decide_eq_true_eq, decide_eq_false_iff_not] at * <;> simp <;> try omega
  rcases cmpI_cases x.lift y.lift with ⟨h5, h6⟩ | ⟨h5, h5', h6⟩ | ⟨h5, h5', h6⟩ <;> rw [h6] <;> simp only [decide_eq_true_eq, decide_eq_false_iff_not] at * <;> simp <;> omega
theorem impl_isNaN (a : Int) (w : World) : Calls Try.prog 119 #[.int .i64 a] w fun e w' => e = .returned (.bool false) ∧ w = w' := by
  have h : (a != a) = false := by simp
  go_enter Try.func119, Try.ntmps119
  go_wp2
  go_ret
  exact ⟨rfl, rfl⟩
theorem impl_Compare (a b : Int) (w : World) : Calls Try.prog 100 #[.int .i64 a, .int .i64 b] w fun e w' => e = .returned (.int .i64 (cmpI a b)) ∧ w = w' := by
  rcases cmpI_cases a b with ⟨h1, h2⟩ | ⟨h1, h1', h2⟩ | ⟨h1, h1', h2⟩
  all_goals
    rw [h2]
    go_enter Try.func100, Try.ntmps100
    go_wp2_with (go_at_call 119; refine (impl_isNaN _ _).mono ?_; rintro e w' ⟨rfl, rfl⟩)
    go_ret
    exact ⟨rfl, rfl⟩
set_option maxHeartbeats 2000000 in
theorem impl_Or (b : Nat) (l : List Int) (w : World) (h3 : l.length = 3) (hc : ∀ k, k < 3 → w.cell? ⟨b, k, none⟩ = some (.int .i64 (l.getD k 0))) :
    Calls Try.prog 99 #[.slice (some ⟨b, 0, none⟩) 3 3] w fun e w' => e = .returned (.int .i64 (orL l)) ∧ w = w' := by
  have H3 := Lib.hid h3
  have Hc := Lib.hid hc
  clear h3 hc
  go_enter Try.func99, Try.ntmps99
  go_wp2
  go_loopw [8] (fun i wr => ∃ k : Nat, k ≤ 3 ∧ i = .int .i64 k ∧ wr = w ∧ Hid (∀ j, j < k → l.getD j 0 = 0)) (fun i _ => 3 - (intOf i).toNat)
  case atStart => exact ⟨0, Nat.zero_le _, rfl, rfl, Lib.hid (fun j h => absurd h (by omega))⟩
  case round =>
    obtain ⟨k, hk, rfl, rfl, hz⟩ := hrel
    by_cases hlt : k < 3
    · have c0 := Hc.out k hlt
      by_cases hv : l.getD k 0 = 0
      · have hz' : Hid (∀ j, j < k + 1 → l.getD j 0 = 0) := Lib.hid (fun j hj => by
          by_cases h : j = k
          · rw [h]; exact hv
          · exact hz.out j (by omega))
        rw [hv] at c0
        clear hv
        go_wp2
        go_roundw
        case rel => exact ⟨k + 1, by omega, by go_num, by first | rfl | trivial, hz'⟩
        case measure => simp [intOf]; omega
      · have hr := Lib.hid (orL_hit (l := l) (k := k) (by rw [H3.out]; exact hlt) hz.out hv)
        have hb : (l.getD k 0 != 0) = true := by simpa using hv
        clear hv
        generalize l.getD k 0 = v at *
        go_wp2
        go_ret
        exact ⟨by rw [hr.out]; rfl, rfl⟩
    · obtain rfl : k = 3 := by omega
      have hr := Lib.hid (orL_none (l := l) (fun j hj => hz.out j (by rw [← H3.out]; exact hj)))
      go_wp2
      go_ret
      exact ⟨by rw [hr.out]; rfl, rfl⟩
end Go.Proofs.Ytdadadiipmenbaa
