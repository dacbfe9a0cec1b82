/- Cranes and lifts held against each other, in both packages. (Printed by gen_sm.py.) -/
import Derived.Test.YtejicefmbodpdaaSmB
namespace Go.Proofs.Ytejicefmbodpdaa
open Go.RowKit
set_option maxRecDepth 100000 in
set_option maxHeartbeats 20000000 in
theorem spec_Same1Crane (b o b2 o2 : Nat) (f g : CraneF) (s s2 : SV) (l l2 : List Chs) (lo hi lo2 hi2 : Nat) (w : World) (hc : ∀ j u, (CraneR.cells ⟨f, s⟩)[j]? = some u → w.cell? ⟨b, o + j, none⟩ = some u) (hd : ∀ j u, (CraneR.cells ⟨g, s2⟩)[j]? = some u → w.cell? ⟨b2, o2 + j, none⟩ = some u) (h : Sl 2 Chs.cells lo hi w s.v l) (h2 : Sl 2 Chs.cells lo2 hi2 w s2.v l2) :
    Calls Try.prog 53 #[.pointer (some ⟨b, o, none⟩), .pointer (some ⟨b2, o2, none⟩)] w fun e w' => e = .returned (.bool (eqP f g l l2)) ∧ ∃ m, w' = w.drewN m := by
  have HI := Lib.hid (fun w' (hb : Below w.heap.size w w') => spec_Same3 s.v s2.v l l2 lo hi lo2 hi2 w' (h.ext hb) (h2.ext hb))
  clear h h2
  have hcase := CraneF.ne_cases f g
  have c0 := hc 0 _ rfl
  have d0 := hd 0 _ rfl
  have c1 := hc 1 _ rfl
  have d1 := hd 1 _ rfl
  have c2 := hc 2 _ rfl
  have d2 := hd 2 _ rfl
  have c3 := hc 3 _ rfl
  have d3 := hd 3 _ rfl
  have c4 := hc 4 _ rfl
  have d4 := hd 4 _ rfl
  have c5 := hc 5 _ rfl
  have d5 := hd 5 _ rfl
  have c6 := hc 6 _ rfl
  have d6 := hd 6 _ rfl
  clear hc hd
  simp only [Nat.add_zero] at c0 d0
  obtain ⟨sa, sl, sc⟩ := s
  obtain ⟨ta, tl, tc⟩ := s2
  simp only [SV.v] at *
  rcases hcase with rfl | ⟨hn, h0⟩ | ⟨hn, h0, h1⟩ | ⟨hn, h0, h1, h2⟩ | ⟨hn, h0, h1, h2, h3⟩ | ⟨hn, h0, h1, h2, h3, h4⟩ | ⟨hn, h0, h1, h2, h3, h4, h5⟩
  · rw [eqP_t]
    obtain ⟨x0, x1, x2, x3, x4, x5⟩ := f
    dsimp only at *
    go_enter Try.func53, Try.ntmps53
    go_wp2_with (go_quiet (first | (go_at_call 63; exact Calls.quiet_of (HI.out _ (below_dN (Below.refl _ _) _)))))
    go_ret
    exact ⟨rfl, _, rfl⟩
  · rw [eqP_f hn]
    clear hn HI
    clear c1 d1 c2 d2 c3 d3 c4 d4 c5 d5 c6 d6
    obtain ⟨x0, x1, x2, x3, x4, x5⟩ := f
    obtain ⟨y0, y1, y2, y3, y4, y5⟩ := g
    dsimp only at *
    have q0 := sm_ne h0
    clear h0
    go_enter Try.func53, Try.ntmps53
    go_wp2_with fail
    refine wp_region_quiet_lit (by kernel_rfl) (by kernel_rfl) ?_
    repeat ((with_reducible (first | refine quiet_stepA (fun K hK => ?_) | refine quiet_nilA (wpQuiet_step (fun K hK => ?_)) | refine wpQuiet_step (fun K hK => ?_))); go_simp; with_reducible refine hK _ ?_; clear hK K)
    with_reducible refine wpQuiet_nil ?_
    intro _ hw'
    obtain ⟨nq, hw'⟩ := hw'
    subst hw'
    go_wp2
    go_ret
    exact ⟨rfl, _, rfl⟩
  · rw [eqP_f hn]
    clear hn HI
    clear c3 d3 c4 d4 c5 d5 c6 d6
    obtain ⟨x0, x1, x2, x3, x4, x5⟩ := f
    obtain ⟨y0, y1, y2, y3, y4, y5⟩ := g
    dsimp only at *
    subst h0
    have q1 : (x1 == y1) = false := by rw [beq_eq_false_iff_ne]; exact h1
    clear h1
    go_enter Try.func53, Try.ntmps53
    go_wp2_with fail
    refine wp_region_quiet_lit (by kernel_rfl) (by kernel_rfl) ?_
    repeat ((with_reducible (first | refine quiet_stepA (fun K hK => ?_) | refine quiet_nilA (wpQuiet_step (fun K hK => ?_)) | refine wpQuiet_step (fun K hK => ?_))); go_simp; with_reducible refine hK _ ?_; clear hK K)
    with_reducible refine wpQuiet_nil ?_
    intro _ hw'
    obtain ⟨nq, hw'⟩ := hw'
    subst hw'
    go_wp2
    go_ret
    exact ⟨rfl, _, rfl⟩
  · rw [eqP_f hn]
    clear hn HI
    clear c3 d3 c4 d4 c5 d5 c6 d6
    obtain ⟨x0, x1, x2, x3, x4, x5⟩ := f
    obtain ⟨y0, y1, y2, y3, y4, y5⟩ := g
    dsimp only at *
    subst h0
    subst h1
    have q2 : (x2 == y2) = false := by rw [beq_eq_false_iff_ne]; exact h2
    clear h2
    go_enter Try.func53, Try.ntmps53
    go_wp2_with fail
    refine wp_region_quiet_lit (by kernel_rfl) (by kernel_rfl) ?_
    repeat ((with_reducible (first | refine quiet_stepA (fun K hK => ?_) | refine quiet_nilA (wpQuiet_step (fun K hK => ?_)) | refine wpQuiet_step (fun K hK => ?_))); go_simp; with_reducible refine hK _ ?_; clear hK K)
    with_reducible refine wpQuiet_nil ?_
    intro _ hw'
    obtain ⟨nq, hw'⟩ := hw'
    subst hw'
    go_wp2
    go_ret
    exact ⟨rfl, _, rfl⟩
  · rw [eqP_f hn]
    clear hn HI
    clear c4 d4 c5 d5 c6 d6
    obtain ⟨x0, x1, x2, x3, x4, x5⟩ := f
    obtain ⟨y0, y1, y2, y3, y4, y5⟩ := g
    dsimp only at *
    subst h0
    subst h1
    subst h2
    have q3 : (x3 == y3) = false := by rw [beq_eq_false_iff_ne]; exact h3
    clear h3
    go_enter Try.func53, Try.ntmps53
    go_wp2_with fail
    refine wp_region_quiet_lit (by kernel_rfl) (by kernel_rfl) ?_
    repeat ((with_reducible (first | refine quiet_stepA (fun K hK => ?_) | refine quiet_nilA (wpQuiet_step (fun K hK => ?_)) | refine wpQuiet_step (fun K hK => ?_))); go_simp; with_reducible refine hK _ ?_; clear hK K)
    with_reducible refine wpQuiet_nil ?_
    intro _ hw'
    obtain ⟨nq, hw'⟩ := hw'
    subst hw'
    go_wp2
    go_ret
    exact ⟨rfl, _, rfl⟩
  · rw [eqP_f hn]
    clear hn HI
    clear c5 d5 c6 d6
    obtain ⟨x0, x1, x2, x3, x4, x5⟩ := f
    obtain ⟨y0, y1, y2, y3, y4, y5⟩ := g
    dsimp only at *
    subst h0
    subst h1
    subst h2
    subst h3
    have q4 : (x4 == y4) = false := by rw [beq_eq_false_iff_ne]; exact h4
    clear h4
    go_enter Try.func53, Try.ntmps53
    go_wp2_with fail
    refine wp_region_quiet_lit (by kernel_rfl) (by kernel_rfl) ?_
    repeat ((with_reducible (first | refine quiet_stepA (fun K hK => ?_) | refine quiet_nilA (wpQuiet_step (fun K hK => ?_)) | refine wpQuiet_step (fun K hK => ?_))); go_simp; with_reducible refine hK _ ?_; clear hK K)
    with_reducible refine wpQuiet_nil ?_
    intro _ hw'
    obtain ⟨nq, hw'⟩ := hw'
    subst hw'
    go_wp2
    go_ret
    exact ⟨rfl, _, rfl⟩
  · rw [eqP_f hn]
    clear hn HI
    clear c6 d6
    obtain ⟨x0, x1, x2, x3, x4, x5⟩ := f
    obtain ⟨y0, y1, y2, y3, y4, y5⟩ := g
    dsimp only at *
    subst h0
    subst h1
    subst h2
    subst h3
    subst h4
    have q5 : (x5 == y5) = false := by rw [beq_eq_false_iff_ne]; exact h5
    clear h5
    go_enter Try.func53, Try.ntmps53
    go_wp2_with fail
    refine wp_region_quiet_lit (by kernel_rfl) (by kernel_rfl) ?_
    repeat ((with_reducible (first | refine quiet_stepA (fun K hK => ?_) | refine quiet_nilA (wpQuiet_step (fun K hK => ?_)) | refine wpQuiet_step (fun K hK => ?_))); go_simp; with_reducible refine hK _ ?_; clear hK K)
    with_reducible refine wpQuiet_nil ?_
    intro _ hw'
    obtain ⟨nq, hw'⟩ := hw'
    subst hw'
    go_wp2
    go_ret
    exact ⟨rfl, _, rfl⟩
end Go.Proofs.Ytejicefmbodpdaa
