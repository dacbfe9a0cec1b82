/- PackLifts, the reference. -/
import Derived.Test.YtgbohbjpdmgneaaPlS
namespace Go.Proofs.Ytgbohbjpdmgneaa
open Go.RowKit
noncomputable def packL (L : LiftsL) : List UInt8 × Int := if liftsB L = true then (liftsBytes L ++ endB (liftsBytes L), 0) else ([], 1)
theorem packL_t {L : LiftsL} (h : liftsB L = true) : packL L = (liftsBytes L ++ endB (liftsBytes L), 0) := if_pos h
theorem packL_f {L : LiftsL} (h : liftsB L = false) : packL L = ([], 1) := if_neg (by simp [h])
set_option maxRecDepth 100000 in
set_option maxHeartbeats 4000000 in
theorem spec_PackLifts (v : Value) (rs : List LiftR) (L : LiftsL) (lo hi : Nat) (w : World) (h : Lifts lo hi w v rs L) (hwf : ∀ x ∈ L, x.1.name.size ≤ maxLen) (hlen : L.length ≤ 1048576) :
    Calls Try.prog 13 #[v] w fun e w' => e = .returned (.tuple #[.string ⟨(packL L).1.toArray⟩, .int .i64 (packL L).2]) ∧ Below w.heap.size w w' := by
  have hV := spec_LiftsOk v rs L lo hi w h hwf hlen
  have hP := fun (hok : liftsOk L) w' (hb : Below w.heap.size w w') => spec_LiftsPack v rs L lo hi w' (h.ext hb) hok
  obtain ⟨⟨a, cap, hv, -⟩, -, -⟩ := h
  clear hwf
  cases hs : liftsB L
  · rw [packL_f hs]
    rw [hs] at hV
    subst hv
    have hv := Lib.hid hV
    clear hV hP hs
    go_enter Try.func13, Try.ntmps13
    go_wp2_with fail
    refine hv.out.mono ?_
    rintro e w1 ⟨rfl, hb1⟩
    go_wp2
    go_ret2
    exact ⟨rfl, hb1⟩
  · rw [packL_t hs]
    have hp := Lib.hid (hP (liftsB_iff.1 hs))
    rw [hs] at hV
    subst hv
    have hv := Lib.hid hV
    clear hV hP hs
    go_enter Try.func13, Try.ntmps13
    go_wp2_with fail
    refine hv.out.mono ?_
    rintro e w1 ⟨rfl, hb1⟩
    go_wp2_with fail
    refine (hp.out w1 hb1).mono ?_
    rintro e w2 ⟨rfl, hb2⟩
    go_wp2
    go_ret2
    exact ⟨rfl, hb1.trans (hb2.mono hb1.size)⟩
end Go.Proofs.Ytgbohbjpdmgneaa
