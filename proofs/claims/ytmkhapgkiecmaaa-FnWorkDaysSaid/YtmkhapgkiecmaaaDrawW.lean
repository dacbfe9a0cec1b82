/- The draws of the inspections. -/
import Derived.Test.YtmkhapgkiecmaaaSrc
namespace Go.Proofs.Ytmkhapgkiecmaaa
open Go.RowKit

/-- A drawn number within the bounds of an int64, and the source goes on. -/
def SrcI (b A : Nat) (w : World) (e : Ending) (w' : World) : Prop := ∃ n : Int, e = .returned (.int .i64 n) ∧ I64 n ∧ Src b A w' ∧ Mod b (b + 1) w w'

set_option maxRecDepth 100000 in
set_option maxHeartbeats 2000000 in
theorem draw_Day (b A : Nat) (w : World) (h : Src b A w) (hA : A ≤ 1000000) : Calls Try.prog 47 #[.pointer (some ⟨b, 0, none⟩)] w (SrcI b (A + 10) w) := by
  have ho := Lib.hid (src_one b A 10 w h (by omega) (by omega))
  have hp := Lib.hid (fun A w' h hA n hn => src_pick b A n w' h hA hn)
  clear h
  go_enter Try.func47, Try.ntmps47
  go_wp2_with fail
  refine ho.out.mono ?_
  rintro e w2 ⟨x, rfl, hs2, hm2⟩
  have Hs2 := Lib.hid hs2
  have Hm2 := Lib.hid hm2
  have hlt2 := hs2.lt
  clear hs2 hm2
  cases x with
  | true =>
    have hba := (Below.refl w2.heap.size w2).alloc (Nat.le_refl _) (.cells #[.int .i64 (-1), .int .i64 0, .int .i64 100000, .int .i64 100001, .int .i64 9223372036854775807] 2)
    have hal := Lib.hid (src_among b _ (.slice (some ⟨w2.heap.size, 0, none⟩) 5 5) [-1, 0, 100000, 100001, 9223372036854775807] _ _ _ (Hs2.out.below hba) (by omega) (by simp) (sl_lit intCells_len _ w2 2 (cs := #[.int .i64 (-1), .int .i64 0, .int .i64 100000, .int .i64 100001, .int .i64 9223372036854775807]) rfl (m := 5) rfl (by simp)) (.inr hlt2) (by simp))
    have Hm3 := Lib.hid (Hm2.out.then hba)
    go_wp2_with fail
    refine hal.out.mono ?_
    rintro e w3 ⟨x, hx, rfl, hs3, hm3⟩
    have hx2 : I64 x := by
      simp at hx
      unfold I64
      omega
    have Hs3 := Lib.hid (hs3.mono (A' := A + 10) (by omega))
    have Hm4 := Lib.hid (Hm3.out.trans hm3)
    clear hs3 hm3 hx
    go_wp2
    go_ret
    exact ⟨x, rfl, hx2, Hs3.out, Hm4.out⟩
  | false =>
    go_wp2_with fail
    refine (hp.out _ _ Hs2.out (by omega) _ (by omega)).mono ?_
    rintro e w3 ⟨k, rfl, ⟨hk, _⟩, hs3, hm3⟩
    have Hs3 := Lib.hid (hs3.mono (A' := A + 10) (by omega))
    have Hm3 := Lib.hid (Hm2.out.trans hm3)
    clear hs3 hm3
    go_wp2
    go_ret
    exact ⟨k, rfl, ⟨by omega, by omega⟩, Hs3.out, Hm3.out⟩
end Go.Proofs.Ytmkhapgkiecmaaa
