/- LiftText, the program: a text that is not empty. -/
import Derived.Test.YtijpghlkbfmefaaDoorLfN
import Derived.Test.YtijpghlkbfmefaaDoorPh
import Derived.Test.YtijpghlkbfmefaaDoorDecI
namespace Go.Proofs.YtijpghlkbfmefaaDoor
open Go.RowKit
theorem pt_ok {A B : Nat} (hA : A ≤ 20) (hB : B ≤ 20) : ¬ 9223372036854775807 < A + 1 ∧ ¬ 9223372036854775807 < A + 1 + B := by omega
def ptStr (x y : Int) : ByteArray := decStr x ++ (⟨#[44]⟩ : ByteArray) ++ decStr y
set_option maxRecDepth 100000 in
set_option maxHeartbeats 4000000 in
theorem impl_Pt (x y : Int) (w : World) (hx : I64 x) (hy : I64 y) (h10 : P10 w) : Calls Tryd.prog 41 #[.agg #[.int .i64 x, .int .i64 y]] w fun e w' => e = .returned (.string (ptStr x y)) ∧ Below w.heap.size w w' := by
  unfold ptStr
  obtain ⟨k1, k2⟩ := pt_ok (decStr_size hx) (decStr_size hy)
  have H10 := Lib.hid h10
  have hD1 := Lib.hid (fun W (h : P10 W) => impl_Dec x W hx h)
  have hD2 := Lib.hid (fun W (h : P10 W) => impl_Dec y W hy h)
  have hba : Below w.heap.size w (w.alloc (.cells #[.int .i64 x, .int .i64 y] 28 (0, 0))) := (Below.refl _ _).alloc (Nat.le_refl _) _
  have hX := Lib.hid (blkN_new w (.cells #[.int .i64 x, .int .i64 y] 28 (0, 0)))
  clear hx hy h10
  go_enter Tryd.func41, Tryd.ntmps41
  go_wp2_with fail
  obtain ⟨WA, hWA⟩ : ∃ WA, w.alloc (.cells #[.int .i64 x, .int .i64 y] 28 (0, 0)) = WA := ⟨_, rfl⟩
  rw [hWA] at hba hX ⊢
  have hwl := (Array.getElem?_eq_some_iff.1 hX.out).1
  have c0 := (Lib.cell_of_heap hX.out 0).trans rfl
  have c1 := (Lib.cell_of_heap hX.out 1).trans rfl
  have HWA := Lib.hid hWA
  clear hWA
  refine region_ph 8 (fun w' => ∀ o, w'.cell? ⟨w.heap.size, o, none⟩ = WA.cell? ⟨w.heap.size, o, none⟩) (fun _ => True) (by kernel_rfl) (fun _ => rfl) trivial (fun hp => ?_)
  refine take_ph 3 (i := 0) rfl rfl (by decide) (by kernel_rfl) (by kernel_rfl) (by kernel_rfl) (fun _ _ _ h => h) (by rfl) (fun w hSw => by (try dsimp only at hSw); go_simp; first | done | with_reducible rfl) hp (fun hp => ?_)
  try simp only [Act.put, List.setIfInBounds_toArray, List.set_cons_zero, List.set_cons_succ]
  refine take_ph 4 (i := 1) rfl rfl (by decide) (by kernel_rfl) (by kernel_rfl) (by kernel_rfl) (fun _ _ _ h => h) (by rfl) (fun w hSw => by (try dsimp only at hSw); go_simp; first | done | with_reducible rfl) hp (fun hp => ?_)
  try simp only [Act.put, List.setIfInBounds_toArray, List.set_cons_zero, List.set_cons_succ]
  refine take_ph 7 (i := 4) rfl rfl (by decide) (by kernel_rfl) (by kernel_rfl) (by kernel_rfl) (fun _ _ _ h => h) (by rfl) (fun w hSw => by (try dsimp only at hSw); go_simp; first | done | with_reducible rfl) hp (fun hp => ?_)
  try simp only [Act.put, List.setIfInBounds_toArray, List.set_cons_zero, List.set_cons_succ]
  refine take_ph 8 (i := 5) rfl rfl (by decide) (by kernel_rfl) (by kernel_rfl) (by kernel_rfl) (fun _ _ _ h => h) (by rfl) (fun w hSw => by (try dsimp only at hSw); go_simp; first | done | with_reducible rfl) hp (fun hp => ?_)
  try simp only [Act.put, List.setIfInBounds_toArray, List.set_cons_zero, List.set_cons_succ]
  refine AnyL.one (i := 2) (by kernel_rfl) rfl (fun K hK => ?_)
  go_simp
  have b1 : Below WA.heap.size WA WA.drew := (Below.refl _ _).drew
  refine (hD1.out _ (H10.out.ext (hba.trans (b1.mono hba.size)))).mono ?_
  rintro e w2 ⟨rfl, hb2⟩
  have b2 := b1.trans hb2
  refine hK.out _ _ (ph1 (fun o => b2.cell (p := ⟨w.heap.size, o, none⟩) hwl) trivial) (fun hp => ?_)
  clear hK
  try simp only [Act.put, List.setIfInBounds_toArray, List.set_cons_zero, List.set_cons_succ]
  refine take_ph 6 (i := 3) rfl rfl (by decide) (by kernel_rfl) (by kernel_rfl) (by kernel_rfl) (fun _ _ _ h => h) (by rfl) (fun w hSw => by (try dsimp only at hSw); go_simp; first | done | with_reducible rfl) hp (fun hp => ?_)
  try simp only [Act.put, List.setIfInBounds_toArray, List.set_cons_zero, List.set_cons_succ]
  refine AnyL.one (i := 6) (by kernel_rfl) rfl (fun K hK => ?_)
  go_simp
  refine (hD2.out _ (H10.out.ext (hba.trans (b2.mono hba.size)))).mono ?_
  rintro e w3 ⟨rfl, hb3⟩
  have b3 := b2.trans (hb3.mono b2.size)
  refine hK.out _ _ (ph1 (fun o => b3.cell (p := ⟨w.heap.size, o, none⟩) hwl) trivial) (fun hp => ?_)
  clear hK
  try simp only [Act.put, List.setIfInBounds_toArray, List.set_cons_zero, List.set_cons_succ]
  refine take_ph 10 (i := 7) rfl rfl (by decide) (by kernel_rfl) (by kernel_rfl) (by kernel_rfl) (fun _ _ _ h => h) (by rfl) (fun w hSw => by (try dsimp only at hSw); go_simp; first | done | with_reducible rfl) hp (fun hp => ?_)
  try simp only [Act.put, List.setIfInBounds_toArray, List.set_cons_zero, List.set_cons_succ]
  refine AnyL.one (i := 8) (by kernel_rfl) rfl (fun K hK => ?_)
  go_simp
  refine hK.out _ _ (ph1 (fun o => b3.cell (p := ⟨w.heap.size, o, none⟩) hwl) trivial) (fun hp => ?_)
  clear hK
  try simp only [Act.put, List.setIfInBounds_toArray, List.set_cons_zero, List.set_cons_succ]
  refine AnyL.done (by kernel_rfl) ?_ _
  simp only [Exit.then]
  clear hp
  go_wp2
  go_ret
  exact ⟨rfl, hba.trans (b3.mono hba.size)⟩
def nmC (s : ByteArray) : List Value := [.string s]
theorem nmC_len (s : ByteArray) : (nmC s).length = 1 := rfl
theorem nmC_one (s : ByteArray) : ∀ u ∈ nmC s, u.oneCell' = true := by intro u hu; simp [nmC] at hu; subst hu; rfl
theorem info_strL : (Tryd.prog.info? 9).map (fun i => (i.zero.map (·.cells.size), i.size, i.bytes)) = some (some 1, 1, 16) := by kernel_rfl
theorem tail_len : ∀ (xs : List (List UInt8)), (∀ x ∈ xs, x.length ≤ 12) → (Lib.joinTail [44] xs).length ≤ 13 * xs.length
  | [], _ => by simp [Lib.joinTail]
  | x :: r, h => by
    have ih := tail_len r (fun y hy => h y (List.mem_cons_of_mem _ hy))
    have hx := h x (by simp)
    simp only [Lib.joinTail, List.map_cons, List.flatten_cons, List.length_append, List.length_cons, List.length_nil] at ih ⊢
    omega
theorem join_bd (xs : List ByteArray) (h : ∀ x ∈ xs, x.size ≤ 12) : (Lib.join (xs.map (·.data.toList)) [44]).length ≤ 13 * xs.length + 12 := by
  have h2 : ∀ x ∈ xs.map (·.data.toList), x.length ≤ 12 := by
    intro x hx
    obtain ⟨y, hy, rfl⟩ := List.mem_map.1 hx
    have := h y hy
    simpa using this
  rw [show xs.length = (xs.map (·.data.toList)).length by simp]
  generalize xs.map (·.data.toList) = l at *
  cases l with
  | nil => simp [Lib.join_nil]
  | cons x r =>
    rw [Lib.join_cons, List.length_append]
    have h3 := tail_len r (fun y hy => h2 y (List.mem_cons_of_mem _ hy))
    have h4 := h2 x (by simp)
    simp only [List.length_cons]
    omega
theorem pt_size {x y : Int} (hx : I64 x) (hy : I64 y) : (ptStr x y).size ≤ 41 := by
  have h1 := decStr_size hx
  have h2 := decStr_size hy
  unfold ptStr
  simp only [ByteArray.size_append]
  have : (⟨#[44]⟩ : ByteArray).size = 1 := rfl
  omega
theorem lt_ok {A B C D E : Nat} (hA : A ≤ 12) (hB : B ≤ 20) (hC : C ≤ 41) (hD : D ≤ 41) (hE : E ≤ 20) : ¬ 9223372036854775807 < A + 1 ∧ ¬ 9223372036854775807 < A + 1 + B ∧ ¬ 9223372036854775807 < A + 1 + B + 3 ∧ ¬ 9223372036854775807 < A + 1 + B + 3 + C ∧ ¬ 9223372036854775807 < A + 1 + B + 3 + C + 1 ∧ ¬ 9223372036854775807 < A + 1 + B + 3 + C + 1 + D ∧ ¬ 9223372036854775807 < A + 1 + B + 3 + C + 1 + D + 1 ∧ ¬ 9223372036854775807 < A + 1 + B + 3 + C + 1 + D + 1 + E := by omega
def ltHead (g : LiftF) : ByteArray := g.name ++ (⟨#[32]⟩ : ByteArray) ++ decStr g.weight ++ (⟨#[107, 103, 32]⟩ : ByteArray) ++ ptStr g.fx g.fy ++ (⟨#[32]⟩ : ByteArray) ++ ptStr g.tx g.ty ++ (⟨#[32]⟩ : ByteArray) ++ decStr g.height
def LtOut (w : World) (e : Ending) (w' : World) : Prop := ∃ t : ByteArray, e = .returned (.tuple #[.string t, .int .i64 0]) ∧ 0 < t.size ∧ Below w.heap.size w w'
set_option maxRecDepth 100000 in
set_option maxHeartbeats 8000000 in
theorem impl_LiftText (v : Value) (rs : List LiftR) (L : LiftsL) (lo hi k : Nat) (w : World) (h : Lifts lo hi w v rs L) (hok : liftsOk L) (hk : k < L.length) (hsz : L[k].2.length ≤ 1024) (h10 : P10 w) :
    Calls Tryd.prog 18 #[v, .int .i64 k] w (LtOut w) := by
  have hA := impl_LiftCode v rs L lo hi k w h hok hk
  have hl1 := h.len
  have Hs := Lib.hid h
  have H10 := Lib.hid h10
  have Hok := Lib.hid hok
  have hL10 := hok.2
  obtain ⟨⟨a, cap, rfl, _⟩, _, _⟩ := h
  rw [hl1] at hA Hs ⊢
  have HA := Lib.hid hA
  have Hl1 := Lib.hid hl1
  clear hl1 hA hok h10
  go_enter Tryd.func18, Tryd.ntmps18
  go_wp2_with fail
  refine HA.out.mono ?_
  rintro e w1 ⟨rfl, hb1⟩
  have hk1 : k < rs.length := by rw [Hl1.out]; exact hk
  have hs := Hs.out.ext hb1
  obtain ⟨hfl, hrow⟩ := hs.one hk hk1
  obtain ⟨b, off, rfl⟩ := hs.out.addr (by omega)
  obtain ⟨c0, c1, c2, c3, c4, c5, c6, c7, c8⟩ := Lifts_at hs hk1
  rw [hfl] at c0 c1 c2 c3 c4 c5 c6 c7
  obtain ⟨hnm, hwt, hp1, hp2, hht, -, hris⟩ := (Hok.out.1 k hk).1
  have Hris := Lib.hid hris
  clear hs hfl hris
  generalize rs[k].s = sk at *
  obtain ⟨ta, tl, tc⟩ := sk
  simp only [SV.v] at c8 hrow
  generalize L[k].2 = aft at *
  generalize L[k].1 = f at *
  obtain ⟨g0, g1, g2, g3, g4, g5, g6, g7⟩ := f
  dsimp only at *
  have hrow0 := hrow
  obtain ⟨_, _, hv, hcp2, _⟩ := hrow
  obtain rfl : aft.length = tl := by cases hv; rfl
  have hba : Below w1.heap.size w1 (w1.alloc (.cells #[.string g0, .int .i64 g1, .int .i64 g2, .int .i64 g3, .int .i64 g4, .int .i64 g5, .int .i64 g6, .int .i64 g7, .slice ta aft.length tc] 31 (0, 0))) := (Below.refl _ _).alloc (Nat.le_refl _) _
  have hX := Lib.hid (blkN_new w1 (.cells #[.string g0, .int .i64 g1, .int .i64 g2, .int .i64 g3, .int .i64 g4, .int .i64 g5, .int .i64 g6, .int .i64 g7, .slice ta aft.length tc] 31 (0, 0)))
  have hrow1 := Lib.hid (hrow0.ext hba)
  have BA := hb1.trans (hba.mono hb1.size)
  have i1 : I64 g1 := ⟨by omega, by omega⟩
  have i2 : I64 g2 := ⟨by unfold Pl at hp1; omega, by unfold Pl at hp1; omega⟩
  have i3 : I64 g3 := ⟨by unfold Pl at hp1; omega, by unfold Pl at hp1; omega⟩
  have i4 : I64 g4 := ⟨by unfold Pl at hp2; omega, by unfold Pl at hp2; omega⟩
  have i5 : I64 g5 := ⟨by unfold Pl at hp2; omega, by unfold Pl at hp2; omega⟩
  have i6 : I64 g6 := ⟨by omega, by omega⟩
  have hT : Hid ((ltHead ⟨g0, g1, g2, g3, g4, g5, g6, g7⟩).size ≤ 200 ∧ 0 < (ltHead ⟨g0, g1, g2, g3, g4, g5, g6, g7⟩).size) := Lib.hid (by
    have s1 := decStr_size i1
    have s6 := decStr_size i6
    have p1 := pt_size i2 i3
    have p2 := pt_size i4 i5
    have n1 := hnm.1
    have n2 := hnm.2.1
    have e1 : (⟨#[32]⟩ : ByteArray).size = 1 := rfl
    have e2 : (⟨#[107, 103, 32]⟩ : ByteArray).size = 3 := rfl
    unfold ltHead
    simp only [ByteArray.size_append]
    omega)
  obtain ⟨k1, k2, k3, k4, k5, k6, k7, k8⟩ := lt_ok hnm.2.1 (decStr_size i1) (pt_size i2 i3) (pt_size i4 i5) (decStr_size i6)
  have hD1 := Lib.hid (fun W (h : P10 W) => impl_Dec g1 W i1 h)
  have hP1 := Lib.hid (fun W (h : P10 W) => impl_Pt g2 g3 W i2 i3 h)
  have hP2 := Lib.hid (fun W (h : P10 W) => impl_Pt g4 g5 W i4 i5 h)
  have hD6 := Lib.hid (fun W (h : P10 W) => impl_Dec g6 W i6 h)
  clear hv hrow0 hnm hwt hp1 hp2 hht i1 i2 i3 i4 i5 i6
  go_wp2_with fail
  obtain ⟨WA, hWA⟩ : ∃ WA, w1.alloc (.cells #[.string g0, .int .i64 g1, .int .i64 g2, .int .i64 g3, .int .i64 g4, .int .i64 g5, .int .i64 g6, .int .i64 g7, .slice ta aft.length tc] 31 (0, 0)) = WA := ⟨_, rfl⟩
  rw [hWA] at hba hX hrow1 BA ⊢
  clear hWA c0 c1 c2 c3 c4 c5 c6 c7 c8
  have hwl := (Array.getElem?_eq_some_iff.1 hX.out).1
  have c0 := (Lib.cell_of_heap hX.out 0).trans rfl
  have c1 := (Lib.cell_of_heap hX.out 1).trans rfl
  have c2 := (Lib.cell_of_heap hX.out 2).trans rfl
  have c3 := (Lib.cell_of_heap hX.out 3).trans rfl
  have c4 := (Lib.cell_of_heap hX.out 4).trans rfl
  have c5 := (Lib.cell_of_heap hX.out 5).trans rfl
  have c6 := (Lib.cell_of_heap hX.out 6).trans rfl
  refine region_ph 22 (fun w' => ∀ o, w'.cell? ⟨w1.heap.size, o, none⟩ = WA.cell? ⟨w1.heap.size, o, none⟩) (fun _ => True) (by kernel_rfl) (fun _ => rfl) trivial (fun hp => ?_)
  refine take_ph 22 (i := 0) rfl rfl (by decide) (by kernel_rfl) (by kernel_rfl) (by kernel_rfl) (fun _ _ _ h => h) (by rfl) (fun w hSw => by (try dsimp only at hSw); go_simp; first | done | with_reducible rfl) hp (fun hp => ?_)
  try simp only [Act.put, List.setIfInBounds_toArray, List.set_cons_zero, List.set_cons_succ]
  refine take_ph 23 (i := 1) rfl rfl (by decide) (by kernel_rfl) (by kernel_rfl) (by kernel_rfl) (fun _ _ _ h => h) (by rfl) (fun w hSw => by (try dsimp only at hSw); go_simp; first | done | with_reducible rfl) hp (fun hp => ?_)
  try simp only [Act.put, List.setIfInBounds_toArray, List.set_cons_zero, List.set_cons_succ]
  refine take_ph 24 (i := 2) rfl rfl (by decide) (by kernel_rfl) (by kernel_rfl) (by kernel_rfl) (fun _ _ _ h => h) (by rfl) (fun w hSw => by (try dsimp only at hSw); go_simp; first | done | with_reducible rfl) hp (fun hp => ?_)
  try simp only [Act.put, List.setIfInBounds_toArray, List.set_cons_zero, List.set_cons_succ]
  refine take_ph 25 (i := 3) rfl rfl (by decide) (by kernel_rfl) (by kernel_rfl) (by kernel_rfl) (fun _ _ _ h => h) (by rfl) (fun w hSw => by (try dsimp only at hSw); go_simp; first | done | with_reducible rfl) hp (fun hp => ?_)
  try simp only [Act.put, List.setIfInBounds_toArray, List.set_cons_zero, List.set_cons_succ]
  refine take_ph 26 (i := 4) rfl rfl (by decide) (by kernel_rfl) (by kernel_rfl) (by kernel_rfl) (fun _ _ _ h => h) (by rfl) (fun w hSw => by (try dsimp only at hSw); go_simp; first | done | with_reducible rfl) hp (fun hp => ?_)
  try simp only [Act.put, List.setIfInBounds_toArray, List.set_cons_zero, List.set_cons_succ]
  refine take_ph 30 (i := 8) rfl rfl (by decide) (by kernel_rfl) (by kernel_rfl) (by kernel_rfl) (fun _ _ _ h => h) (by rfl) (fun w hSw => by (try dsimp only at hSw); go_simp; first | done | with_reducible rfl) hp (fun hp => ?_)
  try simp only [Act.put, List.setIfInBounds_toArray, List.set_cons_zero, List.set_cons_succ]
  refine take_ph 31 (i := 9) rfl rfl (by decide) (by kernel_rfl) (by kernel_rfl) (by kernel_rfl) (fun _ _ _ h => h) (by rfl) (fun w hSw => by (try dsimp only at hSw); go_simp; first | done | with_reducible rfl) hp (fun hp => ?_)
  try simp only [Act.put, List.setIfInBounds_toArray, List.set_cons_zero, List.set_cons_succ]
  refine take_ph 35 (i := 13) rfl rfl (by decide) (by kernel_rfl) (by kernel_rfl) (by kernel_rfl) (fun _ _ _ h => h) (by rfl) (fun w hSw => by (try dsimp only at hSw); go_simp; first | done | with_reducible rfl) hp (fun hp => ?_)
  try simp only [Act.put, List.setIfInBounds_toArray, List.set_cons_zero, List.set_cons_succ]
  refine take_ph 36 (i := 14) rfl rfl (by decide) (by kernel_rfl) (by kernel_rfl) (by kernel_rfl) (fun _ _ _ h => h) (by rfl) (fun w hSw => by (try dsimp only at hSw); go_simp; first | done | with_reducible rfl) hp (fun hp => ?_)
  try simp only [Act.put, List.setIfInBounds_toArray, List.set_cons_zero, List.set_cons_succ]
  refine take_ph 40 (i := 18) rfl rfl (by decide) (by kernel_rfl) (by kernel_rfl) (by kernel_rfl) (fun _ _ _ h => h) (by rfl) (fun w hSw => by (try dsimp only at hSw); go_simp; first | done | with_reducible rfl) hp (fun hp => ?_)
  try simp only [Act.put, List.setIfInBounds_toArray, List.set_cons_zero, List.set_cons_succ]
  refine take_ph 41 (i := 19) rfl rfl (by decide) (by kernel_rfl) (by kernel_rfl) (by kernel_rfl) (fun _ _ _ h => h) (by rfl) (fun w hSw => by (try dsimp only at hSw); go_simp; first | done | with_reducible rfl) hp (fun hp => ?_)
  try simp only [Act.put, List.setIfInBounds_toArray, List.set_cons_zero, List.set_cons_succ]
  refine AnyL.one (i := 5) (by kernel_rfl) rfl (fun K hK => ?_)
  go_simp
  have b1 : Below WA.heap.size WA WA.drew := (Below.refl _ _).drew
  refine (hD1.out _ (H10.out.ext (BA.trans (b1.mono BA.size)))).mono ?_
  rintro e w2 ⟨rfl, hb2⟩
  have b2 := b1.trans hb2
  refine hK.out _ _ (ph1 (fun o => b2.cell (p := ⟨w1.heap.size, o, none⟩) hwl) trivial) (fun hp => ?_)
  clear hK
  try simp only [Act.put, List.setIfInBounds_toArray, List.set_cons_zero, List.set_cons_succ]
  refine take_ph 28 (i := 6) rfl rfl (by decide) (by kernel_rfl) (by kernel_rfl) (by kernel_rfl) (fun _ _ _ h => h) (by rfl) (fun w hSw => by (try dsimp only at hSw); go_simp; first | done | with_reducible rfl) hp (fun hp => ?_)
  try simp only [Act.put, List.setIfInBounds_toArray, List.set_cons_zero, List.set_cons_succ]
  refine take_ph 29 (i := 7) rfl rfl (by decide) (by kernel_rfl) (by kernel_rfl) (by kernel_rfl) (fun _ _ _ h => h) (by rfl) (fun w hSw => by (try dsimp only at hSw); go_simp; first | done | with_reducible rfl) hp (fun hp => ?_)
  try simp only [Act.put, List.setIfInBounds_toArray, List.set_cons_zero, List.set_cons_succ]
  refine AnyL.one (i := 10) (by kernel_rfl) rfl (fun K hK => ?_)
  go_simp
  refine (hP1.out _ (H10.out.ext (BA.trans (b2.mono BA.size)))).mono ?_
  rintro e w3 ⟨rfl, hb3⟩
  have b3 := b2.trans (hb3.mono b2.size)
  refine hK.out _ _ (ph1 (fun o => b3.cell (p := ⟨w1.heap.size, o, none⟩) hwl) trivial) (fun hp => ?_)
  clear hK
  try simp only [Act.put, List.setIfInBounds_toArray, List.set_cons_zero, List.set_cons_succ]
  refine take_ph 33 (i := 11) rfl rfl (by decide) (by kernel_rfl) (by kernel_rfl) (by kernel_rfl) (fun _ _ _ h => h) (by rfl) (fun w hSw => by (try dsimp only at hSw); go_simp; first | done | with_reducible rfl) hp (fun hp => ?_)
  try simp only [Act.put, List.setIfInBounds_toArray, List.set_cons_zero, List.set_cons_succ]
  refine take_ph 34 (i := 12) rfl rfl (by decide) (by kernel_rfl) (by kernel_rfl) (by kernel_rfl) (fun _ _ _ h => h) (by rfl) (fun w hSw => by (try dsimp only at hSw); go_simp; first | done | with_reducible rfl) hp (fun hp => ?_)
  try simp only [Act.put, List.setIfInBounds_toArray, List.set_cons_zero, List.set_cons_succ]
  refine AnyL.one (i := 15) (by kernel_rfl) rfl (fun K hK => ?_)
  go_simp
  refine (hP2.out _ (H10.out.ext (BA.trans (b3.mono BA.size)))).mono ?_
  rintro e w4 ⟨rfl, hb4⟩
  have b4 := b3.trans (hb4.mono b3.size)
  refine hK.out _ _ (ph1 (fun o => b4.cell (p := ⟨w1.heap.size, o, none⟩) hwl) trivial) (fun hp => ?_)
  clear hK
  try simp only [Act.put, List.setIfInBounds_toArray, List.set_cons_zero, List.set_cons_succ]
  refine take_ph 38 (i := 16) rfl rfl (by decide) (by kernel_rfl) (by kernel_rfl) (by kernel_rfl) (fun _ _ _ h => h) (by rfl) (fun w hSw => by (try dsimp only at hSw); go_simp; first | done | with_reducible rfl) hp (fun hp => ?_)
  try simp only [Act.put, List.setIfInBounds_toArray, List.set_cons_zero, List.set_cons_succ]
  refine take_ph 39 (i := 17) rfl rfl (by decide) (by kernel_rfl) (by kernel_rfl) (by kernel_rfl) (fun _ _ _ h => h) (by rfl) (fun w hSw => by (try dsimp only at hSw); go_simp; first | done | with_reducible rfl) hp (fun hp => ?_)
  try simp only [Act.put, List.setIfInBounds_toArray, List.set_cons_zero, List.set_cons_succ]
  refine AnyL.one (i := 20) (by kernel_rfl) rfl (fun K hK => ?_)
  go_simp
  refine (hD6.out _ (H10.out.ext (BA.trans (b4.mono BA.size)))).mono ?_
  rintro e w5 ⟨rfl, hb5⟩
  have b5 := b4.trans (hb5.mono b4.size)
  refine hK.out _ _ (ph1 (fun o => b5.cell (p := ⟨w1.heap.size, o, none⟩) hwl) trivial) (fun hp => ?_)
  clear hK
  try simp only [Act.put, List.setIfInBounds_toArray, List.set_cons_zero, List.set_cons_succ]
  refine take_ph 43 (i := 21) rfl rfl (by decide) (by kernel_rfl) (by kernel_rfl) (by kernel_rfl) (fun _ _ _ h => h) (by rfl) (fun w hSw => by (try dsimp only at hSw); go_simp; first | done | with_reducible rfl) hp (fun hp => ?_)
  try simp only [Act.put, List.setIfInBounds_toArray, List.set_cons_zero, List.set_cons_succ]
  refine AnyL.one (i := 22) (by kernel_rfl) rfl (fun K hK => ?_)
  go_simp
  refine hK.out _ _ (ph1 (fun o => b5.cell (p := ⟨w1.heap.size, o, none⟩) hwl) trivial) (fun hp => ?_)
  clear hK
  try simp only [Act.put, List.setIfInBounds_toArray, List.set_cons_zero, List.set_cons_succ]
  refine AnyL.done (by kernel_rfl) ?_ _
  simp only [Exit.then]
  clear hp k1 k2 k3 k4 k5 k6 k7 k8 hD1 hD6 hP1 hP2
  rw [show g0 ++ (⟨#[32]⟩ : ByteArray) ++ decStr g1 ++ (⟨#[107, 103, 32]⟩ : ByteArray) ++ ptStr g2 g3 ++ (⟨#[32]⟩ : ByteArray) ++ ptStr g4 g5 ++ (⟨#[32]⟩ : ByteArray) ++ decStr g6 = ltHead ⟨g0, g1, g2, g3, g4, g5, g6, g7⟩ from rfl]
  generalize ltHead ⟨g0, g1, g2, g3, g4, g5, g6, g7⟩ = T at *
  have B5 := BA.trans (b5.mono BA.size)
  have c8 : w5.cell? ⟨w1.heap.size, 8, none⟩ = some (.slice ta aft.length tc) := (b5.cell (p := ⟨w1.heap.size, 8, none⟩) hwl).trans ((Lib.cell_of_heap hX.out 8).trans rfl)
  have hrow5 := Lib.hid (hrow1.out.ext b5)
  clear hrow1 hb2 hb3 hb4 hb5 b1 b2 b3 b4 c0 c1 c2 c3 c4 c5 c6
  have hkI : (k : Int) < 10 := by omega
  go_wp2_with fail
  go_loopw [9, 47] (fun o i wr => ∃ (j : Nat) (acc : List ByteArray), j ≤ aft.length ∧ i = .int .i64 j ∧ Below w5.heap.size w5 wr ∧ Hid (Own 1 nmC w5.heap.size 9 wr o acc) ∧ Hid (acc.length = j ∧ ∀ s ∈ acc, s.size ≤ 12)) (fun _ i _ => aft.length - (Go.RowKit.intOf i).toNat)
  case atStart => exact ⟨0, [], Nat.zero_le _, rfl, Below.refl _ _, Lib.hid (own_nil _ _ _), Lib.hid ⟨rfl, fun s h => absurd h (by simp)⟩⟩
  case round =>
    obtain ⟨j, acc, hj, rfl, hB, hown, hacc⟩ := hrel
    have hBs := hB.size
    obtain ⟨va, vc, rfl⟩ := own_sv hown.out
    rw [hacc.out.1] at hown ⊢
    by_cases hjl : j < aft.length
    · obtain ⟨ba, oa, rfl⟩ := (hrow5.out.ext hB).addr (by omega)
      have ca := Ints.at (hrow5.out.ext hB).get hjl
      have hri := (Hris.out j hjl).1
      obtain ⟨m, hm⟩ : ∃ m : Nat, aft[j] = (m : Int) := ⟨(aft[j]).toNat, by omega⟩
      have hmL : m < L.length := by omega
      have hm1 : m < rs.length := by rw [Hl1.out]; exact hmL
      have hs := Hs.out.ext (B5.trans (hB.mono B5.size))
      have hfl := (hs.one hmL hm1).1
      have d0 := (Lifts_at hs hm1).1
      rw [hfl] at d0
      have hnm := (Hok.out.1 m hmL).1.1.2.1
      have Hnew := Lib.hid (show (acc ++ [L[m].1.name]).length = j + 1 ∧ ∀ s ∈ acc ++ [L[m].1.name], s.size ≤ 12 from ⟨by rw [List.length_append, hacc.out.1]; rfl, fun s h => by
        rcases List.mem_append.1 h with h | h
        · exact hacc.out.2 s h
        · simp at h; subst h; exact hnm⟩)
      have hmI : (m : Int) < (L.length : Int) := by omega
      rw [hm] at ca
      clear hs hfl hri hm hnm
      generalize L[m].1.name = nm at *
      go_wp2_with (at_builtin; refine wpList_app1 (c := nmC) (bytes := 16) rfl _ _ 68 9 rfl Tryd.underlying68 info_strL (by omega) nmC_len nmC_one w5.heap.size acc nm _ rfl _ rfl hown.out rfl (by have := hacc.out.1; omega) (by have := hacc.out.1; omega) hBs ?_; intro v' w6 hown6 hg6; have hB6 := hown.out.app hB (Nat.le_refl _) hBs hg6; have Hown6 := Lib.hid hown6; clear hown6 hg6)
      go_roundw
      case rel => exact ⟨j + 1, acc ++ [nm], by omega, by go_num, hB6, Hown6, Hnew⟩
      case measure => simp [Go.RowKit.intOf]; omega
    · by_cases hj0 : 0 < j
      · obtain ⟨bn, cn, hvn⟩ := own_addr hown.out (by rw [hacc.out.1]; exact hj0)
        rw [hacc.out.1] at hvn
        cases hvn
        have hsl := (hown.out.slw nmC_len).1
        have hbw := (World.ownsRow.lt hown.out bn rfl).2
        have hJ := Tryd.strings_Join bn 0 vc acc (⟨#[44]⟩ : ByteArray) wr (fun i x hx => by
          obtain ⟨hi, e⟩ := List.getElem?_eq_some_iff.1 hx
          have := hsl.get i hi 0 (.string acc[i]) rfl
          rw [e] at this
          simpa using this) hbw (by have := hacc.out.1; omega) (by
            obtain ⟨_, _, hv, hc, _⟩ := hsl
            cases hv
            exact hc.1) (by have := join_bd acc hacc.out.2; have h2 := hacc.out.1; simp only [] at *; omega)
        have hjb := join_bd acc hacc.out.2
        rw [hacc.out.1] at hJ hjb
        have hjz : (⟨(Lib.join (acc.map (·.data.toList)) [44]).toArray⟩ : ByteArray).size ≤ 13 * j + 12 := by simpa [ByteArray.size] using hjb
        simp only [] at hJ
        generalize (⟨(Lib.join (acc.map (·.data.toList)) [44]).toArray⟩ : ByteArray) = J at *
        have HJ := Lib.hid hJ
        clear hJ hsl hjb
        have hjI : (0 : Int) < (j : Int) := by omega
        have hTs := hT.out.1
        have k1 : ¬ 9223372036854775807 < 7 + J.size := by omega
        have k2 : ¬ 9223372036854775807 < T.size + (7 + J.size) := by omega
        go_wp2_with fail
        refine HJ.out.mono ?_
        rintro e w7 ⟨rfl, hb7⟩
        go_wp2
        go_ret2
        exact ⟨_, rfl, by have := hT.out.2; simp only [ByteArray.size_append]; omega, B5.trans ((hB.trans (hb7.mono hBs)).mono B5.size)⟩
      · obtain rfl : j = 0 := by omega
        go_wp2
        go_ret2
        exact ⟨_, rfl, hT.out.2, B5.trans (hB.mono B5.size)⟩
end Go.Proofs.YtijpghlkbfmefaaDoor
