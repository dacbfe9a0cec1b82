/- The lines of a text: in plain Lean, and as the library hands them out. -/
import Derived.RangeFuncNested
import Derived.RangeFuncBound
import Derived.RangeFuncCalls
import Derived.RangeFuncLeaves
import Derived.Shelf.Abstract
import Derived.Shelf.RegionOpen
import Derived.OwnWalkIn
import Derived.TacticsInMore
import Derived.LoopNIn
import Derived.LoopIn
import Derived.RangeFuncFrom
import Derived.Test.YtmglcdmccikinaaDoorYld
import Derived.Test.YtmglcdmccikinaaDoorLnP
import Derived.Test.YtmglcdmccikinaaDoorShelf
import Derived.Test.YtmglcdmccikinaaDoorPh
namespace Go.Proofs.YtmglcdmccikinaaDoor
section
open Go.RowKit Go.Shelf
attribute [local go_sem] Oper.semAt_some
open Classical in
/-- Where the line that begins at a place ends. -/
noncomputable def lineEnd (s : ByteArray) (a : Nat) : Nat := if h : ∃ i, NlAt s a i then Exists.choose h + 1 else s.size
theorem lineEnd_nl {s : ByteArray} {a i : Nat} (h : NlAt s a i) : lineEnd s a = i + 1 := by
  have he : ∃ i, NlAt s a i := ⟨i, h⟩
  unfold lineEnd
  rw [dif_pos he, he.choose_spec.uniq h]
theorem lineEnd_no {s : ByteArray} {a : Nat} (h : ∀ i, ¬ NlAt s a i) : lineEnd s a = s.size := by
  unfold lineEnd
  rw [dif_neg (fun ⟨i, hi⟩ => h i hi)]
theorem lineEnd_bd {s : ByteArray} {a : Nat} (ha : a < s.size) : a < lineEnd s a ∧ lineEnd s a ≤ s.size := by
  by_cases h : ∃ i, NlAt s a i
  · obtain ⟨i, hi⟩ := h
    rw [lineEnd_nl hi]
    obtain ⟨h1, h2, -⟩ := hi
    omega
  · rw [lineEnd_no (fun i hi => h ⟨i, hi⟩)]
    omega
/-- The lines from a place on: where each begins and ends. -/
noncomputable def spans (s : ByteArray) (a : Nat) : List (Nat × Nat) := if _h : a < s.size then (a, lineEnd s a) :: spans s (lineEnd s a) else []
termination_by s.size - a
decreasing_by have := lineEnd_bd _h; omega
theorem spans_end {s : ByteArray} {a : Nat} (h : ¬ a < s.size) : spans s a = [] := by rw [spans, dif_neg h]
theorem spans_go {s : ByteArray} {a : Nat} (h : a < s.size) : spans s a = (a, lineEnd s a) :: spans s (lineEnd s a) := by rw [spans, dif_pos h]
theorem spans_at {s : ByteArray} {a k : Nat} (h : a < s.size) (hd : (spans s 0).drop k = spans s a) : ∃ hk : k < (spans s 0).length, (spans s 0)[k] = (a, lineEnd s a) ∧ (spans s 0).drop (k + 1) = spans s (lineEnd s a) := by
  rw [spans_go h] at hd
  have hk : k < (spans s 0).length := by
    apply Nat.lt_of_not_le
    intro hle
    rw [List.drop_eq_nil_of_le hle] at hd
    cases hd
  refine ⟨hk, ?_, ?_⟩
  · rw [List.drop_eq_getElem_cons hk] at hd
    exact (List.cons.inj hd).1
  · rw [List.drop_eq_getElem_cons hk] at hd
    exact (List.cons.inj hd).2
def lineV (s : ByteArray) (x : Nat × Nat) : Value := .string (s.extract x.1 x.2)
theorem nl_index {s : ByteArray} {a i : Nat} (h : NlAt s a i) : Lib.indexByte (s.extract a s.size).data.toList 10 = ((i - a : Nat) : Int) := by
  obtain ⟨h1, h2, h3, h4⟩ := h
  have hz : (s.extract a s.size).size = s.size - a := by rw [ByteArray.size_extract]; omega
  refine index_at ((byte_at (by omega) _).2 ?_) (fun k hk => ?_)
  · rw [ByteArray.getElem_extract]
    have : a + (i - a) = i := by omega
    simp only [this]
    exact h3
  · have hks : k < (s.extract a s.size).size := by omega
    intro e
    have := (byte_at hks _).1 e
    rw [ByteArray.getElem_extract] at this
    exact h4 (a + k) (by omega) (by omega) (by omega) this
theorem nl_none {s : ByteArray} {a : Nat} (h : ∀ i, ¬ NlAt s a i) : Lib.indexByte (s.extract a s.size).data.toList 10 = -1 := by
  have key : ∀ i, ∀ hi : i < s.size, a ≤ i → ¬ s[i].toNat = 10 := by
    intro i
    induction i using Nat.strongRecOn with
    | _ i ih =>
      intro hi ha h10
      exact h i ⟨ha, hi, h10, fun j hj haj hji => ih j hji hj haj⟩
  refine index_none (fun i e => ?_)
  by_cases hi : i < (s.extract a s.size).size
  · have h1 := (byte_at hi _).1 e
    rw [ByteArray.getElem_extract] at h1
    rw [ByteArray.size_extract] at hi
    exact key (a + i) (by omega) (by omega) h1
  · exact byte_no hi _ e
def leftStr (p : Nat) (w : World) : Nat := match w.cell? ⟨p, 0, none⟩ with | some (.string x) => x.size | _ => 0
theorem blind_set {p : Nat} {J : Nat → World → Prop} (h : Blind p J) {k : Nat} {W : World} (hj : J k W) (j : Nat) (u : Value) : J k (W.setCell ⟨p, j, none⟩ u) :=
  h k W _ hj ⟨rfl, rfl, rfl, by simp [World.setCell], fun q _ hq => Below.heap_setCell _ _ _ _ (fun e => hq (by rw [e]))⟩
theorem blind_drew {p : Nat} {J : Nat → World → Prop} (h : Blind p J) {k : Nat} {W : World} (hj : J k W) : J k W.drew :=
  h k W _ hj ⟨rfl, rfl, rfl, Nat.le_refl _, fun _ _ _ => rfl⟩
set_option maxRecDepth 100000 in
set_option maxHeartbeats 8000000 in
theorem lines_yields (n : Nat) (hn : 1 ≤ n) (p : Nat) (s : ByteArray) (w : World) (hs : s.size ≤ 9223372036854775807) (hp : w.heap[p]? = some (.cells #[.string s] 9 (0, 0))) :
    Yields Fence.wide n Tryd.prog 25 #[.pointer (some ⟨p, 0, none⟩)] (lineV s) p (spans s 0) w := fun lid J Jx W hW hJ hJx hY h0 => by
  have hp0 := (hW.block _ (Array.getElem?_eq_some_iff.1 hp).1).trans hp
  clear hp hW w
  have HJ := Lib.hid hJ
  have HY := Lib.hid hY
  clear hJ hJx hY
  refine callsIn_of_wp Tryd.func25 rfl trivial ?_ rfl
  simp only [Tryd.ntmps25, List.size_toArray, List.length_cons, List.length_nil, Nat.reduceAdd, Nat.reduceSub, Array.replicate_succ, Array.replicate_zero, List.push_toArray, List.append_toArray, List.nil_append, List.cons_append]
  gi_wp2
  gi_loopw [3] (fun _ wr => ∃ k a, k ≤ (spans s 0).length ∧ J k wr ∧ Hid (wr.heap[p]? = some (.cells #[.string (s.extract a s.size)] 9 (0, 0))) ∧ a ≤ s.size ∧ Hid ((spans s 0).drop k = spans s a)) (fun _ wr => leftStr p wr)
  case atStart => exact ⟨0, 0, Nat.zero_le _, h0, Lib.hid (by rw [hp0]; simp), Nat.zero_le _, Lib.hid rfl⟩
  case round =>
    obtain ⟨k, a, hk, hj, hp, ha, hd⟩ := hrel
    have c0 : wr.cell? ⟨p, 0, none⟩ = some (.string (s.extract a s.size)) := (Lib.cell_of_heap hp.out 0).trans rfl
    have f0 : ∀ j, wr.frozen? ⟨p, j, none⟩ = false := fun j => Lib.frozen_of_heap hp.out j
    have hlft : leftStr p wr = s.size - a := by unfold leftStr; rw [c0]; simp [ByteArray.size_extract]
    have hz : (s.extract a s.size).size = s.size - a := by rw [ByteArray.size_extract]; omega
    by_cases hlt : a < s.size
    · obtain ⟨hk1, hat, hd1⟩ := spans_at hlt hd.out
      have hbd := lineEnd_bd hlt
      by_cases hnl : ∃ i, NlAt s a i
      · obtain ⟨i, hi⟩ := hnl
        have hI := Tryd.strings_IndexByte (s.extract a s.size) 10 wr
        rw [show (10 : Int).toNat.toUInt8 = 10 from rfl, nl_index hi] at hI
        rw [lineEnd_nl hi] at hat hd1 hbd
        obtain ⟨hi1, hi2, -⟩ := hi
        have hI := hI.mono (fun e w' h => (⟨h.1, h.2.symm⟩ : e = _ ∧ wr = w'))
        obtain ⟨m, hm⟩ : ∃ m, m = i - a := ⟨_, rfl⟩
        rw [← hm] at hI
        have HI := Lib.hid hI
        have hm1 : m + 1 ≤ (s.extract a s.size).size := by omega
        have e1 : Hid ((s.extract a s.size).extract 0 (m + 1) = s.extract a (i + 1)) := Lib.hid (by rw [ByteArray.extract_extract]; congr 1; omega)
        have e2 : Hid ((s.extract a s.size).extract (m + 1) (s.extract a s.size).size = s.extract (i + 1) s.size) := Lib.hid (by rw [ByteArray.extract_extract, ByteArray.size_extract]; congr 1 <;> omega)
        have HP := Lib.hid hp.out
        have hi3 : i + 1 ≤ s.size := by omega
        have hR0 : 0 < (s.extract a s.size).size := by omega
        have hmb : m + 1 ≤ 9223372036854775807 := by omega
        clear hI hm hp hd hi2 hz
        generalize s.extract a s.size = R at *
        gi_wp2_with (refine ⟨trivial, ?_⟩; gi_at_call 26; refine (callsIn_wide.2 HI.out).mono ?_; rintro e w1 ⟨rfl, rfl⟩)
        have hw1 : IntKind.i64.wrap ((m : Int) + 1) = ((m + 1 : Nat) : Int) := by rw [IntKind.wrap_i64]; omega
        have hm2 : (m : Int) + 1 ≤ (R.size : Int) := by omega
        have hm3 : (0 : Int) ≤ (m : Int) + 1 := by omega
        refine wpIn_wide.2 ?_
        refine region_ph 9 (fun _ => True) (fun w' => w'.cell? ⟨p, 0, none⟩ = some (.string R)) (by kernel_rfl) trivial c0 (fun hp => ?_)
        refine take_ph1 12 (i := 0) rfl rfl (by decide) (by rfl) (by kernel_rfl) (by kernel_rfl) (by kernel_rfl) (by kernel_rfl) (fun _ _ _ h => h) (by rfl) (fun w hSw hBw => by (try dsimp only at hSw hBw); go_simp; first | done | with_reducible rfl) hp (fun hp => ?_)
        try simp only [Act.put, List.setIfInBounds_toArray, List.set_cons_zero, List.set_cons_succ]
        refine take_ph 13 (i := 1) rfl rfl (by decide) (by kernel_rfl) (by kernel_rfl) (by kernel_rfl) (fun _ _ _ h => h) (by rfl) (fun w hSw => by (try dsimp only at hSw); go_simp; first | done | with_reducible rfl) hp (fun hp => ?_)
        try simp only [Act.put, List.setIfInBounds_toArray, List.set_cons_zero, List.set_cons_succ]
        refine take_ph 14 (i := 2) rfl rfl (by decide) (by kernel_rfl) (by kernel_rfl) (by kernel_rfl) (fun _ _ _ h => h) (by rfl) (fun w hSw => by (try dsimp only at hSw); go_simp; first | done | with_reducible rfl) hp (fun hp => ?_)
        try simp only [Act.put, List.setIfInBounds_toArray, List.set_cons_zero, List.set_cons_succ]
        refine take_ph 15 (i := 3) rfl rfl (by decide) (by kernel_rfl) (by kernel_rfl) (by kernel_rfl) (fun _ _ _ h => h) (by rfl) (fun w hSw => by (try dsimp only at hSw); go_simp; first | done | with_reducible rfl) hp (fun hp => ?_)
        try simp only [Act.put, List.setIfInBounds_toArray, List.set_cons_zero, List.set_cons_succ]
        refine take_ph1 16 (i := 4) rfl rfl (by decide) (by rfl) (by kernel_rfl) (by kernel_rfl) (by kernel_rfl) (by kernel_rfl) (fun _ _ _ h => h) (by rfl) (fun w hSw hBw => by (try dsimp only at hSw hBw); go_simp; first | done | with_reducible rfl) hp (fun hp => ?_)
        try simp only [Act.put, List.setIfInBounds_toArray, List.set_cons_zero, List.set_cons_succ]
        refine take_ph 17 (i := 5) rfl rfl (by decide) (by kernel_rfl) (by kernel_rfl) (by kernel_rfl) (fun _ _ _ h => h) (by rfl) (fun w hSw => by (try dsimp only at hSw); go_simp; first | done | with_reducible rfl) hp (fun hp => ?_)
        try simp only [Act.put, List.setIfInBounds_toArray, List.set_cons_zero, List.set_cons_succ]
        refine take_ph 18 (i := 6) rfl rfl (by decide) (by kernel_rfl) (by kernel_rfl) (by kernel_rfl) (fun _ _ _ h => h) (by rfl) (fun w hSw => by (try dsimp only at hSw); go_simp; first | done | with_reducible rfl) hp (fun hp => ?_)
        try simp only [Act.put, List.setIfInBounds_toArray, List.set_cons_zero, List.set_cons_succ]
        refine take_ph 19 (i := 7) rfl rfl (by decide) (by kernel_rfl) (by kernel_rfl) (by kernel_rfl) (fun _ _ _ h => h) (by rfl) (fun w hSw => by (try dsimp only at hSw); go_simp; first | done | with_reducible rfl) hp (fun hp => ?_)
        try simp only [Act.put, List.setIfInBounds_toArray, List.set_cons_zero, List.set_cons_succ]
        refine take_ph 3 (i := 8) rfl rfl (by decide) (by kernel_rfl) (by kernel_rfl) (by kernel_rfl) (fun _ _ _ h => h) (by rfl) (fun w hSw => by (try dsimp only at hSw); go_simp; first | done | with_reducible rfl) hp (fun hp => ?_)
        try simp only [Act.put, List.setIfInBounds_toArray, List.set_cons_zero, List.set_cons_succ]
        refine AnyL.one (i := 9) (by kernel_rfl) rfl (fun K hK => ?_)
        go_simp
        refine hK.out _ _ (ph2 rfl trivial) (fun hp => ?_)
        clear hK
        refine AnyL.done (by kernel_rfl) ?_ _
        have hx2 : (wr.setCell ⟨p, 0, none⟩ (.string (R.extract (m + 1) R.size))).drew.heap[p]? = some (.cells #[.string (R.extract (m + 1) R.size)] 9 (0, 0)) := by
          have := HP.out
          simp [World.setCell, World.drew, Array.getElem?_modify, this]
        have hj2 := blind_drew HJ.out (blind_set HJ.out hj 0 (.string (R.extract (m + 1) R.size)))
        obtain ⟨W2, hW2⟩ : ∃ W2, (wr.setCell ⟨p, 0, none⟩ (.string (R.extract (m + 1) R.size))).drew = W2 := ⟨_, rfl⟩
        rw [hW2] at hx2 hj2
        have hJ2 := HY.out k hk1 W2 hj2
        rw [hat] at hJ2
        simp only [lineV] at hJ2
        rw [← e1.out] at hJ2
        obtain ⟨fn, tmps, assign, body, hy, hR⟩ := hJ2
        have HW2 := Lib.hid hW2
        have Hx2 := Lib.hid hx2
        clear hW2 hx2 c0 f0
        rw [HW2.out]
        gi_wp2
        refine hR.mono ?_
        rintro e W3 (⟨rfl, hJ3, hk3⟩ | ⟨rfl, hJx3⟩)
        · have hx3 := hk3.trans Hx2.out
          rw [e2.out] at hx3
          have Hx3 := Lib.hid hx3
          have hl3 : leftStr p W3 = s.size - (i + 1) := by
            unfold leftStr
            rw [(Lib.cell_of_heap hx3 0).trans rfl]
            simp [ByteArray.size_extract]
          clear hx3 hk3
          gi_wp2
          go_roundw
          case rel => exact ⟨k + 1, i + 1, hk1, hJ3, Hx3, hi3, Lib.hid hd1⟩
          case measure => rw [hl3, hlft]; omega
        · gi_wp2
          refine bodyPost_ret (results_none rfl _ _ _) rfl ?_
          exact ⟨⟨_, rfl⟩, .inr ⟨k, hk1, hJx3⟩⟩
      · have hno : ∀ i, ¬ NlAt s a i := fun i hi => hnl ⟨i, hi⟩
        have hI := Tryd.strings_IndexByte (s.extract a s.size) 10 wr
        rw [show (10 : Int).toNat.toUInt8 = 10 from rfl, nl_none hno] at hI
        rw [lineEnd_no hno] at hat hd1 hbd
        have hI := hI.mono (fun e w' h => (⟨h.1, h.2.symm⟩ : e = _ ∧ wr = w'))
        have HI := Lib.hid hI
        have HP := Lib.hid hp.out
        have hR0 : 0 < (s.extract a s.size).size := by omega
        have hend : Hid ((⟨#[]⟩ : ByteArray) = s.extract s.size s.size) := Lib.hid (by apply ByteArray.ext; simp)
        have hj2 := blind_set HJ.out hj 0 (.string ⟨#[]⟩)
        have hx2 : (wr.setCell ⟨p, 0, none⟩ (.string ⟨#[]⟩)).heap[p]? = some (.cells #[.string ⟨#[]⟩] 9 (0, 0)) := by
          have := HP.out
          simp [World.setCell, Array.getElem?_modify, this]
        have hJ2 := HY.out k hk1 _ hj2
        rw [hat] at hJ2
        simp only [lineV] at hJ2
        have hd1 := Lib.hid hd1
        have hlft := Lib.hid hlft
        clear hp hd hz hat hI
        have hae : a < s.size := hlt
        generalize s.extract a s.size = R at *
        obtain ⟨fn, tmps, assign, body, hy, hR⟩ := hJ2
        have Hx2 := Lib.hid hx2
        clear hx2
        gi_wp2_with (refine ⟨trivial, ?_⟩; gi_at_call 26; refine (callsIn_wide.2 HI.out).mono ?_; rintro e w1 ⟨rfl, rfl⟩)
        refine hR.mono ?_
        rintro e W3 (⟨rfl, hJ3, hk3⟩ | ⟨rfl, hJx3⟩)
        · have hx3 := hk3.trans Hx2.out
          rw [hend.out] at hx3
          have Hx3 := Lib.hid hx3
          have hl3 : leftStr p W3 = 0 := by
            unfold leftStr
            rw [(Lib.cell_of_heap hx3 0).trans rfl]
            simp
          clear hx3 hk3
          gi_wp2
          go_roundw
          case rel => exact ⟨k + 1, s.size, hk1, hJ3, Hx3, Nat.le_refl _, hd1⟩
          case measure => rw [hl3, hlft.out]; omega
        · gi_wp2
          refine bodyPost_ret (results_none rfl _ _ _) rfl ?_
          exact ⟨⟨_, rfl⟩, .inr ⟨k, hk1, hJx3⟩⟩
    · obtain rfl : a = s.size := by omega
      have hz0 : (s.extract s.size s.size) = ⟨#[]⟩ := by
        apply ByteArray.ext
        simp
      have hkk : k = (spans s 0).length := by
        have := hd.out
        rw [spans_end hlt] at this
        have := List.drop_eq_nil_iff.1 this
        omega
      subst hkk
      rw [hz0] at c0
      gi_wp2
      go_end0
      exact ⟨⟨_, rfl⟩, .inl hj⟩
end
end Go.Proofs.YtmglcdmccikinaaDoor
