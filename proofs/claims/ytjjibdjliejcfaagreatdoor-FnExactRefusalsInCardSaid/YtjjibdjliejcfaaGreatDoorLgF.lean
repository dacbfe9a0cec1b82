/- The log: the program takes a line apart. -/
import Derived.Lib.IndexBytes
import Derived.Lib.IndexLaws
import Derived.Lib.CutLaws
import Derived.Shelf.Strings.Split
import Derived.Test.YtjjibdjliejcfaaGreatDoorShelf
import Derived.Test.YtjjibdjliejcfaaGreatDoorLgR
import Derived.Handy
import Derived.Test.YtjjibdjliejcfaaGreatDoorNX
import Derived.Test.YtjjibdjliejcfaaGreatDoorPh
import Derived.Test.YtjjibdjliejcfaaGreatDoorNumI
namespace Go.Proofs.YtjjibdjliejcfaaGreatDoor
open Go.RowKit
theorem index_at {l : List UInt8} {c : UInt8} {i : Nat} (h : l[i]? = some c) (hn : ∀ k, k < i → l[k]? ≠ some c) : Lib.indexByte l c = i := by
  by_cases h1 : Lib.indexByte l c = -1
  · exact absurd h (Lib.indexByte_none h1 i)
  · have hge := Lib.indexByte_ge l c
    obtain ⟨o, ho⟩ : ∃ o : Nat, Lib.indexByte l c = o := ⟨(Lib.indexByte l c).toNat, by omega⟩
    obtain ⟨h2, h3⟩ := Lib.indexByte_some ho
    rcases Nat.lt_trichotomy o i with h | h'' | h'
    · exact absurd h2 (hn o h)
    · rw [ho, h'']
    · exact absurd h (h3 i h')
theorem index_none {l : List UInt8} {c : UInt8} (h : ∀ i : Nat, l[i]? ≠ some c) : Lib.indexByte l c = -1 := by
  have hge := Lib.indexByte_ge l c
  by_cases h1 : Lib.indexByte l c = -1
  · exact h1
  · obtain ⟨o, ho⟩ : ∃ o : Nat, Lib.indexByte l c = o := ⟨(Lib.indexByte l c).toNat, by omega⟩
    exact absurd (Lib.indexByte_some ho).1 (h o)
theorem byte_at {s : ByteArray} {i : Nat} (h : i < s.size) (c : UInt8) : s.data.toList[i]? = some c ↔ s[i].toNat = c.toNat := by
  rw [getT h]
  constructor
  · intro e; rw [Option.some.inj e]
  · intro e; rw [UInt8.toNat_inj.1 e]
theorem byte_no {s : ByteArray} {i : Nat} (h : ¬ i < s.size) (c : UInt8) : s.data.toList[i]? ≠ some c := by
  rw [List.getElem?_eq_none (by rw [Array.length_toList]; exact Nat.le_of_not_lt h)]
  exact fun e => by cases e
theorem blank_index {s : ByteArray} {i : Nat} (h : BlankAt s i) : Lib.indexB s (⟨#[32]⟩ : ByteArray) = (i : Int) := by
  obtain ⟨hi, h1, h2⟩ := h
  rw [Lib.one s (⟨#[32]⟩ : ByteArray) rfl]
  refine index_at ((byte_at hi _).2 h1) (fun k hk => ?_)
  by_cases hks : k < s.size
  · exact fun e => h2 k hks hk ((byte_at hks _).1 e)
  · exact byte_no hks _
theorem split_cat {a r : ByteArray} (k : Nat) (h : noB 32 a) : Lib.splitB (⟨#[32]⟩ : ByteArray) 0 (k + 1) (a ++ (⟨#[32]⟩ : ByteArray) ++ r) = a :: Lib.splitB (⟨#[32]⟩ : ByteArray) 0 k r := by
  have hb := blank_cat (r := r) h
  rw [Lib.splitB_hit _ _ _ _ _ (blank_index hb)]
  have e : (⟨#[32]⟩ : ByteArray).size = 1 := rfl
  rw [Nat.add_zero, e]
  congr 1
  · rw [ByteArray.append_assoc, ByteArray.extract_append_eq_left rfl]
  · congr 1
    exact ByteArray.extract_append_eq_right (a := a ++ (⟨#[32]⟩ : ByteArray)) (b := r) (i := a.size + 1) (j := (a ++ (⟨#[32]⟩ : ByteArray) ++ r).size) (by rw [ByteArray.size_append, e]) (by rw [ByteArray.size_append (a := a ++ (⟨#[32]⟩ : ByteArray))])
theorem split_body (sg : Int) {x : Ent} (hx : x.plain) : Lib.splitB (⟨#[32]⟩ : ByteArray) 0 3 (bodyB sg x) = [decStr sg, decStr x.second, x.who, x.what] := by
  unfold bodyB
  rw [split_cat 2 (noB_dec sg (.inl rfl)), split_cat 1 (noB_dec x.second (.inl rfl)), split_cat 0 (noB_name hx.2.1 (.inl rfl)), Lib.splitB_zero]
theorem splitB_sizes (sep : ByteArray) : ∀ (k : Nat) (s : ByteArray), ∀ x ∈ Lib.splitB sep 0 k s, x.size ≤ s.size
  | 0, s, x, h => by rw [Lib.splitB_zero, List.mem_singleton] at h; rw [h]; exact Nat.le_refl _
  | k + 1, s, x, h => by
    rcases Lib.indexB_cases s sep with h1 | ⟨i, h1, h2⟩
    · rw [Lib.splitB_miss _ _ _ _ h1, List.mem_singleton] at h; rw [h]; exact Nat.le_refl _
    · rw [Lib.splitB_hit _ _ _ _ _ h1] at h
      rcases List.mem_cons.1 h with rfl | h
      · rw [ByteArray.size_extract]; omega
      · have := splitB_sizes sep k _ x h
        rw [ByteArray.size_extract] at this
        omega
theorem body_size (sg : Int) (x : Ent) : 3 ≤ (bodyB sg x).size := by
  unfold bodyB
  simp only [ByteArray.size_append]
  have e : (⟨#[32]⟩ : ByteArray).size = 1 := rfl
  omega
/-- The bound of the bytes' search is laid. -/
def ML (w : World) : Prop := ∃ m, w.cell? ⟨1, 0, none⟩ = some (.int .i64 m)
theorem ML.ext {w w' : World} (h : ML w) (hb : Below w.heap.size w w') : ML w' := by
  obtain ⟨m, hm⟩ := h
  exact ⟨m, (hb.cell (p := ⟨1, 0, none⟩) (World.block_lt_of_cell? w _ hm)).trans hm⟩
/-- The words of a line: at the most four. -/
def words (s : ByteArray) : List ByteArray := Lib.splitB (⟨#[32]⟩ : ByteArray) 0 (min 4 (s.size + 1) - 1) s
theorem words_le (s : ByteArray) : (words s).length ≤ min 4 (s.size + 1) := by
  have := Lib.splitB_length_le (⟨#[32]⟩ : ByteArray) 0 (min 4 (s.size + 1) - 1) s
  unfold words
  omega
theorem words_body (sg : Int) {x : Ent} (hx : x.plain) : words (bodyB sg x) = [decStr sg, decStr x.second, x.who, x.what] := by
  have := body_size sg x
  unfold words
  rw [show min 4 ((bodyB sg x).size + 1) - 1 = 3 by omega]
  exact split_body sg hx
theorem split_N (s : ByteArray) (w : World) (hs : s.size ≤ 4000) (hm : ML w) : Calls Tryz.prog 85 #[.string s, .string (⟨#[32]⟩ : ByteArray), .int .i64 4] w fun e w' =>
    e = .returned (.slice (some ⟨w.heap.size, 0, none⟩) (words s).length (min 4 (s.size + 1))) ∧ w' = w.alloc (.cells (Lib.cellsOf (words s) (min 4 (s.size + 1))) 9) := by
  obtain ⟨m, hm⟩ := hm
  exact Any.strings_SplitN { Tryz.laysM147 with } Tryz.laysM147.i9 s (⟨#[32]⟩ : ByteArray) 4 m w (by omega) hm (Nat.le_refl _) (by omega) (by omega)
def EntRes (s : ByteArray) (w : World) (e : Ending) (w' : World) : Prop :=
  ∃ (x : Ent) (ok : Bool), e = .returned (.tuple #[.agg x.cells.toArray, .bool ok]) ∧ x.wf ∧ (∀ sg y, Ent.plain y → s = bodyB sg y → x = y ∧ ok = true) ∧ Below w.heap.size w w'
set_option maxRecDepth 100000 in
set_option maxHeartbeats 4000000 in
theorem impl_EntryOf (s : ByteArray) (w : World) (hs : s.size ≤ 4000) (hm : ML w) (h10 : P10 w) (hev : EV w) : Calls Tryz.prog 70 #[.string s] w (EntRes s w) := by
  have hb0 : Below w.heap.size w (w.alloc (.cells #[.int .i64 0, .string ⟨#[]⟩, .string ⟨#[]⟩] 48)) := (Below.refl _ _).alloc (Nat.le_refl _) _
  have HS := Lib.hid (split_N s (w.alloc (.cells #[.int .i64 0, .string ⟨#[]⟩, .string ⟨#[]⟩] 48)) hs (hm.ext hb0))
  have hwl := words_le s
  have hsz := splitB_sizes (⟨#[32]⟩ : ByteArray) (min 4 (s.size + 1) - 1) s
  have hbody : Hid (∀ sg y, Ent.plain y → s = bodyB sg y → words s = [decStr sg, decStr y.second, y.who, y.what]) := Lib.hid (fun sg y hy h => by rw [h]; exact words_body sg hy)
  change ∀ x ∈ words s, _ at hsz
  by_cases h4 : (words s).length < 4
  · have Hb : Hid (∀ sg y, Ent.plain y → s = bodyB sg y → False) := Lib.hid (fun sg y hy h => by rw [hbody.out sg y hy h] at h4; simp at h4)
    have hcap : Hid (Lib.cellsOf (words s) (min 4 (s.size + 1)) = Lib.cellsOf (words s) (min 4 (s.size + 1))) := Lib.hid rfl
    clear hbody hsz
    generalize words s = W at *
    generalize Lib.cellsOf W (min 4 (s.size + 1)) = cs at *
    generalize min 4 (s.size + 1) = m at *
    generalize W.length = n at *
    have hlt : decide ((n : Int) < 4) = true := decide_eq_true (by omega)
    go_enter Tryz.func70, Tryz.ntmps70
    go_wp2_with fail
    refine HS.out.mono ?_
    rintro e w1 ⟨rfl, rfl⟩
    clear HS hcap
    have hz := blkN_below ((Below.refl _ _).alloc (Nat.le_refl _) (.cells cs 9)) (blkN_new w (.cells #[.int .i64 0, .string ⟨#[]⟩, .string ⟨#[]⟩] 48))
    have e0 := (Lib.cell_of_heap hz 0).trans rfl
    have e1 := (Lib.cell_of_heap hz 1).trans rfl
    have e2 := (Lib.cell_of_heap hz 2).trans rfl
    clear hz
    go_wp2
    exact bodyPost_ret (v := .tuple #[.agg #[.int .i64 0, .string ⟨#[]⟩, .string ⟨#[]⟩], .bool false]) (by simp [results, Tryz.results70, go_sem, e0, e1, e2]) rfl ⟨⟨0, ⟨#[]⟩, ⟨#[]⟩⟩, false, rfl, ⟨⟨(by decide : (-9223372036854775808 : Int) ≤ 0), (by decide : (0 : Int) ≤ 9223372036854775807)⟩, Nat.zero_le _, Nat.zero_le _⟩, fun sg y hy h => (Hb.out sg y hy h).elim, by go_grown⟩
  · obtain ⟨a0, a1, a2, a3, hW⟩ : ∃ a0 a1 a2 a3, words s = [a0, a1, a2, a3] := by
      have h5 : (words s).length = 4 := by omega
      generalize words s = W at h5
      rcases W with _ | ⟨a0, _ | ⟨a1, _ | ⟨a2, _ | ⟨a3, _ | ⟨a4, r⟩⟩⟩⟩⟩ <;> simp at h5
      exact ⟨_, _, _, _, rfl⟩
    have hm4 : min 4 (s.size + 1) = 4 := by rw [hW] at hwl; simp at hwl; omega
    have hcs : Lib.cellsOf [a0, a1, a2, a3] 4 = #[.string a0, .string a1, .string a2, .string a3] := rfl
    rw [hW] at hsz
    have z1 := hsz a1 (by simp)
    have z2 := hsz a2 (by simp)
    have z3 := hsz a3 (by simp)
    have HS := HS.out
    rw [hm4, hW, hcs] at HS
    have HS := Lib.hid HS
    have Hb : Hid (∀ sg y, Ent.plain y → s = bodyB sg y → (⟨numV a1, a2, a3⟩ : Ent) = y ∧ numB a1 = true) := Lib.hid (fun sg y hy h => by
      have h6 := hbody.out sg y hy h
      rw [hW] at h6
      simp only [List.cons.injEq, and_true] at h6
      obtain ⟨-, rfl, rfl, rfl⟩ := h6
      obtain ⟨h7, h8⟩ := num_t (num_dec hy)
      rw [h7, h8]
      exact ⟨rfl, rfl⟩)
    have HR := Lib.hid (fun w' (hb : Below w.heap.size w w') => impl_ReadDec a1 w' (by omega) (h10.ext hb) (hev.ext hb))
    have hnv := numV_i64 a1
    clear hbody hW hsz hwl h4 hm4 hcs hm h10 hev
    generalize numV a1 = nv at *
    generalize numB a1 = nb at *
    go_enter Tryz.func70, Tryz.ntmps70
    go_wp2_with fail
    refine HS.out.mono ?_
    rintro e w1 ⟨rfl, rfl⟩
    clear HS
    go_wp2_with fail
    refine (HR.out _ (by go_grown)).mono ?_
    rintro e w2 ⟨rfl, b2⟩
    have hz := blkN_below b2 (blkN_below ((Below.refl _ _).alloc (Nat.le_refl _) (.cells #[.string a0, .string a1, .string a2, .string a3] 9)) (blkN_new w (.cells #[.int .i64 0, .string ⟨#[]⟩, .string ⟨#[]⟩] 48)))
    have hq := blkN_below b2 (blkN_new (w.alloc (.cells #[.int .i64 0, .string ⟨#[]⟩, .string ⟨#[]⟩] 48)) (.cells #[.string a0, .string a1, .string a2, .string a3] 9))
    rw [World.size_alloc] at hq
    have f0 : ∀ j, w2.frozen? ⟨w.heap.size, j, none⟩ = false := fun j => Lib.frozen_of_heap hz j
    have e0 : w2.cell? ⟨w.heap.size, 0, none⟩ = some _ := (Lib.cell_of_heap hz 0).trans rfl
    have e1 : w2.cell? ⟨w.heap.size, 1, none⟩ = some _ := (Lib.cell_of_heap hz 1).trans rfl
    have e2 : w2.cell? ⟨w.heap.size, 2, none⟩ = some _ := (Lib.cell_of_heap hz 2).trans rfl
    have p2 : w2.cell? ⟨w.heap.size + 1, 2, none⟩ = some _ := (Lib.cell_of_heap hq 2).trans rfl
    have p3 : w2.cell? ⟨w.heap.size + 1, 3, none⟩ = some _ := (Lib.cell_of_heap hq 3).trans rfl
    have B2 : Below w.heap.size w w2 := Below.trans (by go_grown) (b2.mono (by simp; omega))
    clear hz hq b2 HR
    have hne3 : ∀ {i j : Nat}, (⟨w.heap.size + 1, i, none⟩ : Addr) ≠ ⟨w.heap.size, j, none⟩ := fun e => by have := congrArg Addr.block e; simp at this
    go_wp2_with fail
    refine region_ph 9 (fun w' => w'.cell? ⟨w.heap.size + 1, 2, none⟩ = some (.string a2) ∧ w'.cell? ⟨w.heap.size + 1, 3, none⟩ = some (.string a3)) (fun _ => True) (by kernel_rfl) ⟨p2, p3⟩ trivial (fun hp => ?_)
    refine take_ph 20 (i := 0) rfl rfl (by decide) (by kernel_rfl) (by kernel_rfl) (by kernel_rfl) (fun _ _ _ h => h) (by rfl) (fun w hSw => by (try dsimp only at hSw); go_simp; first | done | with_reducible rfl) hp (fun hp => ?_)
    try simp only [Act.put, List.setIfInBounds_toArray, List.set_cons_zero, List.set_cons_succ]
    refine take_ph 21 (i := 1) rfl rfl (by decide) (by kernel_rfl) (by kernel_rfl) (by kernel_rfl) (fun _ _ _ h => h) (by rfl) (fun w hSw => by (try dsimp only at hSw); go_simp; first | done | with_reducible rfl) hp (fun hp => ?_)
    try simp only [Act.put, List.setIfInBounds_toArray, List.set_cons_zero, List.set_cons_succ]
    refine take_ph 22 (i := 2) rfl rfl (by decide) (by kernel_rfl) (by kernel_rfl) (by kernel_rfl) (fun _ _ _ h => h) (by rfl) (fun w hSw => by (try dsimp only at hSw); go_simp; first | done | with_reducible rfl) hp (fun hp => ?_)
    try simp only [Act.put, List.setIfInBounds_toArray, List.set_cons_zero, List.set_cons_succ]
    refine take_ph 23 (i := 3) rfl rfl (by decide) (by kernel_rfl) (by kernel_rfl) (by kernel_rfl) (fun _ _ _ h => h) (by rfl) (fun w hSw => by (try dsimp only at hSw); go_simp; first | done | with_reducible rfl) hp (fun hp => ?_)
    try simp only [Act.put, List.setIfInBounds_toArray, List.set_cons_zero, List.set_cons_succ]
    refine take_ph 24 (i := 4) rfl rfl (by decide) (by kernel_rfl) (by kernel_rfl) (by kernel_rfl) (fun _ _ _ h => h) (by rfl) (fun w hSw => by (try dsimp only at hSw); go_simp; first | done | with_reducible rfl) hp (fun hp => ?_)
    try simp only [Act.put, List.setIfInBounds_toArray, List.set_cons_zero, List.set_cons_succ]
    refine take_ph 25 (i := 5) rfl rfl (by decide) (by kernel_rfl) (by kernel_rfl) (by kernel_rfl) (fun _ _ _ h => h) (by rfl) (fun w hSw => by (try dsimp only at hSw); go_simp; first | done | with_reducible rfl) hp (fun hp => ?_)
    try simp only [Act.put, List.setIfInBounds_toArray, List.set_cons_zero, List.set_cons_succ]
    refine take_ph 26 (i := 6) rfl rfl (by decide) (by kernel_rfl) (by kernel_rfl) (by kernel_rfl) (fun _ _ _ h => h) (by rfl) (fun w hSw => by (try dsimp only at hSw); go_simp; first | done | with_reducible rfl) hp (fun hp => ?_)
    try simp only [Act.put, List.setIfInBounds_toArray, List.set_cons_zero, List.set_cons_succ]
    refine take_ph 27 (i := 7) rfl rfl (by decide) (by kernel_rfl) (by kernel_rfl) (by kernel_rfl) (fun _ _ _ h => h) (by rfl) (fun w hSw => by (try dsimp only at hSw); go_simp; first | done | with_reducible rfl) hp (fun hp => ?_)
    try simp only [Act.put, List.setIfInBounds_toArray, List.set_cons_zero, List.set_cons_succ]
    refine take_ph 28 (i := 8) rfl rfl (by decide) (by kernel_rfl) (by kernel_rfl) (by kernel_rfl) (fun _ _ _ h => h) (by rfl) (fun w hSw => by (try dsimp only at hSw); go_simp; first | done | with_reducible rfl) hp (fun hp => ?_)
    try simp only [Act.put, List.setIfInBounds_toArray, List.set_cons_zero, List.set_cons_succ]
    refine AnyL.one (i := 9) (by kernel_rfl) rfl (fun K hK => ?_)
    go_simp
    refine hK.out _ _ (ph2 rfl ⟨?_, ?_⟩) (fun hp => ?_)
    · change (((w2.setCell _ _).setCell _ _).setCell _ _).cell? _ = _
      rw [World.cell?_setCell_other _ _ _ _ hne3.symm, World.cell?_setCell_other _ _ _ _ hne3.symm, World.cell?_setCell_other _ _ _ _ hne3.symm]; exact p2
    · change (((w2.setCell _ _).setCell _ _).setCell _ _).cell? _ = _
      rw [World.cell?_setCell_other _ _ _ _ hne3.symm, World.cell?_setCell_other _ _ _ _ hne3.symm, World.cell?_setCell_other _ _ _ _ hne3.symm]; exact p3
    clear hK
    try simp only [Act.put, List.setIfInBounds_toArray]
    refine take_ph 3 (i := 10) rfl rfl (by decide) (by kernel_rfl) (by kernel_rfl) (by kernel_rfl) (fun _ _ _ h => h) (by rfl) (fun w hSw => by (try dsimp only at hSw); go_simp; first | done | with_reducible rfl) hp (fun hp => ?_)
    try simp only [Act.put]
    refine AnyL.done (by kernel_rfl) ?_ _
    go_wp2
    exact bodyPost_ret (v := .tuple #[.agg #[.int .i64 nv, .string a2, .string a3], .bool nb]) (by simp [results, Tryz.results70, go_sem, e0, e1, e2]) rfl ⟨⟨nv, a2, a3⟩, nb, rfl, ⟨hnv, by show a2.size ≤ maxLen; unfold maxLen; omega, by show a3.size ≤ maxLen; unfold maxLen; omega⟩, Hb.out, (((B2.setCell (p := ⟨w.heap.size, 0, none⟩) (Nat.le_refl _) _).setCell (p := ⟨w.heap.size, 1, none⟩) (Nat.le_refl _) _).setCell (p := ⟨w.heap.size, 2, none⟩) (Nat.le_refl _) _).drew⟩
end Go.Proofs.YtjjibdjliejcfaaGreatDoor
