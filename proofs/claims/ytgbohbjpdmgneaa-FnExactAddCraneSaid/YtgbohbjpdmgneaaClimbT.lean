/- ClimbedSite, both packages. -/
import Derived.Test.YtgbohbjpdmgneaaClimbS
import Derived.Test.YtgbohbjpdmgneaaCpyI
import Derived.Test.YtgbohbjpdmgneaaSiteW
namespace Go.Proofs.Ytgbohbjpdmgneaa
open Go.RowKit
/-- What a climbing call answers. -/
def climbR (o : Option SiteL) : SiteL × Int := match o with | some L => (L, 0) | none => ([], 6)
noncomputable def climbed (L : SiteL) (sec : Int) (cl : List Clb) : SiteL × Int :=
  if siteB L = true ∧ clB cl = true then (if 1 ≤ sec ∧ sec ≤ 100 then climbR (runC L sec cl) else ([], 2)) else ([], 1)
def SiteRes (P : SiteL × Int) (w : World) (e : Ending) (w' : World) : Prop :=
  ∃ (s : SV) (rs : List CraneR), e = .returned (.tuple #[.agg #[s.v], .int .i64 P.2]) ∧ CraneW w.heap.size w'.heap.size w' s.v rs P.1 ∧ Below w.heap.size w w'
theorem totM_set {φ α : Type} (a p : Nat) : ∀ (L : List (φ × List α)) (i : Nat) (f : φ) (h : i < L.length), totM a p (L.set i (f, L[i].2)) = totM a p L
  | x :: r, 0, f, _ => rfl
  | x :: r, i + 1, f, h => by
    have h1 := totM_set a p r i f (by simpa using h)
    simp only [List.set_cons_succ, totM, List.getElem_cons_succ] at h1 ⊢
    omega
theorem doC_tot {L L' : SiteL} {s : Int} {c : Clb} (h : doC L s c = some L') : totM 6 2 L' = totM 6 2 L := by
  by_cases hi : c.crane.toNat < L.length
  · by_cases h2 : 1 ≤ L[c.crane.toNat].1.height + s * c.sections ∧ L[c.crane.toNat].1.height + s * c.sections ≤ 2000
    · rw [doC_yes hi h2] at h
      cases h
      exact totM_set 6 2 L _ _ hi
    · rw [doC_no hi h2] at h; cases h
  · rw [doC_out hi] at h; cases h
theorem runC_tot {s : Int} : ∀ (cl : List Clb) {L L' : SiteL}, runC L s cl = some L' → totM 6 2 L' = totM 6 2 L
  | [], L, L', h => by rw [runC] at h; cases h; rfl
  | c :: r, L, L', h => by
    rw [runC] at h
    split at h
    · cases h
    · rename_i L2 hd
      rw [runC_tot r h, doC_tot hd]
theorem climbed_tot (L : SiteL) (sec : Int) (cl : List Clb) (N : Nat) (h : totM 6 2 L ≤ N) : totM 6 2 (climbed L sec cl).1 ≤ N := by
  unfold climbed
  split
  · split
    · unfold climbR
      split
      · rename_i L' hr
        rw [runC_tot cl hr]; exact h
      · simp [totM]
    · simp [totM]
  · simp [totM]
theorem climb_cases (L : SiteL) (sec : Int) (cl : List Clb) :
    (siteB L = false ∧ climbed L sec cl = ([], 1)) ∨ (siteB L = true ∧ clB cl = false ∧ climbed L sec cl = ([], 1)) ∨
    (siteB L = true ∧ clB cl = true ∧ ¬ (1 ≤ sec ∧ sec ≤ 100) ∧ climbed L sec cl = ([], 2)) ∨ (siteB L = true ∧ clB cl = true ∧ (1 ≤ sec ∧ sec ≤ 100) ∧ climbed L sec cl = climbR (runC L sec cl)) := by
  unfold climbed
  cases h1 : siteB L
  · exact .inl ⟨rfl, if_neg (by simp)⟩
  refine .inr ?_
  cases h2 : clB cl
  · exact .inl ⟨rfl, rfl, if_neg (by simp)⟩
  refine .inr ?_
  by_cases h3 : 1 ≤ sec ∧ sec ≤ 100
  · exact .inr ⟨rfl, rfl, h3, (if_pos ⟨rfl, rfl⟩).trans (if_pos h3)⟩
  · exact .inl ⟨rfl, rfl, h3, (if_pos ⟨rfl, rfl⟩).trans (if_neg h3)⟩
set_option maxRecDepth 100000 in
set_option maxHeartbeats 4000000 in
theorem spec_CCode (p : Nat) (v : Value) (rs : List CraneR) (L : SiteL) (lo hi : Nat) (cv : Value) (cl : List Clb) (lo2 hi2 : Nat) (sec : Int) (w : World) (hp : w.cell? ⟨p, 0, none⟩ = some v) (h : Cranes lo hi w v rs L) (hwf : L.wf) (hcl : Clbs lo2 hi2 w cv cl) :
    Calls Try.prog 122 #[.pointer (some ⟨p, 0, none⟩), .int .i64 sec, cv] w fun e w' => e = .returned (.int .i64 (if siteB L = true ∧ clB cl = true then (if 1 ≤ sec ∧ sec ≤ 100 then 0 else 2) else 1)) ∧ Below w.heap.size w w' := by
  have hV := spec_SiteOk p v rs L lo hi w hp h hwf
  have hK := fun w' (hb : Below w.heap.size w w') => spec_ClimbsOk cv cl lo2 hi2 w' (hcl.ext hb)
  obtain ⟨ca, ccap, rfl, -⟩ := hcl
  clear h hp hwf
  have hS := fun w => (show Calls Try.prog 168 #[.int .i64 sec] w fun e w' => e = .returned (.bool (decide (1 ≤ sec ∧ sec ≤ 100))) ∧ w = w' by
    by_cases h3 : 1 ≤ sec ∧ sec ≤ 100
    · rw [decide_eq_true h3]
      obtain ⟨_, _⟩ := h3
      go_enter Try.func168, Try.ntmps168
      go_wp2_with (go_at_call 140; first | (refine (spec_In_t _ _ _ _ (by omega) (by omega)).mono ?_; rintro e w' ⟨rfl, rfl⟩) | (refine (spec_In_f _ _ _ _ (by omega)).mono ?_; rintro e w' ⟨rfl, rfl⟩))
      go_ret; exact ⟨rfl, rfl⟩
    · rw [decide_eq_false h3]
      go_enter Try.func168, Try.ntmps168
      go_wp2_with (go_at_call 140; first | (refine (spec_In_t _ _ _ _ (by omega) (by omega)).mono ?_; rintro e w' ⟨rfl, rfl⟩) | (refine (spec_In_f _ _ _ _ (by omega)).mono ?_; rintro e w' ⟨rfl, rfl⟩))
      go_ret; exact ⟨rfl, rfl⟩)
  cases h1 : siteB L
  · rw [if_neg (by simp)]
    rw [h1] at hV
    have hV := Lib.hid hV
    clear hK hS h1
    go_enter Try.func122, Try.ntmps122
    go_wp2_with fail
    refine hV.out.mono ?_
    rintro e w1 ⟨rfl, hb1⟩
    go_wp2
    go_ret
    exact ⟨rfl, hb1⟩
  rw [h1] at hV
  have hV := Lib.hid hV
  have hK := Lib.hid hK
  clear h1
  cases h2 : clB cl
  · rw [if_neg (by simp)]
    rw [h2] at hK
    have hK := Lib.hid hK.out
    clear hS h2
    go_enter Try.func122, Try.ntmps122
    go_wp2_with fail
    refine hV.out.mono ?_
    rintro e w1 ⟨rfl, hb1⟩
    go_wp2_with fail
    refine (hK.out _ hb1).mono ?_
    rintro e w1 ⟨rfl, rfl⟩
    go_wp2
    go_ret
    exact ⟨rfl, hb1⟩
  rw [h2] at hK
  clear h2
  rw [if_pos ⟨rfl, rfl⟩]
  by_cases h3 : 1 ≤ sec ∧ sec ≤ 100
  · rw [if_pos h3]
    rw [decide_eq_true h3] at hS
    have hS := Lib.hid hS
    clear h3
    go_enter Try.func122, Try.ntmps122
    go_wp2_with fail
    refine hV.out.mono ?_
    rintro e w1 ⟨rfl, hb1⟩
    go_wp2_with fail
    refine (hK.out _ hb1).mono ?_
    rintro e w1 ⟨rfl, rfl⟩
    go_wp2_with fail
    refine (hS.out _).mono ?_
    rintro e w1 ⟨rfl, rfl⟩
    go_wp2
    go_ret
    exact ⟨rfl, hb1⟩
  · rw [if_neg h3]
    rw [decide_eq_false h3] at hS
    have hS := Lib.hid hS
    clear h3
    go_enter Try.func122, Try.ntmps122
    go_wp2_with fail
    refine hV.out.mono ?_
    rintro e w1 ⟨rfl, hb1⟩
    go_wp2_with fail
    refine (hK.out _ hb1).mono ?_
    rintro e w1 ⟨rfl, rfl⟩
    go_wp2_with fail
    refine (hS.out _).mono ?_
    rintro e w1 ⟨rfl, rfl⟩
    go_wp2
    go_ret
    exact ⟨rfl, hb1⟩
set_option maxRecDepth 100000 in
set_option maxHeartbeats 8000000 in
theorem spec_ClimbedSite (s : SV) (rs : List CraneR) (L : SiteL) (lo hi : Nat) (cv : Value) (cl : List Clb) (lo2 hi2 : Nat) (sec : Int) (w : World) (h : Cranes lo hi w s.v rs L) (hwf : L.wf) (hcl : Clbs lo2 hi2 w cv cl) :
    Calls Try.prog 59 #[.agg #[s.v], .int .i64 sec, cv] w (SiteRes (climbed L sec cl) w) := by
  have hcs := climb_cases L sec cl
  obtain ⟨sa, sl, sc⟩ := s
  simp only [SV.v] at h ⊢
  have hba : Below w.heap.size w ((w.alloc (.cells #[.slice sa sl sc] 37)).alloc (.cells #[.slice none 0 0] 37)) := ((Below.refl _ _).alloc (Nat.le_refl _) _).alloc (by simp) _
  have hp0 : Hid (Cb w.heap.size ((w.alloc (.cells #[.slice sa sl sc] 37)).alloc (.cells #[.slice none 0 0] 37)) (.slice sa sl sc)) := Lib.hid ((Cb.new w _ _).ext ((Below.refl _ _).alloc (Nat.le_refl _) _))
  have hq0 : Hid (Cb (w.heap.size + 1) ((w.alloc (.cells #[.slice sa sl sc] 37)).alloc (.cells #[.slice none 0 0] 37)) (.slice none 0 0)) := Lib.hid (by have := Cb.new (w.alloc (.cells #[.slice sa sl sc] 37)) (.slice none 0 0) 37; simpa using this)
  have hV := Lib.hid (spec_CCode w.heap.size (.slice sa sl sc) rs L lo hi cv cl lo2 hi2 sec _ hp0.out.c (h.ext hba) hwf (hcl.ext hba))
  have hR := Lib.hid (fun (hok : siteOk L) (hco : clOk cl) (hsec : 1 ≤ sec ∧ sec ≤ 100) w' (hb : Below w.heap.size w w') (hp : w'.cell? ⟨w.heap.size, 0, none⟩ = some (SV.v ⟨sa, sl, sc⟩)) => spec_RunC w.heap.size ⟨sa, sl, sc⟩ rs L lo hi cv cl lo2 hi2 sec w' hp (h.ext hb) hok (hcl.ext hb) hco hsec)
  obtain ⟨ca, ccap, rfl, -⟩ := hcl
  clear h hwf
  rcases hcs with ⟨h1, h2⟩ | ⟨h1, h2, h3⟩ | ⟨h1, h2, h3, h4⟩ | ⟨h1, h2, h3, h4⟩
  · rw [h2]
    rw [if_neg (by rw [h1]; simp)] at hV
    clear hR h1 h2
    go_enter Try.func59, Try.ntmps59
    go_wp2_with fail
    refine hV.out.mono ?_
    rintro e w1 ⟨rfl, hb1⟩
    have q1 := (hq0.out.ext hb1).c
    have f1 := (hq0.out.ext hb1).f
    have B1 := hba.trans (hb1.mono hba.size)
    go_wp2
    exact bodyPost_ret (v := .tuple #[.agg #[.slice none 0 0], .int .i64 1]) (by simp [results, Try.results59, go_sem, q1]) rfl ⟨⟨none, 0, 0⟩, [], rfl, nsw_nil, B1.setCell (p := ⟨w.heap.size + 1, 0, none⟩) (Nat.le_succ _) _⟩
  · rw [h3]
    rw [if_neg (by rw [h2]; simp)] at hV
    clear hR h1 h2 h3
    go_enter Try.func59, Try.ntmps59
    go_wp2_with fail
    refine hV.out.mono ?_
    rintro e w1 ⟨rfl, hb1⟩
    have q1 := (hq0.out.ext hb1).c
    have f1 := (hq0.out.ext hb1).f
    have B1 := hba.trans (hb1.mono hba.size)
    go_wp2
    exact bodyPost_ret (v := .tuple #[.agg #[.slice none 0 0], .int .i64 1]) (by simp [results, Try.results59, go_sem, q1]) rfl ⟨⟨none, 0, 0⟩, [], rfl, nsw_nil, B1.setCell (p := ⟨w.heap.size + 1, 0, none⟩) (Nat.le_succ _) _⟩
  · rw [h4]
    rw [if_pos ⟨h1, h2⟩, if_neg h3] at hV
    clear hR h1 h2 h3 h4
    go_enter Try.func59, Try.ntmps59
    go_wp2_with fail
    refine hV.out.mono ?_
    rintro e w1 ⟨rfl, hb1⟩
    have q1 := (hq0.out.ext hb1).c
    have f1 := (hq0.out.ext hb1).f
    have B1 := hba.trans (hb1.mono hba.size)
    go_wp2
    exact bodyPost_ret (v := .tuple #[.agg #[.slice none 0 0], .int .i64 2]) (by simp [results, Try.results59, go_sem, q1]) rfl ⟨⟨none, 0, 0⟩, [], rfl, nsw_nil, B1.setCell (p := ⟨w.heap.size + 1, 0, none⟩) (Nat.le_succ _) _⟩
  · rw [h4]
    rw [if_pos ⟨h1, h2⟩, if_pos h3] at hV
    have hR := Lib.hid (hR.out (siteB_iff.1 h1) (clB_iff.1 h2) h3)
    clear h1 h2 h3 h4
    go_enter Try.func59, Try.ntmps59
    go_wp2_with fail
    refine hV.out.mono ?_
    rintro e w1 ⟨rfl, hb1⟩
    have B1 := hba.trans (hb1.mono hba.size)
    have hp1 := Lib.hid (hp0.out.ext hb1)
    have hq1 := Lib.hid (hq0.out.ext hb1)
    clear hb1 hp0 hq0
    go_wp2_with fail
    refine (hR.out _ B1 hp1.out.c).mono ?_
    rintro e w2 ⟨⟨ta, tl, tc⟩, rk, P, b, rfl, hN, hb2, hcase⟩
    simp only [SV.v] at hN ⊢
    have hq2 := (hq1.out.ext hb2)
    have q2 := hq2.c
    have f2 := hq2.f
    have hl2 := hq2.lt
    have B2 := B1.trans (hb2.mono B1.size)
    have hl3 : w.heap.size + 2 ≤ w1.heap.size := by have := hq1.out.lt; omega
    have fin := Lib.hid (fun (u : Value) (o : Obj) => (show Cb (w.heap.size + 1) ((w2.setCell ⟨w.heap.size + 1, 0, none⟩ u).alloc o) u ∧ Below w.heap.size w ((w2.setCell ⟨w.heap.size + 1, 0, none⟩ u).alloc o) from
      ⟨(hq2.put u).ext ((Below.refl _ _).alloc (Nat.le_refl _) _), (B2.setCell (p := ⟨w.heap.size + 1, 0, none⟩) (Nat.le_succ _) _).alloc (by simp; omega) _⟩))
    clear hq2
    rcases hcase with ⟨rfl, hr⟩ | ⟨rfl, hr, rfl⟩
    · have Hr := Lib.hid hr
      have hN4 := Lib.hid (fun (o : Obj) => ((hN.keep ((show Mod (w.heap.size + 1) (w.heap.size + 2) w2 (w2.setCell ⟨w.heap.size + 1, 0, none⟩ (.slice ta tl tc)) from (Mod.refl _ _ _).setCell (p := ⟨w.heap.size + 1, 0, none⟩) (Nat.le_refl _) (Nat.lt_succ_self _) _).same (Nat.le_refl _) (.inr hl3))).ext (by simp) ((Below.refl _ _).alloc (Nat.le_refl _) o)).widen (lo' := w.heap.size) (hi' := ((w2.setCell ⟨w.heap.size + 1, 0, none⟩ (.slice ta tl tc)).alloc o).heap.size) (by omega) (by simp))
      have q3 := (fin.out (.slice ta tl tc) (.cells #[.slice ta tl tc] 37)).1.c
      clear hr hN
      go_wp2
      exact bodyPost_ret (v := .tuple #[.agg #[.slice ta tl tc], .int .i64 0]) (by simp [results, Try.results59, go_sem, q3]) rfl ⟨⟨ta, tl, tc⟩, rk, by rw [Hr.out]; rfl, by rw [Hr.out]; exact hN4.out _, (fin.out _ _).2⟩
    · have Hr := Lib.hid hr
      have q3 := (fin.out (.slice none 0 0) (.cells #[.slice ta tl tc] 37)).1.c
      clear hr hN
      go_wp2
      exact bodyPost_ret (v := .tuple #[.agg #[.slice none 0 0], .int .i64 6]) (by simp [results, Try.results59, go_sem, q3]) rfl ⟨⟨none, 0, 0⟩, [], by rw [Hr.out]; rfl, by rw [Hr.out]; exact nsw_nil, (fin.out _ _).2⟩
end Go.Proofs.Ytgbohbjpdmgneaa
