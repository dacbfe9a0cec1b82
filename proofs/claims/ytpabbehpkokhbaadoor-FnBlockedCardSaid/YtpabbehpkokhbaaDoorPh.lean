/- Regions that draw, with a condition on the world that turns when operation k has come up (a load that k waits on may be taken first though a later store writes its cell). No program in sight. -/
import Derived.Test.YtpabbehpkokhbaaDoorBase
namespace Go.Proofs.YtpabbehpkokhbaaDoor
open Go.RowKit
section
variable {P : Program} {ops : Array Oper} {Q : Exit → Act → World → Prop} {md : Region.Mode} {S : Array Bool → World → Prop}
/-- Whatever order comes: behind each operation S holds, of the operations that have come up and of the world. -/
def AnyL (P : Program) (md : Region.Mode) (ops : Array Oper) (Q : Exit → Act → World → Prop) (S : Array Bool → World → Prop) : Nat → Array Bool → Act → World → Prop
  | 0, listed, a, w => Region.ready md ops listed = [] ∧ Q .normal a w
  | fuel + 1, listed, a, w => (Region.ready md ops listed = [] → Q .normal a w) ∧
    ∀ i ∈ Region.ready md ops listed, wpOp P ops Q i (fun a' w' => S (listed.setIfInBounds i true) w' ∧ AnyL P md ops Q S fuel (listed.setIfInBounds i true) a' w') a w
theorem AnyL.any : ∀ (fuel : Nat) (listed : Array Bool) (a : Act) (w : World), AnyL P md ops Q S fuel listed a w → wpAny P md ops Q fuel listed a w
  | 0, _, _, _, h => h
  | fuel + 1, _, _, _, h => ⟨h.1, fun i hi => wpOp_mono (fun a' w' k => AnyL.any fuel _ a' w' k.2) (h.2 i hi)⟩
/-- Taken first: I is kept by whatever else comes up, and under it S gives T, in which the operation yields. -/
theorem AnyL.first {T : World → Prop} {I : Array Bool → Prop} {i : Nat} {oi : Oper} {v : Value} (hi : ops[i]? = some oi) (hsel : ∀ (j : Nat) (o : Oper) cs b, ops[j]? = some o → o.op ≠ .select cs b)
    (hQ : ∀ c a w, Q (.panic c) (a.put oi.dst v) w → Q (.panic c) a w)
    (hI : ∀ l j oj, I l → ops[j]? = some oj → j ≠ i → (∀ e ∈ oj.after, Region.binds md e = true → e.on ≠ i) → I (l.setIfInBounds j true))
    (hT : ∀ l w, I l → S l w → T w) (hS : ∀ l w, S (l.setIfInBounds i true) w ↔ S l w) :
    ∀ (fuel : Nat) (listed : Array Bool) (a : Act) (w : World), I listed →
      (∀ j oj, ops[j]? = some oj → j ≠ i → listed.getD j true = false → (∀ e ∈ oj.after, Region.binds md e = true → e.on ≠ i) → oi.apart ops oj = true) →
      i ∈ Region.ready md ops listed → YieldsIf P ops T oi v a → S listed w →
      AnyL P md ops Q S fuel (listed.setIfInBounds i true) (a.put oi.dst v) w → AnyL P md ops Q S (fuel + 1) listed a w
  | 0, listed, a, w, hIl, _, hr, hy, hSw, H => by
    refine ⟨fun h => (by rw [h] at hr; cases hr), fun j hj => ?_⟩
    by_cases hji : j = i
    · subst hji; exact hy.wpOp hi (hT _ _ hIl hSw) ⟨(hS _ _).2 hSw, H⟩
    · have := ready_mono hj hji
      rw [H.1] at this; cases this
  | fuel + 1, listed, a, w, hIl, hf, hr, hy, hSw, H => by
    refine ⟨fun h => (by rw [h] at hr; cases hr), fun j hj => ?_⟩
    by_cases hji : j = i
    · subst hji; exact hy.wpOp hi (hT _ _ hIl hSw) ⟨(hS _ _).2 hSw, H⟩
    · obtain ⟨hun, oj, hoj, hall⟩ := mem_ready.1 hj
      have hno : ∀ e ∈ oj.after, Region.binds md e = true → e.on ≠ i := fun e he hb heq => by
        have h1 := hall e he hb
        have h0 := (mem_ready.1 hr).1
        rw [heq] at h1
        rcases Nat.lt_or_ge i listed.size with h' | h'
        · simp [h'] at h0 h1; rw [h0] at h1; cases h1
        · simp [Array.getElem?_eq_none h'] at h1
      have h2 := wpOp_putIf hoj (hf j oj hoj hji hun hno) (fun cs b => hsel i oi cs b hi) (fun cs b => hsel j oj cs b hoj) hQ hy (H.2 j (ready_mono hj hji))
      refine wpOp_mono (fun a' w' k => ?_) h2
      have hc : (listed.setIfInBounds i true).setIfInBounds j true = (listed.setIfInBounds j true).setIfInBounds i true := Array.setIfInBounds_comm _ _ (Ne.symm hji)
      have k1 := k.2.1
      have k2 := k.2.2
      rw [hc] at k1 k2
      have hSj := (hS _ _).1 k1
      refine ⟨hSj, AnyL.first hi hsel hQ hI hT hS fuel _ a' w' (hI _ j oj hIl hoj hji hno) (fun m om hm hmi hmu hmn => hf m om hm hmi ?_ hmn) (ready_mono hr (Ne.symm hji)) k.1 hSj k2⟩
      by_cases hjm : j = m
      · subst hjm; exact hun
      · rw [getD_set_ne true hjm] at hmu; exact hmu
theorem AnyL.done {listed : Array Bool} {a : Act} {w : World} (hr : Region.ready md ops listed = []) (h : Q .normal a w) : ∀ fuel, AnyL P md ops Q S fuel listed a w
  | 0 => ⟨hr, h⟩
  | _ + 1 => ⟨fun _ => h, by rw [hr]; simp⟩
/-- The one operation that may come up comes up. -/
theorem AnyL.one {i : Nat} {o : Oper} {fuel : Nat} {listed : Array Bool} {a : Act} {w : World} (hr : Region.ready md ops listed = [i]) (ho : ops[i]? = some o)
    (h : ∀ K' : Act → World → Prop, Hid (∀ a w, S (listed.setIfInBounds i true) w → (S (listed.setIfInBounds i true) w → AnyL P md ops Q S fuel (listed.setIfInBounds i true) a w) → K' a w) → if Region.wanted o (yielded ops a.tmps) = true then Oper.wp P o a w K' Q else K' (a.put o.dst undef) w) :
    AnyL P md ops Q S (fuel + 1) listed a w := by
  refine ⟨fun h0 => (by rw [hr] at h0; cases h0), fun j hj => ?_⟩
  rw [hr] at hj
  simp at hj
  subst hj
  exact wpOp_step ho fun K' hK => h K' (Lib.hid fun a w hS hW => hK a w ⟨hS, hW hS⟩)
/-- S throughout; B till operation k has come up. -/
def Ph (k : Nat) (S B : World → Prop) (l : Array Bool) (w : World) : Prop := S w ∧ (l.getD k false = false → B w)
theorem region_ph (k : Nat) (S B : World → Prop) {id : Nat} {a : Act} {w : World} (hm : P.follows .mixedOrders = true) (hS : S w.drew) (hB : B w.drew)
    (h : Ph k S B (Array.replicate ops.size false) w.drew → AnyL P .any ops Q (Ph k S B) ops.size (Array.replicate ops.size false) a w.drew) : (Code.region id ops true).wp P Q a w :=
  wp_region_any hm (AnyL.any _ _ _ _ (h ⟨hS, fun _ => hB⟩))
theorem ph_set {k i : Nat} (hik : i ≠ k) (S B : World → Prop) (l : Array Bool) (w : World) : Ph k S B (l.setIfInBounds i true) w ↔ Ph k S B l w := by unfold Ph; rw [getD_set_ne false hik]
theorem ph1 {k : Nat} {S B : World → Prop} {l : Array Bool} {w : World} (h : S w) (hb : B w) : Ph k S B l w := ⟨h, fun _ => hb⟩
theorem ph2 {k : Nat} {S B : World → Prop} {l : Array Bool} {w : World} (hl : l.getD k false = true) (h : S w) : Ph k S B l w := ⟨h, fun h0 => by rw [hl] at h0; cases h0⟩
/-- Taken first: it yields throughout. -/
theorem take_ph {k : Nat} {S B : World → Prop} (d : Tmp) {i : Nat} {oi : Oper} {v : Value} {fuel : Nat} {listed : Array Bool} {a : Act} {w : World} (hi : ops[i]? = some oi) (hd : oi.dst = some d) (hik : i ≠ k)
    (hs : Region.noSelect ops = true) (hf : Region.free md ops listed i = true) (hr : (Region.ready md ops listed).contains i = true)
    (hQ : ∀ c a w, Q (.panic c) (a.put (some d) v) w → Q (.panic c) a w) (hw : Region.wanted oi (yielded ops a.tmps) = true) (hy : ∀ w, S w → (execOp a.eval oi).run P w = .ok (.value v) w) (hp : Ph k S B listed w)
    (h : Ph k S B (listed.setIfInBounds i true) w → AnyL P md ops Q (Ph k S B) fuel (listed.setIfInBounds i true) (a.put (some d) v) w) : AnyL P md ops Q (Ph k S B) (fuel + 1) listed a w :=
  AnyL.first (T := S) (I := fun _ => True) hi (Region.noSelect_spec hs) (by rw [hd]; exact hQ) (fun _ _ _ _ _ _ _ => trivial)
    (fun l w _ hp => hp.1) (fun l w => ph_set hik S B l w)
    fuel listed a w trivial (Region.free_spec hi hf) (by simpa using hr) (Or.inl ⟨hw, hy⟩) hp (by rw [hd]; exact h ((ph_set hik S B listed w).2 hp))
/-- Does operation k wait on operation i? -/
def waits (md : Region.Mode) (ops : Array Oper) (k i : Nat) : Bool := match ops[k]? with | some ok => ok.after.any fun e => Region.binds md e && e.on == i | none => false
/-- Taken first: it yields till k has come up, and k waits on it. -/
theorem take_ph1 {k : Nat} {S B : World → Prop} (d : Tmp) {i : Nat} {oi : Oper} {v : Value} {fuel : Nat} {listed : Array Bool} {a : Act} {w : World} (hi : ops[i]? = some oi) (hd : oi.dst = some d) (hik : i ≠ k) (hkl : listed.getD k false = false) (hwt : waits md ops k i = true)
    (hs : Region.noSelect ops = true) (hf : Region.free md ops listed i = true) (hr : (Region.ready md ops listed).contains i = true)
    (hQ : ∀ c a w, Q (.panic c) (a.put (some d) v) w → Q (.panic c) a w) (hw : Region.wanted oi (yielded ops a.tmps) = true) (hy : ∀ w, S w → B w → (execOp a.eval oi).run P w = .ok (.value v) w) (hp : Ph k S B listed w)
    (h : Ph k S B (listed.setIfInBounds i true) w → AnyL P md ops Q (Ph k S B) fuel (listed.setIfInBounds i true) (a.put (some d) v) w) : AnyL P md ops Q (Ph k S B) (fuel + 1) listed a w :=
  AnyL.first (T := fun w => S w ∧ B w) (I := fun l => l.getD k false = false) hi (Region.noSelect_spec hs) (by rw [hd]; exact hQ)
    (fun l j oj hl hoj hji hno => by
      by_cases hjk : j = k
      · subst hjk
        unfold waits at hwt
        rw [hoj] at hwt
        simp only [Array.any_eq_true', Bool.and_eq_true, beq_iff_eq] at hwt
        obtain ⟨e, he, hb, hon⟩ := hwt
        exact absurd hon (hno e he hb)
      · rw [getD_set_ne false hjk]; exact hl)
    (fun l w hl hp => ⟨hp.1, hp.2 hl⟩) (fun l w => ph_set hik S B l w)
    fuel listed a w hkl (Region.free_spec hi hf) (by simpa using hr) (Or.inl ⟨hw, fun w h => hy w h.1 h.2⟩) hp (by rw [hd]; exact h ((ph_set hik S B listed w).2 hp))
end
end Go.Proofs.YtpabbehpkokhbaaDoor
