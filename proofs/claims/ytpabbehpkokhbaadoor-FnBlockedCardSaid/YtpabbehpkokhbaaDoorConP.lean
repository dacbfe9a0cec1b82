/- Conflicts of two cranes: plain law. No program in sight. -/
import Derived.Test.YtpabbehpkokhbaaDoorSegP
import Derived.Test.YtpabbehpkokhbaaDoorPlP
import Derived.Test.YtpabbehpkokhbaaDoorDir
namespace Go.Proofs.YtpabbehpkokhbaaDoor
theorem tdiv_bd {n : Int} (h : -1000000 ≤ n ∧ n ≤ 1000000) : -1000 ≤ n.tdiv 1000 ∧ n.tdiv 1000 ≤ 1000 := by
  rcases Int.le_total 0 n with h0 | h0
  · rw [Int.tdiv_eq_ediv_of_nonneg h0]
    omega
  · have e : n = -(-n) := by omega
    rw [e, Int.neg_tdiv, Int.tdiv_eq_ediv_of_nonneg (by omega)]
    omega
/-- The point at a radius in a direction. -/
def plcI (x y : Int) (d : Nat) (r : Int) : Pnt := ⟨x + ((vecN d).1 * r).tdiv 1000, y + ((vecN d).2 * r).tdiv 1000⟩
theorem plc_bd {x y r : Int} {d : Nat} (hp : Pl x y) (hd : d < 24) (hr : 0 ≤ r ∧ r ≤ 1000) :
    ((-1000000 ≤ (vecN d).1 * r ∧ (vecN d).1 * r ≤ 1000000) ∧ (-1000000 ≤ (vecN d).2 * r ∧ (vecN d).2 * r ≤ 1000000)) ∧ ((-1000 ≤ ((vecN d).1 * r).tdiv 1000 ∧ ((vecN d).1 * r).tdiv 1000 ≤ 1000) ∧ (-1000 ≤ ((vecN d).2 * r).tdiv 1000 ∧ ((vecN d).2 * r).tdiv 1000 ≤ 1000)) ∧ Crd (plcI x y d r) := by
  have hv := vec_bd d hd
  have h1 := prod_bd (A := 1000) (B := 1000) hv.1 (show -1000 ≤ r ∧ r ≤ 1000 by omega)
  have h2 := prod_bd (A := 1000) (B := 1000) hv.2 (show -1000 ≤ r ∧ r ≤ 1000 by omega)
  have h3 := tdiv_bd (n := (vecN d).1 * r) (by omega)
  have h4 := tdiv_bd (n := (vecN d).2 * r) (by omega)
  refine ⟨⟨by omega, by omega⟩, ⟨h3, h4⟩, ?_⟩
  unfold Pl at hp
  unfold Crd plcI
  dsimp only
  omega
def jibP (f : CraneF) (d : Nat) : Pnt := plcI f.x f.y d f.jib
def backP (f : CraneF) (d : Nat) : Pnt := plcI f.x f.y ((d + 12) % 24) f.back
/-- What the geometry asks of a crane. -/
def GeoOk (f : CraneF) : Prop := Pl f.x f.y ∧ (1 ≤ f.height ∧ f.height ≤ 2000) ∧ (0 ≤ f.jib ∧ f.jib ≤ 1000) ∧ (0 ≤ f.back ∧ f.back ≤ 1000)
theorem jib_crd {f : CraneF} (h : GeoOk f) {d : Nat} (hd : d < 24) : Crd (jibP f d) := (plc_bd h.1 hd h.2.2.1).2.2
theorem back_crd {f : CraneF} (h : GeoOk f) (d : Nat) : Crd (backP f d) := (plc_bd h.1 (by omega) h.2.2.2).2.2
theorem at_crd {f : CraneF} (h : GeoOk f) : Crd ⟨f.x, f.y⟩ := by
  have := h.1
  unfold Pl at this
  unfold Crd
  dsimp only
  omega
def boomNear (f g : CraneF) (da db : Nat) (e : Int) : Prop := nearS (backP f da) (jibP f da) (backP g db) (jibP g db) e
instance (f g : CraneF) (da db : Nat) (e : Int) : Decidable (boomNear f g da db e) := by unfold boomNear; infer_instance
def mastNear (f g : CraneF) (d : Nat) (e : Int) : Prop := nearS (backP f d) (jibP f d) ⟨g.x, g.y⟩ ⟨g.x, g.y⟩ e
instance (f g : CraneF) (d : Nat) (e : Int) : Decidable (mastNear f g d e) := by unfold mastNear; infer_instance
def confP (f g : CraneF) (da db : Nat) (e : Int) : Prop :=
  (absI (f.height - g.height) < 60 ∧ boomNear f g da db e) ∨ (f.height < g.height ∧ mastNear f g da e) ∨ (g.height < f.height ∧ mastNear g f db e)
instance (f g : CraneF) (da db : Nat) (e : Int) : Decidable (confP f g da db e) := by unfold confP; infer_instance
theorem boom_comm (f g : CraneF) (da db : Nat) (e : Int) : boomNear f g da db e ↔ boomNear g f db da e := nearS_comm _ _ _ _ _
theorem absI_comm' (a b : Int) : absI (a - b) = absI (b - a) := by
  have h1 := absI_cases (a - b)
  have h2 := absI_cases (b - a)
  omega
theorem conf_comm (f g : CraneF) (da db : Nat) (e : Int) : confP f g da db e ↔ confP g f db da e := by
  unfold confP
  rw [boom_comm, absI_comm']
  constructor
  · rintro (h | h | h)
    · exact .inl h
    · exact .inr (.inr h)
    · exact .inr (.inl h)
  · rintro (h | h | h)
    · exact .inl h
    · exact .inr (.inr h)
    · exact .inr (.inl h)
theorem conf_mono {f g : CraneF} {da db : Nat} {e e' : Int} (h0 : e ≤ e') (hf : GeoOk f) (hg : GeoOk g) (ha : da < 24) (hb : db < 24) (h : confP f g da db e) : confP f g da db e' := by
  rcases h with ⟨h1, h⟩ | ⟨h1, h⟩ | ⟨h1, h⟩
  · exact .inl ⟨h1, nearS_mono h0 (back_crd hf _) (jib_crd hf ha) (back_crd hg _) (jib_crd hg hb) h⟩
  · exact .inr (.inl ⟨h1, nearS_mono h0 (back_crd hf _) (jib_crd hf ha) (at_crd hg) (at_crd hg) h⟩)
  · exact .inr (.inr ⟨h1, nearS_mono h0 (back_crd hg _) (jib_crd hg hb) (at_crd hf) (at_crd hf) h⟩)
/-- ... as the program asks: the lower one first. -/
theorem conf_low {f g : CraneF} {da db : Nat} {e : Int} (h : f.height ≤ g.height) : confP f g da db e ↔ ((g.height - f.height < 60 ∧ boomNear f g da db e) ∨ (¬ f.height = g.height ∧ mastNear f g da e)) := by
  have h1 := absI_cases (f.height - g.height)
  unfold confP
  constructor
  · rintro (⟨h2, h3⟩ | ⟨h2, h3⟩ | ⟨h2, h3⟩)
    · exact .inl ⟨by omega, h3⟩
    · exact .inr ⟨by omega, h3⟩
    · omega
  · rintro (⟨h2, h3⟩ | ⟨h2, h3⟩)
    · exact .inl ⟨by omega, h3⟩
    · exact .inr (.inl ⟨by omega, h3⟩)
end Go.Proofs.YtpabbehpkokhbaaDoor
