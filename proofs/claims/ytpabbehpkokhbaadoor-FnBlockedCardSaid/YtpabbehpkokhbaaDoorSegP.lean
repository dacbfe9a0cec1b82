/- How far segments lie apart: plain law. No program in sight. -/
import Derived.Test.YtpabbehpkokhbaaDoorVcP
import Derived.Test.YtpabbehpkokhbaaDoorTPoint
namespace Go.Proofs.YtpabbehpkokhbaaDoor
def crossP (a b p : Pnt) : Int := (b.x - a.x) * (p.y - a.y) - (b.y - a.y) * (p.x - a.x)
def dotP (a b p : Pnt) : Int := (b.x - a.x) * (p.x - a.x) + (b.y - a.y) * (p.y - a.y)
def sqP (a b : Pnt) : Int := (a.x - b.x) * (a.x - b.x) + (a.y - b.y) * (a.y - b.y)
def sgnI (n : Int) : Int := if 0 < n then 1 else if n < 0 then -1 else 0
def boxP (a b p : Pnt) : Prop := (min a.x b.x ≤ p.x ∧ p.x ≤ max a.x b.x) ∧ (min a.y b.y ≤ p.y ∧ p.y ≤ max a.y b.y)
instance (a b p : Pnt) : Decidable (boxP a b p) := by unfold boxP; infer_instance
def coverP (a b p : Pnt) : Prop := crossP a b p = 0 ∧ boxP a b p
instance (a b p : Pnt) : Decidable (coverP a b p) := by unfold coverP; infer_instance
def opp (p q : Int) : Prop := (p < 0 ∧ 0 < q) ∨ (0 < p ∧ q < 0)
instance (p q : Int) : Decidable (opp p q) := by unfold opp; infer_instance
def meetP (a b c d : Pnt) : Prop := (coverP a b c ∨ coverP a b d ∨ coverP c d a ∨ coverP c d b) ∨ (opp (crossP a b c) (crossP a b d) ∧ opp (crossP c d a) (crossP c d b))
instance (a b c d : Pnt) : Decidable (meetP a b c d) := by unfold meetP; infer_instance
theorem sgn_cases (n : Int) : (0 < n ∧ sgnI n = 1) ∨ (n < 0 ∧ sgnI n = -1) ∨ (n = 0 ∧ sgnI n = 0) := by
  unfold sgnI
  rcases Int.lt_trichotomy n 0 with h | h | h
  · rw [if_neg (by omega), if_pos h]; exact .inr (.inl ⟨h, rfl⟩)
  · subst h; exact .inr (.inr ⟨rfl, rfl⟩)
  · rw [if_pos h]; exact .inl ⟨h, rfl⟩
theorem sgn_opp (p q : Int) : sgnI p * sgnI q < 0 ↔ opp p q := by
  unfold opp
  rcases sgn_cases p with ⟨h, e⟩ | ⟨h, e⟩ | ⟨h, e⟩ <;> rcases sgn_cases q with ⟨h2, e2⟩ | ⟨h2, e2⟩ | ⟨h2, e2⟩ <;> rw [e, e2] <;> omega
theorem sgn_bd (n : Int) : -1 ≤ sgnI n ∧ sgnI n ≤ 1 := by
  rcases sgn_cases n with ⟨h, e⟩ | ⟨h, e⟩ | ⟨h, e⟩ <;> rw [e] <;> omega
theorem sgn_zero (n : Int) : sgnI n = 0 ↔ n = 0 := by
  rcases sgn_cases n with ⟨h, e⟩ | ⟨h, e⟩ | ⟨h, e⟩ <;> rw [e] <;> omega
/-- Points whose numbers are those of segments. -/
def Crd (p : Pnt) : Prop := (-11000 ≤ p.x ∧ p.x ≤ 11000) ∧ (-11000 ≤ p.y ∧ p.y ≤ 11000)
theorem pr_bd {a b : Int} (h1 : -22000 ≤ a ∧ a ≤ 22000) (h2 : -22000 ≤ b ∧ b ≤ 22000) : -484000000 ≤ a * b ∧ a * b ≤ 484000000 := prod_bd (A := 22000) (B := 22000) h1 h2
theorem sq_nn (a : Int) : 0 ≤ a * a := by
  rcases Int.le_total 0 a with h | h
  · exact Int.mul_nonneg h h
  · exact Int.mul_nonneg_of_nonpos_of_nonpos h h
theorem cross_bd {a b p : Pnt} (ha : Crd a) (hb : Crd b) (hp : Crd p) : ((-484000000 ≤ (b.x - a.x) * (p.y - a.y) ∧ (b.x - a.x) * (p.y - a.y) ≤ 484000000) ∧ (-484000000 ≤ (b.y - a.y) * (p.x - a.x) ∧ (b.y - a.y) * (p.x - a.x) ≤ 484000000)) ∧ (-968000000 ≤ crossP a b p ∧ crossP a b p ≤ 968000000) := by
  obtain ⟨⟨_, _⟩, _, _⟩ := ha
  obtain ⟨⟨_, _⟩, _, _⟩ := hb
  obtain ⟨⟨_, _⟩, _, _⟩ := hp
  have h1 := pr_bd (a := b.x - a.x) (b := p.y - a.y) (by omega) (by omega)
  have h2 := pr_bd (a := b.y - a.y) (b := p.x - a.x) (by omega) (by omega)
  unfold crossP
  omega
theorem dot_bd {a b p : Pnt} (ha : Crd a) (hb : Crd b) (hp : Crd p) : ((-484000000 ≤ (b.x - a.x) * (p.x - a.x) ∧ (b.x - a.x) * (p.x - a.x) ≤ 484000000) ∧ (-484000000 ≤ (b.y - a.y) * (p.y - a.y) ∧ (b.y - a.y) * (p.y - a.y) ≤ 484000000)) ∧ (-968000000 ≤ dotP a b p ∧ dotP a b p ≤ 968000000) := by
  obtain ⟨⟨_, _⟩, _, _⟩ := ha
  obtain ⟨⟨_, _⟩, _, _⟩ := hb
  obtain ⟨⟨_, _⟩, _, _⟩ := hp
  have h1 := pr_bd (a := b.x - a.x) (b := p.x - a.x) (by omega) (by omega)
  have h2 := pr_bd (a := b.y - a.y) (b := p.y - a.y) (by omega) (by omega)
  unfold dotP
  omega
theorem sqP_bd {a b : Pnt} (ha : Crd a) (hb : Crd b) : ((0 ≤ (a.x - b.x) * (a.x - b.x) ∧ (a.x - b.x) * (a.x - b.x) ≤ 484000000) ∧ (0 ≤ (a.y - b.y) * (a.y - b.y) ∧ (a.y - b.y) * (a.y - b.y) ≤ 484000000)) ∧ (0 ≤ sqP a b ∧ sqP a b ≤ 968000000) := by
  obtain ⟨⟨_, _⟩, _, _⟩ := ha
  obtain ⟨⟨_, _⟩, _, _⟩ := hb
  have h1 := pr_bd (a := a.x - b.x) (b := a.x - b.x) (by omega) (by omega)
  have h2 := pr_bd (a := a.y - b.y) (b := a.y - b.y) (by omega) (by omega)
  have h3 := sq_nn (a.x - b.x)
  have h4 := sq_nn (a.y - b.y)
  unfold sqP
  omega
theorem neg_sq (a b : Int) : (a - b) * (a - b) = (b - a) * (b - a) := by
  have : a - b = -(b - a) := by omega
  rw [this, Int.neg_mul_neg]
theorem sqP_comm (a b : Pnt) : sqP a b = sqP b a := by
  unfold sqP
  rw [neg_sq a.x, neg_sq a.y]
/-- Fractions: numerator and denominator. -/
def redF (n d : Int) : Int × Int := (n / (Nat.gcd n.natAbs d.natAbs : Int), d / (Nat.gcd n.natAbs d.natAbs : Int))
def psF (a b p : Pnt) : Int × Int :=
  if dotP a b p ≤ 0 then (sqP p a, 1) else if sqP b a ≤ dotP a b p then (sqP p b, 1) else redF (crossP a b p * crossP a b p) (sqP b a)
def ltF (f g : Int × Int) : Prop := f.1 * g.2 < g.1 * f.2
instance (f g : Int × Int) : Decidable (ltF f g) := by unfold ltF; infer_instance
def pickF (f g : Int × Int) : Int × Int := if ltF g f then g else f
def FrB (f : Int × Int) : Prop := (0 ≤ f.1 ∧ f.1 ≤ 937024000000000000) ∧ (1 ≤ f.2 ∧ f.2 ≤ 968000000)
theorem red_eq {n d g : Int} (hg : g = (Nat.gcd n.natAbs d.natAbs : Int)) (hn : 0 ≤ n) (hd : 0 < d) : 0 < g ∧ g ≤ d ∧ n / g * g = n ∧ d / g * g = d ∧ 0 ≤ n / g ∧ n / g ≤ n ∧ 1 ≤ d / g ∧ d / g ≤ d := by
  have hdn : 0 < d.natAbs := by omega
  have h0 : 0 < Nat.gcd n.natAbs d.natAbs := Nat.gcd_pos_of_pos_right _ hdn
  have h1 : g ∣ n := by
    rw [hg]
    exact Int.ofNat_dvd_left.2 (Nat.gcd_dvd_left _ _)
  have h2 : g ∣ d := by
    rw [hg]
    exact Int.ofNat_dvd_left.2 (Nat.gcd_dvd_right _ _)
  have hle : Nat.gcd n.natAbs d.natAbs ≤ d.natAbs := Nat.gcd_le_right _ hdn
  have hg0 : 0 < g := by omega
  have e1 := Int.ediv_mul_cancel h1
  have e2 := Int.ediv_mul_cancel h2
  have n1 : 0 ≤ n / g := Int.ediv_nonneg hn (by omega)
  have n2 : n / g ≤ n := Int.ediv_le_self _ hn
  have d1 : 0 ≤ d / g := Int.ediv_nonneg (by omega) (by omega)
  have d2 : d / g ≤ d := Int.ediv_le_self _ (by omega)
  refine ⟨hg0, by omega, e1, e2, n1, n2, ?_, d2⟩
  rcases (show (d / g) < 1 ∨ 1 ≤ (d / g) by omega) with h | h
  · have : d / g = 0 := by omega
    rw [this] at e2
    omega
  · exact h
theorem psF_bd {a b p : Pnt} (ha : Crd a) (hb : Crd b) (hp : Crd p) : FrB (psF a b p) := by
  have h1 := sqP_bd hp ha
  have h2 := sqP_bd hp hb
  have h3 := sqP_bd hb ha
  have h4 := cross_bd ha hb hp
  unfold FrB psF
  split
  · omega
  · split
    · omega
    · have h5 := prod_bd (A := 968000000) (B := 968000000) h4.2 h4.2
      have h6 := sq_nn (crossP a b p)
      have h7 := red_eq (n := crossP a b p * crossP a b p) (d := sqP b a) rfl h6 (by omega)
      unfold redF
      dsimp only
      omega
/-- A point's distance from a segment is less than that whose square is told. -/
def nearPt (a b p : Pnt) (e : Int) : Prop := (psF a b p).1 < e * (psF a b p).2
instance (a b p : Pnt) (e : Int) : Decidable (nearPt a b p e) := by unfold nearPt; infer_instance
theorem pick_bd {f g : Int × Int} (hf : FrB f) (hg : FrB g) : FrB (pickF f g) := by unfold pickF; split <;> assumption
theorem pick_near {f g : Int × Int} (e : Int) (hf : FrB f) (hg : FrB g) : (pickF f g).1 < e * (pickF f g).2 ↔ (f.1 < e * f.2 ∨ g.1 < e * g.2) := by
  have key : ∀ x y : Int × Int, FrB x → FrB y → x.1 * y.2 ≤ y.1 * x.2 → y.1 < e * y.2 → x.1 < e * x.2 := fun x y hx hy h h2 => by
    obtain ⟨-, hx2, -⟩ := hx
    obtain ⟨-, hy2, -⟩ := hy
    have h3 : y.1 * x.2 < e * y.2 * x.2 := Int.mul_lt_mul_of_pos_right h2 (by omega)
    have h4 : x.1 * y.2 < (e * x.2) * y.2 := by
      have : e * y.2 * x.2 = (e * x.2) * y.2 := by rw [Int.mul_assoc, Int.mul_comm y.2, ← Int.mul_assoc]
      omega
    exact Int.lt_of_mul_lt_mul_right h4 (by omega)
  unfold pickF
  by_cases h : ltF g f
  · rw [if_pos h]
    unfold ltF at h
    exact ⟨.inr, fun h2 => h2.elim (fun h3 => key g f hg hf (by omega) h3) id⟩
  · rw [if_neg h]
    unfold ltF at h
    exact ⟨.inl, fun h2 => h2.elim id (fun h3 => key f g hf hg (by omega) h3)⟩
/-- The square of the distance of two segments. -/
def segF (a b c d : Pnt) : Int × Int := if meetP a b c d then (0, 1) else pickF (pickF (pickF (psF a b c) (psF a b d)) (psF c d a)) (psF c d b)
def nearS (a b c d : Pnt) (e : Int) : Prop := (meetP a b c d ∧ 0 < e) ∨ nearPt a b c e ∨ nearPt a b d e ∨ nearPt c d a e ∨ nearPt c d b e
instance (a b c d : Pnt) (e : Int) : Decidable (nearS a b c d e) := by unfold nearS; infer_instance
theorem segF_bd {a b c d : Pnt} (ha : Crd a) (hb : Crd b) (hc : Crd c) (hd : Crd d) : FrB (segF a b c d) := by
  unfold segF
  split
  · unfold FrB; dsimp only; omega
  · exact pick_bd (pick_bd (pick_bd (psF_bd ha hb hc) (psF_bd ha hb hd)) (psF_bd hc hd ha)) (psF_bd hc hd hb)
theorem seg_near {a b c d : Pnt} (e : Int) (he : 0 ≤ e) (ha : Crd a) (hb : Crd b) (hc : Crd c) (hd : Crd d) : (segF a b c d).1 < e * (segF a b c d).2 ↔ nearS a b c d e := by
  have q1 := psF_bd ha hb hc
  have q2 := psF_bd ha hb hd
  have q3 := psF_bd hc hd ha
  have q4 := psF_bd hc hd hb
  unfold segF nearS
  by_cases hm : meetP a b c d
  · rw [if_pos hm]
    dsimp only
    rw [Int.mul_one]
    refine ⟨fun h => .inl ⟨hm, h⟩, fun h => ?_⟩
    rcases h with ⟨-, h⟩ | h
    · exact h
    · have key : ∀ x : Int × Int, FrB x → x.1 < e * x.2 → 0 < e := fun x hx h => by
        obtain ⟨⟨h1, -⟩, -⟩ := hx
        rcases (show 0 < e ∨ e ≤ 0 by omega) with h3 | h3
        · exact h3
        · have : e = 0 := by omega
          subst this
          rw [Int.zero_mul] at h
          omega
      rcases h with h | h | h | h
      · exact key _ q1 h
      · exact key _ q2 h
      · exact key _ q3 h
      · exact key _ q4 h
  · rw [if_neg hm, pick_near e (pick_bd (pick_bd q1 q2) q3) q4, pick_near e (pick_bd q1 q2) q3, pick_near e q1 q2]
    unfold nearPt
    constructor
    · rintro (((h | h) | h) | h)
      · exact .inr (.inl h)
      · exact .inr (.inr (.inl h))
      · exact .inr (.inr (.inr (.inl h)))
      · exact .inr (.inr (.inr (.inr h)))
    · rintro (⟨h, -⟩ | h | h | h | h)
      · exact absurd h hm
      · exact .inl (.inl (.inl h))
      · exact .inl (.inl (.inr h))
      · exact .inl (.inr h)
      · exact .inr h
theorem opp_comm (p q : Int) : opp p q ↔ opp q p := by unfold opp; omega
theorem meet_comm (a b c d : Pnt) : meetP a b c d ↔ meetP c d a b := by
  unfold meetP
  constructor
  · rintro ((h | h | h | h) | ⟨h1, h2⟩)
    · exact .inl (.inr (.inr (.inl h)))
    · exact .inl (.inr (.inr (.inr h)))
    · exact .inl (.inl h)
    · exact .inl (.inr (.inl h))
    · exact .inr ⟨h2, h1⟩
  · rintro ((h | h | h | h) | ⟨h1, h2⟩)
    · exact .inl (.inr (.inr (.inl h)))
    · exact .inl (.inr (.inr (.inr h)))
    · exact .inl (.inl h)
    · exact .inl (.inr (.inl h))
    · exact .inr ⟨h2, h1⟩
theorem nearS_comm (a b c d : Pnt) (e : Int) : nearS a b c d e ↔ nearS c d a b e := by
  unfold nearS
  rw [meet_comm]
  constructor
  · rintro (h | h | h | h | h)
    · exact .inl h
    · exact .inr (.inr (.inr (.inl h)))
    · exact .inr (.inr (.inr (.inr h)))
    · exact .inr (.inl h)
    · exact .inr (.inr (.inl h))
  · rintro (h | h | h | h | h)
    · exact .inl h
    · exact .inr (.inr (.inr (.inl h)))
    · exact .inr (.inr (.inr (.inr h)))
    · exact .inr (.inl h)
    · exact .inr (.inr (.inl h))
/-- A greater distance is met by no fewer. -/
theorem nearS_mono {a b c d : Pnt} {e e' : Int} (h0 : e ≤ e') (ha : Crd a) (hb : Crd b) (hc : Crd c) (hd : Crd d) (h : nearS a b c d e) : nearS a b c d e' := by
  have key : ∀ x : Int × Int, FrB x → x.1 < e * x.2 → x.1 < e' * x.2 := fun x hx h => by
    obtain ⟨-, h1, -⟩ := hx
    have := Int.mul_le_mul_of_nonneg_right h0 (show 0 ≤ x.2 by omega)
    omega
  rcases h with ⟨h1, h2⟩ | h | h | h | h
  · exact .inl ⟨h1, by omega⟩
  · exact .inr (.inl (key _ (psF_bd ha hb hc) h))
  · exact .inr (.inr (.inl (key _ (psF_bd ha hb hd) h)))
  · exact .inr (.inr (.inr (.inl (key _ (psF_bd hc hd ha) h))))
  · exact .inr (.inr (.inr (.inr (key _ (psF_bd hc hd hb) h))))
/-- One step of the comparison by continued fractions. -/
theorem less_diff {a b c d : Int} (hb : 0 < b) (hd : 0 < d) (h : ¬ a / b = c / d) : ltF (a, b) (c, d) ↔ a / b < c / d := by
  unfold ltF
  dsimp only
  have ea := Int.ediv_mul_add_emod a b
  have ec := Int.ediv_mul_add_emod c d
  have ra := Int.emod_nonneg a (show b ≠ 0 by omega)
  have rb := Int.emod_lt_of_pos a hb
  have rc := Int.emod_nonneg c (show d ≠ 0 by omega)
  have rd := Int.emod_lt_of_pos c hd
  generalize a / b = p at *
  generalize c / d = q at *
  generalize a % b = x at *
  generalize c % d = y at *
  subst ea ec
  have key : ∀ {p q b d x y : Int}, 0 < b → 0 < d → 0 ≤ x → x < b → 0 ≤ y → p + 1 ≤ q → (p * b + x) * d < (q * d + y) * b := fun {p q b d x y} hb hd h1 h2 h3 h4 => by
    have e1 : (p * b + x) * d < (p * b + b) * d := Int.mul_lt_mul_of_pos_right (by omega) hd
    have e2 : (p * b + b) * d = (p + 1) * (b * d) := by rw [show p * b + b = (p + 1) * b by rw [Int.add_mul]; omega, Int.mul_assoc]
    have e3 : (p + 1) * (b * d) ≤ q * (b * d) := Int.mul_le_mul_of_nonneg_right h4 (Int.le_of_lt (Int.mul_pos hb hd))
    have e4 : q * (b * d) = q * d * b := by rw [Int.mul_comm b d, Int.mul_assoc]
    have e5 : q * d * b ≤ (q * d + y) * b := Int.mul_le_mul_of_nonneg_right (by omega) (by omega)
    omega
  constructor
  · intro h2
    rcases Int.lt_trichotomy p q with h3 | h3 | h3
    · exact h3
    · exact absurd h3 h
    · have := key hd hb rc rd ra (show q + 1 ≤ p by omega)
      omega
  · intro h2
    exact key hb hd ra rb rc (by omega)
theorem less_same {a b c d : Int} (h : a / b = c / d) : ltF (a, b) (c, d) ↔ (a % b) * d < (c % d) * b := by
  unfold ltF
  dsimp only
  have ea := Int.ediv_mul_add_emod a b
  have ec := Int.ediv_mul_add_emod c d
  rw [h] at ea
  generalize c / d = q at *
  generalize a % b = x at *
  generalize c % d = y at *
  subst ea ec
  have e1 : (q * b + x) * d = q * (b * d) + x * d := by rw [Int.add_mul, Int.mul_assoc]
  have e2 : (q * d + y) * b = q * (b * d) + y * b := by rw [Int.add_mul, Int.mul_assoc, Int.mul_comm d b]
  omega
theorem less_zero {b d x y : Int} (hb : 0 < b) (hd : 0 < d) (hx : 0 ≤ x) (hy : 0 ≤ y) (h : x = 0 ∨ y = 0) : x * d < y * b ↔ (x = 0 ∧ 0 < y) := by
  rcases h with rfl | rfl
  · rw [Int.zero_mul]
    constructor
    · intro h
      refine ⟨rfl, ?_⟩
      rcases (show 0 < y ∨ y ≤ 0 by omega) with h2 | h2
      · exact h2
      · have : y = 0 := by omega
        subst this
        rw [Int.zero_mul] at h
        omega
    · rintro ⟨-, h⟩
      exact Int.mul_pos h hb
  · rw [Int.zero_mul]
    constructor
    · intro h
      have := Int.mul_nonneg hx (Int.le_of_lt hd)
      omega
    · rintro ⟨-, h⟩
      omega
/-- ... and turned over. -/
theorem less_turn (b d x y : Int) : x * d < y * b ↔ ltF (d, y) (b, x) := by
  unfold ltF
  dsimp only
  rw [Int.mul_comm d x, Int.mul_comm b y]
end Go.Proofs.YtpabbehpkokhbaaDoor
