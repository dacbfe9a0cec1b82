/- Zones: whether a line meets a convex shape: plain law. No program in sight. Zone: its reading, and when it is valid. -/
import Derived.Test.YtpabbehpkokhbaaDoorSegP
import Derived.Test.YtpabbehpkokhbaaDoorNSO
import Derived.Test.YtpabbehpkokhbaaDoorPlP
namespace Go.Proofs.YtpabbehpkokhbaaDoor
open Go.RowKit
/-- The corner k of a zone, and on which side of its side k a point is. -/
def cnr (C : List Pnt) (k : Nat) : Pnt := C.getD k ⟨0, 0⟩
def eg (C : List Pnt) (k : Nat) (p : Pnt) : Int := crossP (cnr C k) (cnr C ((k + 1) % C.length)) p
/-- Each corner is to the left of the sides of which it is no end. -/
def Conv (C : List Pnt) : Prop := 3 ≤ C.length ∧ ∀ k, k < C.length → ∀ i, i < C.length → i ≠ k → i ≠ (k + 1) % C.length → 0 < eg C k (cnr C i)
def inZ (C : List Pnt) (p : Pnt) : Prop := ∀ k, k < C.length → 0 ≤ eg C k p
def meetZ (C : List Pnt) (a b : Pnt) : Prop := inZ C a ∨ inZ C b ∨ ∃ k, k < C.length ∧ meetP a b (cnr C k) (cnr C ((k + 1) % C.length))
/-- The part of the line that is left by all sides is not empty. -/
def clipZ (C : List Pnt) (a b : Pnt) : Prop := (∀ k, k < C.length → ¬ (eg C k a < 0 ∧ eg C k b < 0)) ∧ ∀ i, i < C.length → ∀ j, j < C.length → eg C i a < 0 → eg C j b < 0 → -eg C i a * (eg C j a - eg C j b) ≤ eg C j a * (eg C i b - eg C i a)
theorem cross_a (a b : Pnt) : crossP a b a = 0 := by unfold crossP; grind
theorem cross_b (a b : Pnt) : crossP a b b = 0 := by unfold crossP; grind
theorem cross_dd (a b c d : Pnt) : crossP c d a - crossP c d b = crossP a b d - crossP a b c := by unfold crossP; grind
theorem cross_ex (a b c d e f : Pnt) : crossP a b d * crossP e f c - crossP a b c * crossP e f d = crossP c d a * crossP e f b - crossP c d b * crossP e f a := by unfold crossP; grind
theorem cross_x (a b c d : Pnt) : b.x * crossP c d a - a.x * crossP c d b = c.x * crossP a b d - d.x * crossP a b c := by unfold crossP; grind
theorem cross_y (a b c d : Pnt) : b.y * crossP c d a - a.y * crossP c d b = c.y * crossP a b d - d.y * crossP a b c := by unfold crossP; grind
theorem cnr_in {C : List Pnt} (h : Conv C) {i : Nat} (hi : i < C.length) : inZ C (cnr C i) := fun k hk => by
  by_cases h1 : i = k
  · subst h1; unfold eg; rw [cross_a]; omega
  · by_cases h2 : i = (k + 1) % C.length
    · rw [h2]; unfold eg; rw [cross_b]; omega
    · exact Int.le_of_lt (h.2 k hk i hi h1 h2)
/-- A point of a line, as a fraction. -/
structure OnL (a b c : Pnt) (T W : Int) : Prop where
  pos : 0 < W
  lo : 0 ≤ T
  hi : T ≤ W
  x : W * (c.x - a.x) = T * (b.x - a.x)
  y : W * (c.y - a.y) = T * (b.y - a.y)
theorem OnL.cross {a b c : Pnt} {T W : Int} (h : OnL a b c T W) (o p : Pnt) : W * crossP o p c = (W - T) * crossP o p a + T * crossP o p b := by
  have h1 := h.x
  have h2 := h.y
  unfold crossP
  grind
theorem cover_on {a b c : Pnt} (h : coverP a b c) : ∃ T W, OnL a b c T W := by
  obtain ⟨h0, ⟨h1, h2⟩, h3, h4⟩ := h
  have hc : (b.x - a.x) * (c.y - a.y) = (b.y - a.y) * (c.x - a.x) := by unfold crossP at h0; omega
  by_cases e1 : a.x < b.x
  · exact ⟨c.x - a.x, b.x - a.x, by omega, by omega, by omega, by grind, by grind⟩
  by_cases e2 : b.x < a.x
  · exact ⟨a.x - c.x, a.x - b.x, by omega, by omega, by omega, by grind, by grind⟩
  by_cases e3 : a.y < b.y
  · exact ⟨c.y - a.y, b.y - a.y, by omega, by omega, by omega, by grind, by grind⟩
  by_cases e4 : b.y < a.y
  · exact ⟨a.y - c.y, a.y - b.y, by omega, by omega, by omega, by grind, by grind⟩
  exact ⟨0, 1, by omega, by omega, by omega, by omega, by omega⟩
theorem nn_mul {a b : Int} (h1 : 0 ≤ a) (h2 : 0 ≤ b) : 0 ≤ a * b := Int.mul_nonneg h1 h2
theorem nn_of {a b : Int} (h1 : 0 < a) (h2 : 0 ≤ a * b) : 0 ≤ b := by
  rcases Int.lt_or_le b 0 with h | h
  · have := Int.mul_neg_of_pos_of_neg h1 h; omega
  · exact h
theorem OnL.inZ {C : List Pnt} {a b c : Pnt} {T W : Int} (h : OnL a b c T W) (ha : inZ C a) (hb : inZ C b) : inZ C c := fun k hk => by
  have h1 := h.cross (cnr C k) (cnr C ((k + 1) % C.length))
  have h2 := nn_mul (show 0 ≤ W - T by have := h.hi; omega) (ha k hk)
  have h3 := nn_mul h.lo (hb k hk)
  exact nn_of h.pos (by unfold eg at *; omega)
/-- A point of the line in the zone: the part that is left is not empty. -/
theorem clip_of {C : List Pnt} {a b : Pnt} {T W : Int} (hW : 0 < W) (h0 : 0 ≤ T) (h1 : T ≤ W) (h : ∀ k, k < C.length → 0 ≤ (W - T) * eg C k a + T * eg C k b) : clipZ C a b := by
  refine ⟨fun k hk ⟨ha, hb⟩ => ?_, fun i hi j hj ha hb => ?_⟩
  · have h2 := h k hk
    have h3 := Int.mul_nonneg (show 0 ≤ W - T by omega) (show 0 ≤ -eg C k a by omega)
    have h4 := Int.mul_nonneg h0 (show 0 ≤ -eg C k b by omega)
    rw [Int.mul_neg] at h3 h4
    rcases Int.lt_or_le 0 T with h5 | h5
    · have := Int.mul_neg_of_pos_of_neg h5 hb; omega
    · have := Int.mul_neg_of_pos_of_neg (show 0 < W - T by omega) ha; omega
  · have h2 := h i hi
    have h3 := h j hj
    have hj0 : 0 ≤ eg C j a := by
      rcases Int.lt_or_le (eg C j a) 0 with h5 | h5
      · have h6 := Int.mul_nonneg (show 0 ≤ W - T by omega) (show 0 ≤ -eg C j a by omega)
        have h7 := Int.mul_nonneg h0 (show 0 ≤ -eg C j b by omega)
        rw [Int.mul_neg] at h6 h7
        rcases Int.lt_or_le 0 T with h8 | h8
        · have := Int.mul_neg_of_pos_of_neg h8 hb; omega
        · have := Int.mul_neg_of_pos_of_neg (show 0 < W - T by omega) h5; omega
      · exact h5
    have hi0 : 0 ≤ eg C i b := by
      rcases Int.lt_or_le (eg C i b) 0 with h5 | h5
      · have h6 := Int.mul_nonneg (show 0 ≤ W - T by omega) (show 0 ≤ -eg C i a by omega)
        have h7 := Int.mul_nonneg h0 (show 0 ≤ -eg C i b by omega)
        rw [Int.mul_neg] at h6 h7
        rcases Int.lt_or_le 0 T with h8 | h8
        · have := Int.mul_neg_of_pos_of_neg h8 h5; omega
        · have := Int.mul_neg_of_pos_of_neg (show 0 < W - T by omega) ha; omega
      · exact h5
    generalize eg C i a = m at *
    generalize eg C i b = n at *
    generalize eg C j a = p at *
    generalize eg C j b = q at *
    have h5 := Int.mul_nonneg h2 (show 0 ≤ p - q by omega)
    have h6 := Int.mul_nonneg h3 (show 0 ≤ n - m by omega)
    have h7 : 0 ≤ W * (p * (n - m) - -m * (p - q)) := by grind
    have := nn_of hW h7
    omega
theorem meet_clip {C : List Pnt} {a b : Pnt} (hc : Conv C) (h : meetZ C a b) : clipZ C a b := by
  rcases h with h | h | ⟨k, hk, h⟩
  · refine clip_of (T := 0) (W := 1) (by omega) (by omega) (by omega) fun i hi => ?_
    have := h i hi
    omega
  · refine clip_of (T := 1) (W := 1) (by omega) (by omega) (by omega) fun i hi => ?_
    have := h i hi
    omega
  · have hk2 : (k + 1) % C.length < C.length := Nat.mod_lt _ (by omega)
    have hC := cnr_in hc hk
    have hD := cnr_in hc hk2
    have key : ∀ {c : Pnt} {T W : Int}, OnL a b c T W → inZ C c → clipZ C a b := fun hO hz => clip_of hO.pos hO.lo hO.hi fun i hi => by
      have h1 := hO.cross (cnr C i) (cnr C ((i + 1) % C.length))
      have h2 := nn_mul (Int.le_of_lt hO.pos) (hz i hi)
      unfold eg at *
      omega
    have key0 : inZ C a → clipZ C a b := fun h => clip_of (T := 0) (W := 1) (by omega) (by omega) (by omega) fun i hi => by
      have := h i hi
      omega
    have key1 : inZ C b → clipZ C a b := fun h => clip_of (T := 1) (W := 1) (by omega) (by omega) (by omega) fun i hi => by
      have := h i hi
      omega
    generalize cnr C k = c at *
    generalize cnr C ((k + 1) % C.length) = d at *
    rcases h with (h | h | h | h) | ⟨h1, h2⟩
    · obtain ⟨T, W, hO⟩ := cover_on h
      exact key hO hC
    · obtain ⟨T, W, hO⟩ := cover_on h
      exact key hO hD
    · obtain ⟨T, W, hO⟩ := cover_on h
      exact key0 (hO.inZ hC hD)
    · obtain ⟨T, W, hO⟩ := cover_on h
      exact key1 (hO.inZ hC hD)
    · have hdd := cross_dd a b c d
      have hex := fun i => cross_ex a b c d (cnr C i) (cnr C ((i + 1) % C.length))
      generalize crossP a b c = α at *
      generalize crossP a b d = β at *
      generalize crossP c d a = m at *
      generalize crossP c d b = n at *
      unfold opp at h1 h2
      rcases h2 with ⟨h3, h4⟩ | ⟨h3, h4⟩
      · refine clip_of (T := -m) (W := n - m) (by omega) (by omega) (by omega) fun i hi => ?_
        have g1 := hex i
        have g2 := Int.mul_nonneg (show 0 ≤ -β by omega) (hC i hi)
        have g3 := Int.mul_nonneg (show 0 ≤ α by omega) (hD i hi)
        unfold eg at *
        grind
      · refine clip_of (T := m) (W := m - n) (by omega) (by omega) (by omega) fun i hi => ?_
        have g1 := hex i
        have g2 := Int.mul_nonneg (show 0 ≤ β by omega) (hC i hi)
        have g3 := Int.mul_nonneg (show 0 ≤ -α by omega) (hD i hi)
        unfold eg at *
        grind
theorem frac_trans {a b c d e f : Int} (hb : 0 < b) (hd : 0 < d) (hf : 0 < f) (h1 : a * d ≤ c * b) (h2 : c * f ≤ e * d) : a * f ≤ e * b := by
  have h3 := Int.mul_nonneg (show 0 ≤ c * b - a * d by omega) (Int.le_of_lt hf)
  have h4 := Int.mul_nonneg (show 0 ≤ e * d - c * f by omega) (Int.le_of_lt hb)
  have h5 : 0 ≤ d * (e * b - a * f) := by grind
  have := nn_of hd h5
  omega
/-- Of the sides that the first point lies outside of, one is met last. -/
theorem last_in {C : List Pnt} {a b : Pnt} (h : ∀ k, k < C.length → ¬ (eg C k a < 0 ∧ eg C k b < 0)) : ∀ n, n ≤ C.length → (∃ i, i < n ∧ eg C i a < 0) → ∃ k, k < n ∧ eg C k a < 0 ∧ ∀ i, i < n → eg C i a < 0 → -eg C i a * (eg C k b - eg C k a) ≤ -eg C k a * (eg C i b - eg C i a)
  | 0, _, ⟨i, hi, _⟩ => absurd hi (by omega)
  | n + 1, hn, hex => by
    by_cases hp : ∃ i, i < n ∧ eg C i a < 0
    · obtain ⟨k, hk, hka, hm⟩ := last_in h n (by omega) hp
      by_cases hna : eg C n a < 0
      · have hkb := h k (by omega)
        have hnb := h n (by omega)
        rcases Int.lt_or_le (-eg C k a * (eg C n b - eg C n a)) (-eg C n a * (eg C k b - eg C k a)) with h5 | h5
        · refine ⟨n, by omega, hna, fun i hi hia => ?_⟩
          rcases Nat.lt_or_ge i n with h6 | h6
          · have hib := h i (by omega)
            exact frac_trans (b := eg C i b - eg C i a) (d := eg C k b - eg C k a) (f := eg C n b - eg C n a) (by omega) (by omega) (by omega) (hm i h6 hia) (Int.le_of_lt h5)
          · have : i = n := by omega
            subst this
            exact Int.le_refl _
        · refine ⟨k, by omega, hka, fun i hi hia => ?_⟩
          rcases Nat.lt_or_ge i n with h6 | h6
          · exact hm i h6 hia
          · have : i = n := by omega
            subst this
            exact h5
      · refine ⟨k, by omega, hka, fun i hi hia => ?_⟩
        rcases Nat.lt_or_ge i n with h6 | h6
        · exact hm i h6 hia
        · have : i = n := by omega
          subst this
          exact absurd hia hna
    · obtain ⟨i, hi, hia⟩ := hex
      have : i = n := by
        rcases Nat.lt_or_ge i n with h6 | h6
        · exact absurd ⟨i, h6, hia⟩ hp
        · omega
      subst this
      refine ⟨i, by omega, hia, fun j hj hja => ?_⟩
      rcases Nat.lt_or_ge j i with h6 | h6
      · exact absurd ⟨j, h6, hja⟩ hp
      · have : j = i := by omega
        subst this
        exact Int.le_refl _
theorem between {A α u v p : Int} (hA : 0 < A) (h0 : 0 ≤ α) (h1 : α ≤ A) (h : A * (p - u) = α * (v - u)) : min u v ≤ p ∧ p ≤ max u v := by
  have g1 : A * (v - p) = (A - α) * (v - u) := by grind
  rcases Int.le_total u v with h2 | h2
  · have h3 := Int.mul_nonneg h0 (show 0 ≤ v - u by omega)
    have h4 := Int.mul_nonneg (show 0 ≤ A - α by omega) (show 0 ≤ v - u by omega)
    have h5 := nn_of hA (show 0 ≤ A * (p - u) by omega)
    have h6 := nn_of hA (show 0 ≤ A * (v - p) by omega)
    omega
  · have h3 := Int.mul_nonneg h0 (show 0 ≤ u - v by omega)
    have h4 := Int.mul_nonneg (show 0 ≤ A - α by omega) (show 0 ≤ u - v by omega)
    have h5 := nn_of hA (show 0 ≤ A * (u - p) by grind)
    have h6 := nn_of hA (show 0 ≤ A * (p - v) by grind)
    omega
theorem clip_meet {C : List Pnt} {a b : Pnt} (hc : Conv C) (h : clipZ C a b) : meetZ C a b := by
  obtain ⟨hno, hpr⟩ := h
  by_cases hp : ∃ i, i < C.length ∧ eg C i a < 0
  · obtain ⟨k, hk, hka, hm⟩ := last_in hno C.length (Nat.le_refl _) hp
    have hkb : 0 ≤ eg C k b := by have := hno k hk; omega
    have hG : ∀ j, j < C.length → 0 ≤ eg C k b * eg C j a - eg C k a * eg C j b := fun j hj => by
      have h1 := hno j hj
      have h2 := hm j hj
      have h3 := hpr k hk j hj hka
      generalize eg C k a = m at *
      generalize eg C k b = n at *
      generalize eg C j a = p at *
      generalize eg C j b = q at *
      rcases Int.lt_or_le p 0 with h4 | h4
      · have := h2 h4; grind
      · rcases Int.lt_or_le q 0 with h5 | h5
        · have := h3 h5; grind
        · have h6 := Int.mul_nonneg hkb h4
          have h7 := Int.mul_nonneg (show 0 ≤ -m by omega) h5
          grind
    refine .inr (.inr ⟨k, hk, ?_⟩)
    have hn3 := hc.1
    -- the side ahead of this one, and the one behind it
    have hk2 : (k + 1) % C.length < C.length := Nat.mod_lt _ (by omega)
    obtain ⟨j1, hj1, hj2⟩ : ∃ j, j < C.length ∧ (j + 1) % C.length = k := by
      by_cases h0 : k = 0
      · exact ⟨C.length - 1, by omega, by rw [Nat.sub_add_cancel (by omega), Nat.mod_self, h0]⟩
      · exact ⟨k - 1, by omega, by rw [Nat.sub_add_cancel (by omega), Nat.mod_eq_of_lt hk]⟩
    have hjk : j1 ≠ k := fun e => by
      rw [e] at hj2
      by_cases h0 : k + 1 < C.length
      · rw [Nat.mod_eq_of_lt h0] at hj2; omega
      · have : k + 1 = C.length := by omega
        rw [this, Nat.mod_self] at hj2
        omega
    have hmod : ∀ x, x < C.length → ((x + 1) % C.length = x + 1 ∧ x + 1 < C.length) ∨ ((x + 1) % C.length = 0 ∧ x + 1 = C.length) := fun x hx => by
      by_cases h0 : x + 1 < C.length
      · exact .inl ⟨Nat.mod_eq_of_lt h0, h0⟩
      · have e : x + 1 = C.length := by omega
        exact .inr ⟨by rw [e, Nat.mod_self], e⟩
    have ha0 : 0 < eg C j1 (cnr C ((k + 1) % C.length)) := hc.2 j1 hj1 _ hk2 (fun e => by
      rcases hmod k hk with ⟨e1, _⟩ | ⟨e1, _⟩ <;> rcases hmod j1 hj1 with ⟨e2, _⟩ | ⟨e2, _⟩ <;> omega) (fun e => by
      rcases hmod k hk with ⟨e1, _⟩ | ⟨e1, _⟩ <;> omega)
    have hb0 : 0 < eg C ((k + 1) % C.length) (cnr C k) := hc.2 _ hk2 k hk (fun e => by
      rcases hmod k hk with ⟨e1, _⟩ | ⟨e1, _⟩ <;> omega) (fun e => by
      rcases hmod k hk with ⟨e1, _⟩ | ⟨e1, _⟩ <;> rcases hmod _ hk2 with ⟨e2, _⟩ | ⟨e2, _⟩ <;> omega)
    have hza : eg C j1 (cnr C k) = 0 := by unfold eg; rw [hj2, cross_b]
    have hzb : eg C ((k + 1) % C.length) (cnr C ((k + 1) % C.length)) = 0 := by unfold eg; rw [cross_a]
    have g1 := hG j1 hj1
    have g2 := hG _ hk2
    have hex := fun i => cross_ex a b (cnr C k) (cnr C ((k + 1) % C.length)) (cnr C i) (cnr C ((i + 1) % C.length))
    have hdd := cross_dd a b (cnr C k) (cnr C ((k + 1) % C.length))
    have hx := cross_x a b (cnr C k) (cnr C ((k + 1) % C.length))
    have hy := cross_y a b (cnr C k) (cnr C ((k + 1) % C.length))
    have e1 := hex j1
    have e2 := hex ((k + 1) % C.length)
    rw [show crossP (cnr C j1) (cnr C ((j1 + 1) % C.length)) = eg C j1 from rfl, show crossP (cnr C k) (cnr C ((k + 1) % C.length)) = eg C k from rfl, hza] at e1
    rw [show crossP (cnr C ((k + 1) % C.length)) (cnr C (((k + 1) % C.length + 1) % C.length)) = eg C ((k + 1) % C.length) from rfl, show crossP (cnr C k) (cnr C ((k + 1) % C.length)) = eg C k from rfl, hzb] at e2
    unfold meetP coverP boxP
    rw [show crossP (cnr C k) (cnr C ((k + 1) % C.length)) = eg C k from rfl] at hdd hx hy ⊢
    clear hex hG hm hpr hno hza hzb hmod
    generalize cnr C k = c at *
    generalize cnr C ((k + 1) % C.length) = d at *
    generalize eg C j1 d = F1 at *
    generalize eg C ((k + 1) % C.length) c = F2 at *
    generalize eg C j1 a = p1 at *
    generalize eg C j1 b = q1 at *
    generalize eg C ((k + 1) % C.length) a = p2 at *
    generalize eg C ((k + 1) % C.length) b = q2 at *
    generalize crossP a b c = α at *
    generalize crossP a b d = β at *
    have hα : 0 ≤ α := nn_of ha0 (by grind)
    have hβ : 0 ≤ -β := nn_of hb0 (by grind)
    generalize eg C k a = m at *
    generalize eg C k b = n at *
    by_cases hn0 : n = 0
    · subst hn0
      refine .inl (.inr (.inr (.inr ⟨rfl, ?_, ?_⟩)))
      · exact between (A := α - β) (α := α) (by omega) hα (by omega) (by grind)
      · exact between (A := α - β) (α := α) (by omega) hα (by omega) (by grind)
    · by_cases ha1 : α = 0
      · refine .inl (.inl ⟨ha1, ?_, ?_⟩)
        · exact between (A := n - m) (α := -m) (by omega) (by omega) (by omega) (by grind)
        · exact between (A := n - m) (α := -m) (by omega) (by omega) (by omega) (by grind)
      · by_cases hb1 : β = 0
        · refine .inl (.inr (.inl ⟨hb1, ?_, ?_⟩))
          · exact between (A := n - m) (α := -m) (by omega) (by omega) (by omega) (by grind)
          · exact between (A := n - m) (α := -m) (by omega) (by omega) (by omega) (by grind)
        · refine .inr ⟨?_, ?_⟩ <;> (unfold opp; omega)
  · refine .inl fun k hk => ?_
    rcases Int.lt_or_le (eg C k a) 0 with h1 | h1
    · exact absurd ⟨k, hk, h1⟩ hp
    · exact h1
theorem clip_iff {C : List Pnt} {a b : Pnt} (hc : Conv C) : clipZ C a b ↔ meetZ C a b := ⟨clip_meet hc, meet_clip hc⟩
/-- What is left after k sides: from lo to hi. -/
structure ClipSt (C : List Pnt) (a b : Pnt) (k : Nat) (l1 l2 h1 h2 : Int) : Prop where
  none : ∀ i, i < k → ¬ (eg C i a < 0 ∧ eg C i b < 0)
  lpos : 0 < l2
  hpos : 0 < h2
  lor : (l1 = 0 ∧ l2 = 1) ∨ ∃ i, i < k ∧ eg C i a < 0 ∧ l1 = -eg C i a ∧ l2 = eg C i b - eg C i a
  lmax : ∀ i, i < k → eg C i a < 0 → -eg C i a * l2 ≤ l1 * (eg C i b - eg C i a)
  hor : (h1 = 1 ∧ h2 = 1) ∨ ∃ i, i < k ∧ eg C i b < 0 ∧ h1 = eg C i a ∧ h2 = eg C i a - eg C i b
  hmin : ∀ i, i < k → eg C i b < 0 → h1 * (eg C i a - eg C i b) ≤ eg C i a * h2
theorem ClipSt.start (C : List Pnt) (a b : Pnt) : ClipSt C a b 0 0 1 1 1 :=
  ⟨fun i h => absurd h (by omega), by omega, by omega, .inl ⟨rfl, rfl⟩, fun i h => absurd h (by omega), .inl ⟨rfl, rfl⟩, fun i h => absurd h (by omega)⟩
variable {C : List Pnt} {a b : Pnt} {k : Nat} {l1 l2 h1 h2 : Int}
theorem ClipSt.both (h : ClipSt C a b k l1 l2 h1 h2) (ha : 0 ≤ eg C k a) (hb : 0 ≤ eg C k b) : ClipSt C a b (k + 1) l1 l2 h1 h2 := by
  have split : ∀ i, i < k + 1 → i < k ∨ i = k := fun i hi => by omega
  refine ⟨fun i hi => ?_, h.lpos, h.hpos, ?_, fun i hi h0 => ?_, ?_, fun i hi h0 => ?_⟩
  · rcases split i hi with h3 | rfl
    · exact h.none i h3
    · omega
  · rcases h.lor with h3 | ⟨i, hi, h3⟩
    · exact .inl h3
    · exact .inr ⟨i, by omega, h3⟩
  · rcases split i hi with h3 | rfl
    · exact h.lmax i h3 h0
    · omega
  · rcases h.hor with h3 | ⟨i, hi, h3⟩
    · exact .inl h3
    · exact .inr ⟨i, by omega, h3⟩
  · rcases split i hi with h3 | rfl
    · exact h.hmin i h3 h0
    · omega
theorem ClipSt.low (h : ClipSt C a b k l1 l2 h1 h2) (ha : eg C k a < 0) (hb : 0 ≤ eg C k b) : ClipSt C a b (k + 1) (if l1 * (eg C k b - eg C k a) < -eg C k a * l2 then -eg C k a else l1) (if l1 * (eg C k b - eg C k a) < -eg C k a * l2 then eg C k b - eg C k a else l2) h1 h2 := by
  have split : ∀ i, i < k + 1 → i < k ∨ i = k := fun i hi => by omega
  have hlp := h.lpos
  refine ⟨fun i hi => ?_, ?_, h.hpos, ?_, fun i hi h0 => ?_, ?_, fun i hi h0 => ?_⟩
  · rcases split i hi with h3 | rfl
    · exact h.none i h3
    · omega
  · split <;> omega
  · by_cases hc : l1 * (eg C k b - eg C k a) < -eg C k a * l2
    · rw [if_pos hc, if_pos hc]
      exact .inr ⟨k, by omega, ha, rfl, rfl⟩
    · rw [if_neg hc, if_neg hc]
      rcases h.lor with h3 | ⟨i, hi, h3⟩
      · exact .inl h3
      · exact .inr ⟨i, by omega, h3⟩
  · by_cases hc : l1 * (eg C k b - eg C k a) < -eg C k a * l2
    · rw [if_pos hc, if_pos hc]
      rcases split i hi with h3 | rfl
      · have hn := h.none i h3
        exact frac_trans (b := eg C i b - eg C i a) (d := l2) (f := eg C k b - eg C k a) (by omega) hlp (by omega) (h.lmax i h3 h0) (Int.le_of_lt hc)
      · exact Int.le_refl _
    · rw [if_neg hc, if_neg hc]
      rcases split i hi with h3 | rfl
      · exact h.lmax i h3 h0
      · omega
  · rcases h.hor with h3 | ⟨i, hi, h3⟩
    · exact .inl h3
    · exact .inr ⟨i, by omega, h3⟩
  · rcases split i hi with h3 | rfl
    · exact h.hmin i h3 h0
    · omega
theorem ClipSt.high (h : ClipSt C a b k l1 l2 h1 h2) (ha : 0 ≤ eg C k a) (hb : eg C k b < 0) : ClipSt C a b (k + 1) l1 l2 (if eg C k a * h2 < h1 * (eg C k a - eg C k b) then eg C k a else h1) (if eg C k a * h2 < h1 * (eg C k a - eg C k b) then eg C k a - eg C k b else h2) := by
  have split : ∀ i, i < k + 1 → i < k ∨ i = k := fun i hi => by omega
  have hhp := h.hpos
  refine ⟨fun i hi => ?_, h.lpos, ?_, ?_, fun i hi h0 => ?_, ?_, fun i hi h0 => ?_⟩
  · rcases split i hi with h3 | rfl
    · exact h.none i h3
    · omega
  · split <;> omega
  · rcases h.lor with h3 | ⟨i, hi, h3⟩
    · exact .inl h3
    · exact .inr ⟨i, by omega, h3⟩
  · rcases split i hi with h3 | rfl
    · exact h.lmax i h3 h0
    · omega
  · by_cases hc : eg C k a * h2 < h1 * (eg C k a - eg C k b)
    · rw [if_pos hc, if_pos hc]
      exact .inr ⟨k, by omega, hb, rfl, rfl⟩
    · rw [if_neg hc, if_neg hc]
      rcases h.hor with h3 | ⟨i, hi, h3⟩
      · exact .inl h3
      · exact .inr ⟨i, by omega, h3⟩
  · by_cases hc : eg C k a * h2 < h1 * (eg C k a - eg C k b)
    · rw [if_pos hc, if_pos hc]
      rcases split i hi with h3 | rfl
      · have hn := h.none i h3
        exact frac_trans (b := eg C k a - eg C k b) (d := h2) (f := eg C i a - eg C i b) (by omega) hhp (by omega) (Int.le_of_lt hc) (h.hmin i h3 h0)
      · exact Int.le_refl _
    · rw [if_neg hc, if_neg hc]
      rcases split i hi with h3 | rfl
      · exact h.hmin i h3 h0
      · omega
theorem ClipSt.fin (h : ClipSt C a b C.length l1 l2 h1 h2) : l1 * h2 ≤ h1 * l2 ↔ clipZ C a b := by
  have hlp := h.lpos
  have hhp := h.hpos
  constructor
  · intro hle
    refine ⟨h.none, fun i hi j hj ha hb => ?_⟩
    have hi2 := h.none i hi
    have hj2 := h.none j hj
    have g1 := h.lmax i hi ha
    have g2 := h.hmin j hj hb
    have g3 := frac_trans (b := eg C i b - eg C i a) (d := l2) (f := h2) (by omega) hlp hhp g1 hle
    exact frac_trans (b := eg C i b - eg C i a) (d := h2) (f := eg C j a - eg C j b) (by omega) hhp (by omega) g3 g2
  · rintro ⟨-, hp⟩
    rcases h.lor with ⟨rfl, rfl⟩ | ⟨i, hi, hia, rfl, rfl⟩
    · rcases h.hor with ⟨rfl, rfl⟩ | ⟨j, hj, hjb, rfl, rfl⟩
      · omega
      · have := h.none j hj; omega
    · rcases h.hor with ⟨rfl, rfl⟩ | ⟨j, hj, hjb, rfl, rfl⟩
      · have := h.none i hi; omega
      · exact hp i hi j hj hia hjb
/-- Two of the numbers' bounds. -/
theorem ClipSt.bd (h : ClipSt C a b k l1 l2 h1 h2) {B : Int} (hB : 1 ≤ B) (hE : ∀ i, i < k → (-B ≤ eg C i a ∧ eg C i a ≤ B) ∧ (-B ≤ eg C i b ∧ eg C i b ≤ B)) : (0 ≤ l1 ∧ l1 ≤ B) ∧ (0 < l2 ∧ l2 ≤ 2 * B) ∧ (0 ≤ h1 ∧ h1 ≤ B) ∧ (0 < h2 ∧ h2 ≤ 2 * B) := by
  have hlp := h.lpos
  have hhp := h.hpos
  refine ⟨?_, ?_, ?_, ?_⟩
  · rcases h.lor with ⟨h3, h4⟩ | ⟨i, hi, hia, h3, h4⟩
    · omega
    · have := hE i hi; omega
  · rcases h.lor with ⟨h3, h4⟩ | ⟨i, hi, hia, h3, h4⟩
    · omega
    · have := hE i hi; omega
  · rcases h.hor with ⟨h3, h4⟩ | ⟨i, hi, hia, h3, h4⟩
    · omega
    · have := hE i hi; have := h.none i hi; omega
  · rcases h.hor with ⟨h3, h4⟩ | ⟨i, hi, hia, h3, h4⟩
    · omega
    · have := hE i hi; omega
structure ZoneF where
  kind : Int
  storeys : Int
  each : Int
deriving DecidableEq
structure ZoneR where
  f : ZoneF
  s : SV
def ZoneR.cells (r : ZoneR) : List Value := [.int .i64 r.f.kind, .int .i64 r.f.storeys, .int .i64 r.f.each, r.s.v]
theorem ZoneR.len (r : ZoneR) : r.cells.length = 4 := rfl
theorem ZoneR.oneZ (r : ZoneR) : ∀ u ∈ r.cells, u.oneCell' = true := by intro u hu; simp [ZoneR.cells, SV.v] at hu; rcases hu with rfl | rfl | rfl | rfl <;> rfl
abbrev ZonesL := List (ZoneF × List Pnt)
abbrev Zones (lo hi : Nat) (w : World) (v : Value) (rs : List ZoneR) (L : ZonesL) : Prop := NSr 4 ZoneR.cells ZoneR.f ZoneR.s 2 Pnt.cells lo hi w v rs L
theorem Zones_at {lo hi b off len cap : Nat} {w : World} {rs : List ZoneR} {L : ZonesL} (h : Zones lo hi w (.slice (some ⟨b, off, none⟩) len cap) rs L) {k : Nat} (hk : k < rs.length) :
    w.cell? ⟨b, off + k * 4, none⟩ = some (.int .i64 rs[k].f.kind) ∧ w.cell? ⟨b, off + k * 4 + 1, none⟩ = some (.int .i64 rs[k].f.storeys) ∧ w.cell? ⟨b, off + k * 4 + 2, none⟩ = some (.int .i64 rs[k].f.each) ∧ w.cell? ⟨b, off + k * 4 + 3, none⟩ = some (rs[k].s.v) :=
  ⟨h.at hk 0 _ rfl, h.at hk 1 _ rfl, h.at hk 2 _ rfl, h.at hk 3 _ rfl⟩
def ZoneF.wf (f : ZoneF) : Prop := I64 f.kind ∧ I64 f.storeys ∧ I64 f.each
def ZWf (x : ZoneF × List Pnt) : Prop := x.1.wf ∧ (∀ p ∈ x.2, p.wf) ∧ x.2.length ≤ 1024
def tall (f : ZoneF) : Prop := (1 ≤ f.storeys ∧ f.storeys ≤ 60) ∧ (20 ≤ f.each ∧ f.each ≤ 60) ∧ f.storeys * f.each ≤ 2000
/-- When a zone is valid. -/
structure zoneOk (f : ZoneF) (C : List Pnt) : Prop where
  kind : 1 ≤ f.kind ∧ f.kind ≤ 3
  len : 3 ≤ C.length ∧ C.length ≤ 12
  pl : ∀ p ∈ C, Pl p.x p.y
  one : f.kind = 1 → tall f
  oth : ¬ f.kind = 1 → f.storeys = 0 ∧ f.each = 0
  conv : Conv C
open Classical in
noncomputable def zoneB (f : ZoneF) (C : List Pnt) : Bool := decide (zoneOk f C)
theorem zoneB_t {f : ZoneF} {C : List Pnt} (h : zoneOk f C) : zoneB f C = true := by classical exact decide_eq_true h
theorem zoneB_f {f : ZoneF} {C : List Pnt} (h : ¬ zoneOk f C) : zoneB f C = false := by classical exact decide_eq_false h
theorem zoneB_iff {f : ZoneF} {C : List Pnt} : zoneB f C = true ↔ zoneOk f C := ⟨fun h => by classical exact of_decide_eq_true h, zoneB_t⟩
def zonesOk (L : ZonesL) : Prop := (∀ x ∈ L, zoneOk x.1 x.2) ∧ L.length ≤ 10
open Classical in
noncomputable def zonesB (L : ZonesL) : Bool := decide (zonesOk L)
theorem zonesB_t {L : ZonesL} (h : zonesOk L) : zonesB L = true := by classical exact decide_eq_true h
theorem zonesB_f {L : ZonesL} (h : ¬ zonesOk L) : zonesB L = false := by classical exact decide_eq_false h
theorem zonesB_iff {L : ZonesL} : zonesB L = true ↔ zonesOk L := ⟨fun h => by classical exact of_decide_eq_true h, zonesB_t⟩
theorem pl_crd {p : Pnt} (h : Pl p.x p.y) : Crd p := by
  obtain ⟨⟨_, _⟩, _, _⟩ := h
  exact ⟨⟨by omega, by omega⟩, by omega, by omega⟩
open Classical in
noncomputable def meetB (C : List Pnt) (a b : Pnt) : Bool := decide (meetZ C a b)
theorem meetB_t {C : List Pnt} {a b : Pnt} (h : meetZ C a b) : meetB C a b = true := by classical exact decide_eq_true h
theorem meetB_f {C : List Pnt} {a b : Pnt} (h : ¬ meetZ C a b) : meetB C a b = false := by classical exact decide_eq_false h
/-- Blocking at a height. -/
def loadB (f : ZoneF) (h : Int) : Bool := decide (f.kind = 2 ∨ f.kind = 1 ∧ h < f.storeys * f.each + 20)
def jibB (f : ZoneF) (h : Int) : Bool := decide (f.kind = 3 ∨ f.kind = 1 ∧ h < f.storeys * f.each + 20)
end Go.Proofs.YtpabbehpkokhbaaDoor
