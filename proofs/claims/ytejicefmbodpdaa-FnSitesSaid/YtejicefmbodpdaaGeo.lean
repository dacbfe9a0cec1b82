/- Plain law of loads, directions and times: roots, loads of charts, vectors, best directions. No program in sight. Roots, rounded up, in both packages. The load of a chart at a radius, in both packages. -/
import Derived.Test.YtejicefmbodpdaaCraneV
import Derived.Test.YtejicefmbodpdaaDir
import Derived.Test.YtejicefmbodpdaaUnw
import Derived.Test.YtejicefmbodpdaaVcP
namespace Go.Proofs.Ytejicefmbodpdaa
open Go.RowKit

def IsRoot (n r : Int) : Prop := 0 ≤ r ∧ n ≤ r * r ∧ (r = 0 ∨ (r - 1) * (r - 1) < n)
theorem sq_mono {a b : Int} (h0 : 0 ≤ a) (h : a ≤ b) : a * a ≤ b * b := Int.mul_le_mul h h h0 (by omega)
theorem IsRoot.uniq {n r s : Int} (h : IsRoot n r) (h' : IsRoot n s) : r = s := by
  obtain ⟨a1, a2, a3⟩ := h
  obtain ⟨b1, b2, b3⟩ := h'
  rcases Int.lt_trichotomy r s with h | h | h
  · have := sq_mono a1 (show r ≤ s - 1 by omega)
    omega
  · exact h
  · have := sq_mono b1 (show s ≤ r - 1 by omega)
    omega
noncomputable def rootI (n : Int) : Int := @Classical.epsilon Int ⟨0⟩ (IsRoot n)
theorem rootI_eq {n r : Int} (h : IsRoot n r) : rootI n = r := (@Classical.epsilon_spec Int (IsRoot n) ⟨r, h⟩).uniq h
theorem root_ex {n : Int} : ∀ m : Nat, n ≤ (m : Int) * m → ∃ r, IsRoot n r ∧ r ≤ m
  | 0, h => ⟨0, ⟨by omega, by simpa using h, .inl rfl⟩, by omega⟩
  | m + 1, h => by
    by_cases h2 : n ≤ (m : Int) * m
    · obtain ⟨r, h3, h4⟩ := root_ex m h2
      exact ⟨r, h3, by omega⟩
    · refine ⟨((m + 1 : Nat) : Int), ⟨by omega, h, .inr ?_⟩, by omega⟩
      have : (((m + 1 : Nat) : Int) - 1) = m := by omega
      rw [this]; omega
theorem rootI_spec {n : Int} {m : Nat} (h : n ≤ (m : Int) * m) : IsRoot n (rootI n) ∧ rootI n ≤ m := by
  obtain ⟨r, h1, h2⟩ := root_ex m h
  rw [rootI_eq h1]; exact ⟨h1, h2⟩
/-- One step of the search. -/
theorem root_le {n m : Int} (h : IsRoot n (rootI n)) (hm : 0 ≤ m) (h2 : n ≤ m * m) : rootI n ≤ m := by
  obtain ⟨h3, h4, h5⟩ := h
  by_cases hc : rootI n ≤ m
  · exact hc
  · have := sq_mono hm (show m ≤ rootI n - 1 by omega)
    omega
theorem root_gt {n m : Int} (h : IsRoot n (rootI n)) (_hm : 0 ≤ m) (h2 : m * m < n) : m + 1 ≤ rootI n := by
  obtain ⟨h3, h4, h5⟩ := h
  by_cases hc : m + 1 ≤ rootI n
  · exact hc
  · have := sq_mono h3 (show rootI n ≤ m by omega)
    omega

/-- The first step of a chart whose radius is not less. -/
def findR (l : List Chs) (r : Int) : Nat := l.findIdx (fun c => decide (r ≤ c.radius))
theorem findR_eq {l : List Chs} {r : Int} {k : Nat} (hk : k < l.length) (h : ∀ i (h : i < l.length), i < k → l[i].radius < r) (h2 : r ≤ l[k].radius) : findR l r = k := by
  unfold findR
  rw [List.findIdx_eq hk]
  exact ⟨decide_eq_true h2, fun j hj => decide_eq_false (by have := h j (by omega) hj; omega)⟩
theorem findR_none {l : List Chs} {r : Int} (h : ∀ i (h : i < l.length), l[i].radius < r) : findR l r = l.length := by
  unfold findR
  rw [List.findIdx_eq_length]
  intro x hx
  obtain ⟨i, hi, rfl⟩ := List.mem_iff_getElem.1 hx
  exact decide_eq_false (by have := h i hi; omega)
theorem findR_cases (l : List Chs) (r : Int) : (findR l r = l.length ∧ ∀ i (h : i < l.length), l[i].radius < r) ∨
    (∃ h : findR l r < l.length, r ≤ (l[findR l r]'h).radius ∧ ∀ i (h : i < l.length), i < findR l r → l[i].radius < r) := by
  by_cases h : findR l r < l.length
  · refine .inr ⟨h, ?_, ?_⟩
    · have hx : (fun c : Chs => decide (r ≤ c.radius)) (l[List.findIdx (fun c : Chs => decide (r ≤ c.radius)) l]'h) = true := List.findIdx_getElem (p := fun c : Chs => decide (r ≤ c.radius)) (xs := l) (w := h)
      exact of_decide_eq_true hx
    · intro i hi hik
      have := List.not_of_lt_findIdx (xs := l) (p := fun c => decide (r ≤ c.radius)) hik
      have h2 : ¬ r ≤ l[i].radius := by simpa using this
      omega
  · refine .inl ⟨?_, ?_⟩
    · have : findR l r ≤ l.length := List.findIdx_le_length
      omega
    · intro i hi
      have := List.not_of_lt_findIdx (xs := l) (p := fun c => decide (r ≤ c.radius)) (show i < l.findIdx _ by unfold findR at h; omega)
      have h2 : ¬ r ≤ l[i].radius := by simpa using this
      omega
def upI (n d : Int) : Int := (n + d - 1) / d
theorem up_bd {n d : Int} (hn : 0 ≤ n) (hd : 0 < d) : 0 ≤ upI n d ∧ upI n d ≤ n := by
  unfold upI
  refine ⟨Int.ediv_nonneg (by omega) (by omega), ?_⟩
  by_cases h0 : n = 0
  · subst h0
    rw [Int.ediv_eq_zero_of_lt (by omega) (by omega)]; omega
  · have h1 : n * d ≥ n + d - 1 := by
      have : 0 ≤ (n - 1) * (d - 1) := Int.mul_nonneg (by omega) (by omega)
      rw [Int.sub_mul, Int.mul_sub, Int.mul_sub] at this
      omega
    exact Int.ediv_le_of_le_mul hd (by omega)
theorem up_le {n d m : Int} (hd : 0 < d) (h : n ≤ m * d) : upI n d ≤ m := by
  unfold upI
  have h2 : n + d - 1 < (m + 1) * d := by rw [Int.add_mul]; omega
  have := Int.ediv_lt_of_lt_mul hd h2
  omega
/-- The load between two steps. -/
def btw (a b : Chs) (r : Int) : Int := a.load - upI ((a.load - b.load) * (r - a.radius)) (b.radius - a.radius)
def loadI (l : List Chs) (r : Int) : Int :=
  match l[findR l r]? with
  | none => -1
  | some b => if findR l r = 0 then b.load else match l[findR l r - 1]? with | none => -1 | some a => btw a b r
theorem load_none {l : List Chs} {r : Int} (h : findR l r = l.length) : loadI l r = -1 := by
  unfold loadI; rw [h, List.getElem?_eq_none (by omega)]
theorem load_head {l : List Chs} {r : Int} (h0 : 0 < l.length) (h : findR l r = 0) : loadI l r = l[0].load := by
  unfold loadI; rw [h, List.getElem?_eq_getElem h0]; rfl
theorem load_mid {l : List Chs} {r : Int} {k : Nat} (hk : k < l.length) (h0 : 0 < k) (h : findR l r = k) : loadI l r = btw (l[k-1]'(by omega)) l[k] r := by
  unfold loadI; rw [h, List.getElem?_eq_getElem hk]
  simp only
  rw [if_neg (by omega), List.getElem?_eq_getElem (by omega)]
theorem mul_bd {a b A B : Int} (h1 : 0 ≤ a) (h2 : a ≤ A) (h3 : 0 ≤ b) (h4 : b ≤ B) : 0 ≤ a * b ∧ a * b ≤ A * B :=
  ⟨Int.mul_nonneg h1 h3, Int.mul_le_mul h2 h4 h3 (by omega)⟩
theorem btw_bd {a b : Chs} {r : Int} (ha : a.ok) (hb : b.ok) (h1 : a.radius < b.radius) (h2 : b.load ≤ a.load) (h3 : a.radius < r) (h4 : r ≤ b.radius) :
    (0 ≤ (a.load - b.load) * (r - a.radius) ∧ (a.load - b.load) * (r - a.radius) ≤ 50000000) ∧ (0 ≤ btw a b r ∧ btw a b r ≤ 50000) ∧
    (0 ≤ upI ((a.load - b.load) * (r - a.radius)) (b.radius - a.radius) ∧ upI ((a.load - b.load) * (r - a.radius)) (b.radius - a.radius) ≤ 50000) := by
  obtain ⟨⟨a1, a2⟩, a3, a4⟩ := ha
  obtain ⟨⟨b1, b2⟩, b3, b4⟩ := hb
  have hm := mul_bd (a := a.load - b.load) (b := r - a.radius) (A := 50000) (B := 1000) (by omega) (by omega) (by omega) (by omega)
  have hq : (a.load - b.load) * (r - a.radius) ≤ (a.load - b.load) * (b.radius - a.radius) := Int.mul_le_mul_of_nonneg_left (by omega) (by omega)
  have hu := up_le (n := (a.load - b.load) * (r - a.radius)) (show 0 < b.radius - a.radius by omega) hq
  have hv := (up_bd hm.1 (show 0 < b.radius - a.radius by omega)).1
  unfold btw
  generalize upI ((a.load - b.load) * (r - a.radius)) (b.radius - a.radius) = u at *
  generalize (a.load - b.load) * (r - a.radius) = p at *
  omega
/-- The ways of a valid chart at a radius. -/
theorem load_cases {l : List Chs} (hc : chartOk l) (r : Int) :
    (loadI l r = -1 ∧ findR l r = l.length ∧ ∀ i (h : i < l.length), l[i].radius < r) ∨
    (0 < l.length ∧ findR l r = 0 ∧ ∃ h : 0 < l.length, loadI l r = l[0].load ∧ 0 ≤ loadI l r ∧ loadI l r ≤ 50000) ∨
    (∃ k, findR l r = k ∧ 0 < k ∧ ∃ h : k < l.length, ∃ h' : k - 1 < l.length, loadI l r = btw l[k-1] l[k] r ∧ 0 ≤ loadI l r ∧ loadI l r ≤ 50000 ∧ l[k-1].ok ∧ l[k].ok ∧ l[k-1].radius < l[k].radius ∧ l[k].load ≤ l[k-1].load ∧ l[k-1].radius < r ∧ r ≤ l[k].radius) := by
  rcases findR_cases l r with ⟨h1, h2⟩ | ⟨h1, h2, h3⟩
  · exact .inl ⟨load_none h1, h1, h2⟩
  · refine .inr ?_
    by_cases h0 : findR l r = 0
    · have hl : 0 < l.length := by omega
      have hx := (hc.1 0 hl).1.2
      have he := load_head hl h0
      exact .inl ⟨hl, h0, hl, he, by rw [he]; exact hx.1, by rw [he]; exact hx.2⟩
    · have hk : findR l r - 1 < l.length := by omega
      have hx := hc.1 _ h1
      have hy := hc.1 _ hk
      have hz := hx.2 (by omega)
      have hr := h3 _ hk (by omega)
      have he := load_mid h1 (by omega) rfl
      have hb := btw_bd hy.1 hx.1 hz.1 hz.2 hr h2
      exact .inr ⟨_, rfl, by omega, h1, hk, he, by rw [he]; exact hb.2.1.1, by rw [he]; exact hb.2.1.2, hy.1, hx.1, hz.1, hz.2, hr, h2⟩
theorem load_bd {l : List Chs} (hc : chartOk l) (r : Int) : -1 ≤ loadI l r ∧ loadI l r ≤ 50000 := by
  rcases load_cases hc r with ⟨h, -⟩ | ⟨-, -, -, -, h⟩ | ⟨k, -, -, -, -, -, h1, h2, -⟩ <;> omega
/-- Behind the greatest radius there is no load. -/
theorem load_far {l : List Chs} (hc : chartOk l) {r : Int} (h : 1000 < r) : loadI l r = -1 ∧ findR l r = l.length := by
  have : findR l r = l.length := findR_none fun i hi => by have := (hc.1 i hi).1.1.2; omega
  exact ⟨load_none this, this⟩

/-- The direction's fit: the product of its vector with the way. -/
def fit (x y : Int) (d : Nat) : Int := (vecN d).1 * x + (vecN d).2 * y
theorem fit_bd {x y : Int} {d : Nat} (hx : -20000 ≤ x ∧ x ≤ 20000) (hy : -20000 ≤ y ∧ y ≤ 20000) (hd : d < 24) :
    (-20000000 ≤ (vecN d).1 * x ∧ (vecN d).1 * x ≤ 20000000) ∧ (-20000000 ≤ (vecN d).2 * y ∧ (vecN d).2 * y ≤ 20000000) ∧ (-40000000 ≤ fit x y d ∧ fit x y d ≤ 40000000) := by
  have hv := vec_bd d hd
  have h1 := prod_bd (A := 1000) (B := 20000) hv.1 hx
  have h2 := prod_bd (A := 1000) (B := 20000) hv.2 hy
  unfold fit
  omega
/-- The first of the greatest among the first k (k > 0). -/
def best (f : Nat → Int) : Nat → Nat
  | 0 => 0
  | k + 1 => if f (best f k) < f k then k else best f k
theorem best_lt (f : Nat → Int) : ∀ k, 0 < k → best f k < k
  | 0, h => absurd h (by omega)
  | 1, _ => by unfold best; split <;> simp [best]
  | k + 2, _ => by
    have := best_lt f (k + 1) (by omega)
    unfold best
    split <;> omega
theorem best_one (f : Nat → Int) : best f 1 = 0 := by unfold best; split <;> simp [best]
theorem best_t {f : Nat → Int} {k : Nat} (h : f (best f k) < f k) : best f (k + 1) = k := by rw [best, if_pos h]
theorem best_f {f : Nat → Int} {k : Nat} (h : ¬ f (best f k) < f k) : best f (k + 1) = best f k := by rw [best, if_neg h]
/-- The direction to a place; 0 for the place itself. -/
def dirN (x y : Int) : Nat := if x = 0 ∧ y = 0 then 0 else best (fit x y) 24
theorem dirN_lt (x y : Int) : dirN x y < 24 := by
  unfold dirN
  split
  · omega
  · exact best_lt _ 24 (by omega)
theorem mid_bd {a b : Int} (h0 : 0 ≤ a) (h : a < b) (hb : b ≤ 2000000) : (a ≤ (a + b) / 2 ∧ (a + b) / 2 < b) ∧ (0 ≤ (a + b) / 2 * ((a + b) / 2) ∧ (a + b) / 2 * ((a + b) / 2) ≤ 4000000000000) := by
  have h1 : a ≤ (a + b) / 2 ∧ (a + b) / 2 < b := by omega
  exact ⟨h1, mul_bd (A := 2000000) (B := 2000000) (by omega) (by omega) (by omega) (by omega)⟩
set_option maxHeartbeats 1000000 in
theorem impl_Root (n : Int) (w : World) (h0 : 0 ≤ n) (h : n ≤ 1000000000000) : Calls Try.prog 65 #[.int .i64 n] w fun e w' => e = .returned (.int .i64 (rootI n)) ∧ w = w' := by
  obtain ⟨hR, hR2⟩ := rootI_spec (n := n) (m := 1000000) (by omega)
  have hR1 := hR.1
  have HR := Lib.hid hR
  clear hR
  go_enter Try.func65, Try.ntmps65
  go_wp2
  go_loop [3, 4] (fun lo hi => ∃ a b : Int, 0 ≤ a ∧ a ≤ rootI n ∧ rootI n ≤ b ∧ b ≤ 1000000 ∧ lo = .int .i64 a ∧ hi = .int .i64 b) (fun lo hi => (intOf hi - intOf lo).toNat)
  case atStart => exact ⟨0, 1000000, by omega, hR1, by omega, by omega, rfl, rfl⟩
  case round =>
    obtain ⟨a, b, ha, haR, hRb, hb, rfl, rfl⟩ := hrel
    by_cases hlt : a < b
    · obtain ⟨⟨hm1, hm2⟩, hm3, hm4⟩ := mid_bd ha hlt (by omega)
      have Hle := Lib.hid (fun hh => root_le (m := (a + b) / 2) HR.out (by omega) hh)
      have Hgt := Lib.hid (fun hh => root_gt (m := (a + b) / 2) HR.out (by omega) hh)
      by_cases hc : n ≤ (a + b) / 2 * ((a + b) / 2)
      · have hle := Hle.out hc
        go_wp2
        go_round
        case rel => exact ⟨a, (a + b) / 2, ha, haR, hle, by omega, rfl, rfl⟩
        case measure => simp [intOf]; omega
      · have hgt := Hgt.out (by omega)
        go_wp2
        go_round
        case rel => exact ⟨(a + b) / 2 + 1, b, by omega, hgt, hRb, hb, rfl, rfl⟩
        case measure => simp [intOf]; omega
    · have he : a = rootI n := by omega
      go_wp2
      go_ret
      exact ⟨ret_int (by first | rfl | exact he | omega), rfl⟩
/-- The index of the step; -1 if there is none. -/
def findI (l : List Chs) (r : Int) : Int := if findR l r < l.length then (findR l r : Int) else -1
theorem findI_eq {l : List Chs} {r : Int} {k : Nat} (hk : k < l.length) (h : ∀ i (h : i < l.length), i < k → l[i].radius < r) (h2 : r ≤ l[k].radius) : findI l r = k := by
  unfold findI; rw [findR_eq hk h h2, if_pos hk]
theorem findI_none {l : List Chs} {r : Int} (h : ∀ i (h : i < l.length), l[i].radius < r) : findI l r = -1 := by
  unfold findI; rw [findR_none h, if_neg (by omega)]
theorem find_step {l : List Chs} {r : Int} {k : Nat} (hlt : k < l.length) (h : ∀ i (h : i < l.length), i < k → l[i].radius < r) (hk : l[k].radius < r) : ∀ i (h : i < l.length), i < k + 1 → l[i].radius < r := by
  intro i hi hik
  by_cases e : i < k
  · exact h i hi e
  · have : i = k := by omega
    subst this; exact hk
theorem impl_ceil (n d : Int) (w : World) (h0 : 0 ≤ n) (h1 : n ≤ 1000000000000) (h2 : 0 < d) (h3 : d ≤ 1000000000000) : Calls Try.prog 71 #[.int .i64 n, .int .i64 d] w fun e w' => e = .returned (.int .i64 (upI n d)) ∧ w = w' := by
  have hd : decide (d = 0) = false := decide_eq_false (by omega)
  go_enter Try.func71, Try.ntmps71
  go_wp2
  go_ret
  exact ⟨rfl, rfl⟩
/-- What a load is for the walk: bounds, and the ways. -/
theorem btw_lay {a b : Chs} {r : Int} (ha : a.ok) (hb : b.ok) (h1 : a.radius < b.radius) (h2 : b.load ≤ a.load) (h3 : a.radius < r) (h4 : r ≤ b.radius) :
    (IntKind.i64.wrap (a.load - b.load) = a.load - b.load ∧ IntKind.i64.wrap (r - a.radius) = r - a.radius ∧ IntKind.i64.wrap (b.radius - a.radius) = b.radius - a.radius) ∧
    IntKind.i64.wrap ((a.load - b.load) * (r - a.radius)) = (a.load - b.load) * (r - a.radius) ∧
    IntKind.i64.wrap (a.load - upI ((a.load - b.load) * (r - a.radius)) (b.radius - a.radius)) = btw a b r := by
  obtain ⟨⟨p1, p2⟩, ⟨q1, q2⟩, ⟨u1, u2⟩⟩ := btw_bd ha hb h1 h2 h3 h4
  obtain ⟨⟨a1, a2⟩, a3, a4⟩ := ha
  obtain ⟨⟨b1, b2⟩, b3, b4⟩ := hb
  refine ⟨⟨IntWalk.i64_in _ (by omega), IntWalk.i64_in _ (by omega), IntWalk.i64_in _ (by omega)⟩, IntWalk.i64_in _ (by omega), ?_⟩
  unfold btw
  exact IntWalk.i64_in _ (by unfold btw at q1 q2; omega)
end Go.Proofs.Ytejicefmbodpdaa
