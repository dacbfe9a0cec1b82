/- Tables, worlds and acts: the plain law. -/
import Derived.Test.YtmkhapgkiecmaaaDir
import Derived.Test.YtmkhapgkiecmaaaTBool
import Derived.Test.YtmkhapgkiecmaaaTWatch
import Derived.Test.YtmkhapgkiecmaaaTWorld
import Derived.Test.YtmkhapgkiecmaaaTAct
namespace Go.Proofs.Ytmkhapgkiecmaaa
open Go.RowKit

abbrev Tab := List (List Bool)
def TabOk (T : Tab) : Prop := T.length = 24 ∧ ∀ r ∈ T, r.length = 24
instance (T : Tab) : Decidable (TabOk T) := by unfold TabOk; infer_instance
def cellT (T : Tab) (d o : Nat) : Bool := (T.getD d []).getD o false
/-- The cell of a direction of the one crane and of the other. -/
def cellF (T : Tab) (first : Bool) (d o : Nat) : Bool := if first then cellT T d o else cellT T o d
def Free (T : Tab) (first : Bool) (d : Nat) (seen m : Int) : Prop := ∀ o : Nat, o < 24 → absI (tb seen o) ≤ m → cellF T first d o = false
open Classical in
noncomputable def freeB (T : Tab) (first : Bool) (d : Nat) (seen m : Int) : Bool := decide (Free T first d seen m)
theorem freeB_t {T : Tab} {first : Bool} {d : Nat} {seen m : Int} (h : Free T first d seen m) : freeB T first d seen m = true := by classical exact decide_eq_true h
theorem freeB_f {T : Tab} {first : Bool} {d : Nat} {seen m : Int} (h : ¬ Free T first d seen m) : freeB T first d seen m = false := by classical exact decide_eq_false h
/-- The reference goes over the directions around the one that is seen. -/
theorem free_iff {T : Tab} {first : Bool} {d : Nat} {seen m : Int} (hs : Dir seen) (hm : 0 ≤ m ∧ m ≤ 3) : Free T first d seen m ↔ ∀ k : Int, -m ≤ k → k ≤ m → cellF T first d ((seen + k) % 24).toNat = false := by
  unfold Dir at hs
  constructor
  · intro h k h1 h2
    refine h _ (by omega) ?_
    have h3 : ((((seen + k) % 24).toNat : Nat) : Int) = (seen + k) % 24 := by omega
    rw [h3]
    have h4 := tb_cases seen ((seen + k) % 24)
    have h5 := absI_cases (tb seen ((seen + k) % 24))
    omega
  · intro h o ho h1
    have h4 := tb_cases seen o
    have h5 := absI_cases (tb seen o)
    have h6 := h (tb seen o) (by omega) (by omega)
    have h7 : ((seen + tb seen o) % 24).toNat = o := by omega
    rwa [h7] at h6

def Wtc.ok (v : Wtc) : Prop := (0 ≤ v.margin ∧ v.margin ≤ 3) ∧ (0 ≤ v.lost ∧ v.lost ≤ 1)
instance (v : Wtc) : Decidable v.ok := by unfold Wtc.ok; infer_instance
def SeenOk (v : Wtc) (at_ seen age : Int) : Prop := Dir at_ ∧ Dir seen ∧ (0 ≤ age ∧ age ≤ v.lost) ∧ absI (tb seen at_) ≤ age
instance (v : Wtc) (a s g : Int) : Decidable (SeenOk v a s g) := by unfold SeenOk; infer_instance
def Wld.ok (v : Wtc) (x : Wld) : Prop := v.ok ∧ SeenOk v x.a x.seenA x.ageA ∧ SeenOk v x.b x.seenB x.ageB
instance (v : Wtc) (x : Wld) : Decidable (x.ok v) := by unfold Wld.ok; infer_instance
def codeW (T : Tab) (v : Wtc) (x : Wld) : Int := if TabOk T then (if x.ok v then 0 else 1) else 8
def Trn (n : Int) : Prop := -1 ≤ n ∧ n ≤ 1
instance (n : Int) : Decidable (Trn n) := by unfold Trn; infer_instance
noncomputable def canB (T : Tab) (v : Wtc) (x : Wld) (y : Act1) : Bool :=
  (decide (y.turnA = 0) || freeB T true ((x.a + y.turnA) % 24).toNat x.seenB v.margin) && (decide (y.turnB = 0) || freeB T false ((x.b + y.turnB) % 24).toNat x.seenA v.margin)
    && ((!y.loseA || decide (x.ageA < v.lost)) && (!y.loseB || decide (x.ageB < v.lost)))
def doW (x : Wld) (y : Act1) : Wld :=
  ⟨(x.a + y.turnA) % 24, (x.b + y.turnB) % 24, if y.loseA then x.seenA else (x.a + y.turnA) % 24, if y.loseB then x.seenB else (x.b + y.turnB) % 24, if y.loseA then x.ageA + 1 else 0, if y.loseB then x.ageB + 1 else 0⟩
def zeroW : Wld := ⟨0, 0, 0, 0, 0, 0⟩
noncomputable def nextW (T : Tab) (v : Wtc) (x : Wld) (y : Act1) : Wld × Int :=
  if codeW T v x = 0 then (if Trn y.turnA ∧ Trn y.turnB then (if canB T v x y = true then (doW x y, 0) else (zeroW, 6)) else (zeroW, 2)) else (zeroW, codeW T v x)
end Go.Proofs.Ytmkhapgkiecmaaa
