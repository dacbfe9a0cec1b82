/- Bytes that grow by append. -/
import Derived.Test.YtpabbehpkokhbaaDoorOwn
import Derived.Test.YtpabbehpkokhbaaDoorProg
import Derived.Test.YtpabbehpkokhbaaDoorOpen
import Derived.Laws.IdiomStrings
namespace Go.Proofs.YtpabbehpkokhbaaDoor
open Go.RowKit

def byteC (x : UInt8) : List Value := [.int .u8 x.toNat]
theorem byteC_len (x : UInt8) : (byteC x).length = 1 := rfl
theorem byteC_one (x : UInt8) : ∀ u ∈ byteC x, u.oneCell' = true := by intro u hu; simp [byteC] at hu; subst hu; rfl
theorem info_uint8 : (Tryd.prog.info? 5).map (fun i => (i.zero.map (·.cells.size), i.size, i.bytes)) = some (some 1, 1, 1) := by kernel_rfl
abbrev Bytes (lo : Nat) (w : World) (v : Value) (l : List UInt8) : Prop := Own 1 byteC lo 5 w v l

section
variable {α : Type} {c : α → List Value} {n bytes : Nat} {P : Program} {o : Oper} {a : Act} {w0 : World}
theorem wp_apps {K : Act → World → Prop} {Q : Exit → Act → World → Prop} (s x : Operand) (t e : TypeId) (ho : o.op = .call { callee := .builtin .append, args := #[s, x], argTypes := #[t, t] }) (ht : P.underlying t = some (.slice e))
    (hinfo : (P.info? e).map (fun i => (i.zero.map (·.cells.size), i.size, i.bytes)) = some (some n, n, bytes)) (hn0 : 0 < n) (hc : ∀ x, (c x).length = n) (h1 : ∀ x, ∀ u ∈ c x, u.oneCell' = true)
    (lo : Nat) (l ys : List α) (v : Value) (hs : a.eval s = v) (hown : Own n c lo e w0 v l) (m : Nat) (hm0 : m = ys.length) (hx : a.eval x = .slice (some ⟨w0.heap.size, 0, none⟩) m m)
    (hb : (l.length + m) * bytes ≤ 140737488355328) (hm : l.length + m ≤ 9223372036854775807) (hlo : lo ≤ w0.heap.size)
    (h : ∀ v' w', Own n c lo e w' v' (l ++ ys) → (w0.alloc (.cells (ys.flatMap c).toArray e)).grownBy w' v.ownBlock → K (a.put o.dst v') w') : o.wp P a (w0.alloc (.cells (ys.flatMap c).toArray e)) K Q := by
  subst hm0
  obtain ⟨i, hi, hzz⟩ := Option.map_eq_some_iff.1 hinfo
  simp only [Prod.mk.injEq] at hzz
  obtain ⟨hz, hsz, hby⟩ := hzz
  obtain ⟨z, hz, hzs⟩ := Option.map_eq_some_iff.1 hz
  refine wp_append_own _ s x t ho lo e i z n bytes ht hi hz hsz hby hzs hn0 v l.length (l.flatMap c) hs (hown.alloc _) ⟨w0.heap.size, 0, none⟩ ys.length ys.length (ys.flatMap c) hx (flat_len hc ys) ?_ ?_ (by unfold maxLen; omega) hb (by simp; omega) ?_
  · intro j u hu
    have hadd : (⟨w0.heap.size, 0, none⟩ : Addr).add j = ⟨w0.heap.size, j, none⟩ := by unfold Addr.add; split <;> simp_all
    rw [hadd, World.cell?_alloc_mark]
    simpa using hu
  · intro u hu
    obtain ⟨y, _, hy⟩ := List.mem_flatMap.1 hu
    exact h1 y u hy
  · intro v' w' h2 h3 _
    refine h v' w' ?_ h3
    show w'.ownsRow lo e n v' (l ++ ys).length ((l ++ ys).flatMap c)
    rw [List.length_append, List.flatMap_append]
    exact h2

theorem step_apps {w : World} {ops : Array Oper} {K : Act → World → Prop} {Q : Exit → Act → World → Prop} {E : Prop} (hgd : o.guard = none) (s x : Operand) (t e : TypeId) (ho : o.op = .call { callee := .builtin .append, args := #[s, x], argTypes := #[t, t] }) (ht : P.underlying t = some (.slice e))
    (hinfo : (P.info? e).map (fun i => (i.zero.map (·.cells.size), i.size, i.bytes)) = some (some n, n, bytes)) (hn0 : 0 < n) (hc : ∀ x, (c x).length = n) (h1 : ∀ x, ∀ u ∈ c x, u.oneCell' = true)
    (lo : Nat) (l ys : List α) (v : Value) (hs : a.eval s = v) (w0 : World) (hw : w = w0.alloc (.cells (ys.flatMap c).toArray e)) (hown : Own n c lo e w0 v l) (m : Nat) (hm0 : m = ys.length) (hx : a.eval x = .slice (some ⟨w0.heap.size, 0, none⟩) m m)
    (hb : (l.length + m) * bytes ≤ 140737488355328) (hm : l.length + m ≤ 9223372036854775807) (hlo : lo ≤ w0.heap.size)
    (h : ∀ v' w', Own n c lo e w' v' (l ++ ys) → (w0.alloc (.cells (ys.flatMap c).toArray e)).grownBy w' v.ownBlock → K (a.put o.dst v') w') :
    if Region.wanted o (yielded ops a.tmps) = true then o.wp P a w K Q else E := by
  rw [if_pos (by simp [Region.wanted, hgd])]
  subst hw
  exact wp_apps s x t e ho ht hinfo hn0 hc h1 lo l ys v hs hown m hm0 hx hb hm hlo h

theorem wpList_apps {w : World} {ops : Array Oper} {rest : List Oper} {Q : Exit → Act → World → Prop} (hgd : o.guard = none) (s x : Operand) (t e : TypeId) (ho : o.op = .call { callee := .builtin .append, args := #[s, x], argTypes := #[t, t] }) (ht : P.underlying t = some (.slice e))
    (hinfo : (P.info? e).map (fun i => (i.zero.map (·.cells.size), i.size, i.bytes)) = some (some n, n, bytes)) (hn0 : 0 < n) (hc : ∀ x, (c x).length = n) (h1 : ∀ x, ∀ u ∈ c x, u.oneCell' = true)
    (lo : Nat) (l ys : List α) (v : Value) (hs : a.eval s = v) (w0 : World) (hw : w = w0.alloc (.cells (ys.flatMap c).toArray e)) (hown : Own n c lo e w0 v l) (m : Nat) (hm0 : m = ys.length) (hx : a.eval x = .slice (some ⟨w0.heap.size, 0, none⟩) m m)
    (hb : (l.length + m) * bytes ≤ 140737488355328) (hm : l.length + m ≤ 9223372036854775807) (hlo : lo ≤ w0.heap.size)
    (h : ∀ v' w', Own n c lo e w' v' (l ++ ys) → (w0.alloc (.cells (ys.flatMap c).toArray e)).grownBy w' v.ownBlock → wpList P ops Q rest (a.put o.dst v') w') :
    wpList P ops Q (o :: rest) a w := by
  subst hw
  exact wpList_plain hgd fun _ hK => wp_apps s x t e ho ht hinfo hn0 hc h1 lo l ys v hs hown m hm0 hx hb hm hlo fun v' w' h2 h3 => hK _ _ (h v' w' h2 h3)
end

/-- Bytes of the call's own as a string. -/
theorem bytes_strS {lo hi : Nat} {w : World} {v : Value} {l : List UInt8} (h : Sl 1 byteC lo hi w v l) : (convert 22 9 v).run Tryd.prog w = .ok (.string ⟨l.toArray⟩) w := by
  obtain ⟨a, cap, rfl, hcap, hh⟩ := h
  have hgo : ∀ ad : Addr, (∀ j (hj : j < l.length), w.cell? (ad.add j) = some (.int .u8 (l[j].toNat : Int))) → (convert 22 9 (.slice (some ad) l.length cap)).run Tryd.prog w = .ok (.string ⟨l.toArray⟩) w :=
    fun ad hc => run_convert_bytes_back (P := Tryd.prog) w 22 9 5 ad cap l Tryd.underlying22 Tryd.underlying5 Tryd.underlying9 hc
  by_cases h0 : 0 < l.length
  · obtain ⟨b, off, rfl, _, _, hc⟩ := hh h0
    refine hgo _ fun j hj => ?_
    have := hc j hj 0 _ rfl
    rw [Nat.mul_one, Nat.add_zero] at this
    have e : (⟨b, off, none⟩ : Addr).add j = ⟨b, off + j, none⟩ := by unfold Addr.add; split <;> simp_all
    rw [e]; exact this
  · have hl : l = [] := List.length_eq_zero_iff.1 (by omega)
    subst hl
    cases a with
    | some ad => exact hgo ad fun j hj => absurd hj (by simp)
    | none => rw [run_convert_bytes_string w 22 9 5 none _ cap Tryd.underlying22 Tryd.underlying5 Tryd.underlying9]; rfl
theorem bytes_str {lo : Nat} {w : World} {v : Value} {l : List UInt8} (h : Own 1 byteC lo 5 w v l) : (convert 22 9 v).run Tryd.prog w = .ok (.string ⟨l.toArray⟩) w := bytes_strS (h.slw byteC_len).1
end Go.Proofs.YtpabbehpkokhbaaDoor
