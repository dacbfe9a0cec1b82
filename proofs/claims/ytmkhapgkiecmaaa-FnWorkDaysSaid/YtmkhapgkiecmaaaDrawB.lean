/- The draws of the checks, one field bent. -/
import Derived.Test.YtmkhapgkiecmaaaDrawC
import Derived.Test.YtmkhapgkiecmaaaBytes
namespace Go.Proofs.Ytmkhapgkiecmaaa
open Go.RowKit
theorem Slw.modC {α : Type} {n : Nat} {c : α → List Value} {lo hi b : Nat} {w w' : World} {v : Value} {l : List α} (h : Slw n c lo hi w v l) (hm : Mod b (b + 1) w w') (hhi : hi ≤ w.heap.size) (hb : b + 1 ≤ lo) : Slw n c lo hi w' v l := h.keep (hm.same hhi (.inr hb))
theorem strC_lenB (s : ByteArray) : (strC s).length = 1 := rfl
theorem slw_raw {α : Type} {n : Nat} {c : α → List Value} {lo hi : Nat} {w : World} {gb go len cap : Nat} {l : List α} (h : Slw n c lo hi w (.slice (some ⟨gb, go, none⟩) len cap) l) (hn : ∀ x, (c x).length = n) (h0 : 0 < l.length) : lo ≤ gb ∧ gb < hi ∧ (∀ j, w.frozen? ⟨gb, j, none⟩ = false) := by
  obtain ⟨_, _, _, hv, _, hr⟩ := Raw.of h hn h0
  cases hv
  exact ⟨hr.lo, hr.hi, hr.free⟩
theorem slw_val {α : Type} {n : Nat} {c : α → List Value} {lo hi : Nat} {w : World} {v : Value} {l : List α} (h : Slw n c lo hi w v l) : ∃ a cap, v = .slice a l.length cap := by
  obtain ⟨⟨a, cap, hv, _⟩, _⟩ := h
  exact ⟨a, cap, hv⟩
def BentOut (b A B : Nat) (w : World) (e : Ending) (w' : World) : Prop :=
  ∃ v l, e = .returned v ∧ Slw 4 Chk.cells B w'.heap.size w' v l ∧ (∀ f ∈ l, f.wf) ∧ l.length ≤ 40 ∧ Src b (A + 200) w' ∧ Mod b (b + 1) w w'
set_option maxRecDepth 100000 in
set_option maxHeartbeats 8000000 in
theorem draw_Bent (b A : Nat) (w : World) (h : Src b A w) (hA : A ≤ 90000) : Calls Try.prog 85 #[.pointer (some ⟨b, 0, none⟩)] w (BentOut b A w.heap.size w) := by
  have hp := Lib.hid (fun A w' h hA n hn => src_pick b A n w' h hA hn)
  have ho := Lib.hid (fun A w' h hA n hn => src_one b A n w' h hA hn)
  have hbl := h.lt
  have hd := Lib.hid (draw_Checks b A w h (by omega))
  clear h
  go_enter Try.func85, Try.ntmps85
  go_wp2_with fail
  refine hd.out.mono ?_
  rintro e w2 ⟨v, acc, rfl, hsl2, hwf, hka, hs2, hm2⟩
  have hS2 := Lib.hid hs2
  have hM2 := Lib.hid hm2
  have hO2 := Lib.hid hsl2
  have hwf := Lib.hid hwf
  clear hs2 hm2 hd hsl2
  go_wp2_with fail
  refine (ho.out _ _ hS2.out (by omega) 24 (by omega)).mono ?_
  rintro e w10 ⟨yes, rfl, hs10, hm10⟩
  have hS10 := Lib.hid hs10
  have hM10 := Lib.hid (hM2.out.trans hm10)
  have hO10 := Lib.hid ((hO2.out.modC hm10 (Nat.le_refl _) (by omega)).fresh hm10.size)
  have hsz10 := hM10.out.size
  have hlt10 := hs10.lt
  clear hs10 hm10 hS2 hM2 hO2
  cases yes with
  | true =>
        have hbe := (Below.refl w10.heap.size w10).alloc (Nat.le_refl _) (.cells #[] 106 (0, 0))
        have hS11 := Lib.hid (hS10.out.below hbe)
        have hM11 := Lib.hid (hM10.out.then hbe)
        have hO11 : Hid (Own 4 Chk.cells w.heap.size 106 (w10.alloc (.cells #[] 106 (0, 0))) (.slice (some ⟨w10.heap.size, 0, none⟩) 0 0) ([] : List Chk)) := Lib.hid (own_empty w10 106 w.heap.size hsz10)
        clear hO10 hM10 hS10 hbe hwf hka
        go_wp2_with fail
        refine (hp.out _ _ hS11.out (by omega) 2 (by omega)).mono ?_
        rintro e w12 ⟨k6, rfl, ⟨_, hk6⟩, hs12, hm12⟩
        have hk6 := hk6 (by omega)
        have hS12 := Lib.hid hs12
        have hM12 := Lib.hid (hM11.out.trans hm12)
        have hO12 := Lib.hid (hO11.out.mod hm12 (by omega))
        clear hs12 hm12 hS11 hM11 hO11
        go_wp2_with fail
        go_loopw [3, 4] (fun o i wr => ∃ (k : Nat) (acc : List Chk), i = .int .i64 k ∧ acc.length + k ≤ 31 ∧ Hid (∀ f ∈ acc, f.wf) ∧ Hid (Own 4 Chk.cells w.heap.size 106 wr o acc) ∧ Hid (Src b (A + 110) wr) ∧ Hid (Mod b (b + 1) w wr)) (fun _ i _ => (intOf i).toNat)
        case atStart => exact ⟨30 + k6, [], congrArg (Value.int .i64) (by omega), by simp; omega, Lib.hid (by simp), hO12, Lib.hid (hS12.out.mono (by omega)), hM12⟩
        case round =>
          clear hO12 hS12 hM12
          obtain ⟨k, acc, rfl, hlen, hwf, hO, hS, hM⟩ := hrel
          have hszr := hM.out.size
          have hltr := hS.out.lt
          by_cases hk : 0 < k
          · obtain ⟨ga, gc, rfl⟩ := own_valF hO.out
            obtain ⟨na, hna⟩ : ∃ na, acc.length = na := ⟨_, rfl⟩
            rw [hna] at hlen hO ⊢
            have Hna := Lib.hid hna
            clear hna
            have hn31 : na ≤ 31 := by omega
            obtain ⟨sx, hsx, hcv⟩ : ∃ sx : ByteArray, sx.size = 2 ∧ (convert 22 9 (.slice (some ⟨wr.heap.size, 0, none⟩) 2 2)).run Try.prog (wr.alloc (.cells #[.int .u8 (97 + (na : Int) / 26), .int .u8 (97 + (na : Int) % 26)] 5 (0, 0))) = .ok (.string sx) (wr.alloc (.cells #[.int .u8 (97 + (na : Int) / 26), .int .u8 (97 + (na : Int) % 26)] 5 (0, 0))) := by
              refine ⟨⟨#[UInt8.ofNat (97 + na / 26), UInt8.ofNat (97 + na % 26)]⟩, rfl, ?_⟩
              refine bytes_strS (lo := wr.heap.size) (hi := wr.heap.size + 1) (l := [UInt8.ofNat (97 + na / 26), UInt8.ofNat (97 + na % 26)]) (sl_lit byteC_len _ wr 5 ?_ rfl (by simp))
              simp only [List.flatMap_cons, List.flatMap_nil, byteC, UInt8.toNat_ofNat', List.append_nil, List.cons_append, List.nil_append]
              rw [show (97 + na / 26) % 2 ^ 8 = 97 + na / 26 by omega, show (97 + na % 26) % 2 ^ 8 = 97 + na % 26 by omega]
              simp
            have hwf9 := Lib.hid (wfs_push (x := ⟨0, ⟨#[99]⟩ ++ sx, 30 + (na : Int), (na : Int)⟩) hwf.out (wfs_mk ⟨⟨by omega, by omega⟩, by rw [ByteArray.size_append, hsx]; decide, ⟨by omega, by omega⟩, ⟨by omega, by omega⟩⟩))
            have hO := Lib.hid (show Own 4 Chk.cells w.heap.size 106 wr (.slice ga na gc) acc from hO.out)
            go_wp2_with (at_builtin; refine wpList_app1 (c := Chk.cells) (bytes := 40) rfl _ _ 24 106 rfl Try.underlying24 info_impl_Check (by omega) Chk.len Chk.one w.heap.size acc ⟨0, ⟨#[99]⟩ ++ sx, 30 + (na : Int), (na : Int)⟩ _ rfl (wr.alloc (.cells #[.int .u8 (97 + (na : Int) / 26), .int .u8 (97 + (na : Int) % 26)] 5 (0, 0))) rfl (hO.out.alloc _) (by show Value.slice (some ⟨wr.heap.size + 1, 0, none⟩) 1 1 = Value.slice (some ⟨(wr.alloc _).heap.size, 0, none⟩) 1 1; rw [World.size_alloc]) (by rw [Hna.out]; omega) (by rw [Hna.out]; omega) (by simp; omega) ?_; intro v9 w9 hown9 hg9; have hB9 := (hO.out.alloc (.cells #[.int .u8 (97 + (na : Int) / 26), .int .u8 (97 + (na : Int) % 26)] 5 (0, 0))).app ((Below.refl w.heap.size wr).alloc hszr _) (Nat.le_refl _) (by simp; omega) hg9; have hO9 := Lib.hid hown9; have hS9 := Lib.hid (hS.out.lo hB9 (by omega)); have hM9 := Lib.hid (hM.out.on hB9); clear hown9 hg9 hB9)
            go_roundw
            case rel => exact ⟨k - 1, acc ++ [⟨0, ⟨#[99]⟩ ++ sx, 30 + (na : Int), (na : Int)⟩], congrArg (Value.int .i64) (by omega), by rw [List.length_append, Hna.out, List.length_singleton]; omega, hwf9, hO9, hS9, hM9⟩
            case measure => simp [intOf]; omega
          · have hka : acc.length ≤ 31 := by omega
            have hOs := Lib.hid (hO.out.slw Chk.len)
            clear hO
            obtain ⟨ga, gc, rfl⟩ := slw_val hOs.out
            have hszW := hM.out.size
            have hhi : (wr).heap.size ≤ (wr).heap.size := Nat.le_refl _
            by_cases h0 : 0 < acc.length
            · obtain ⟨gb, go, rfl⟩ := Sl.addr hOs.out.1 h0
              have hgb := (slw_raw hOs.out Chk.len h0).1
              obtain ⟨na, hna⟩ : ∃ na, acc.length = na := ⟨_, rfl⟩
              rw [hna] at hka hOs ⊢
              have Hna := Lib.hid hna
              have h0n : 0 < na := by omega
              have h0h := Lib.hid h0
              have hd0 : decide ((na : Int) = 0) = false := decide_eq_false (by omega)
              have hd1 : ((na : Int) == 0) = false := by simp; omega
              clear hna h0
              go_wp2_with fail
              refine (hp.out _ _ hS.out (by omega) na (by omega)).mono ?_
              rintro e w21 ⟨j, rfl, ⟨_, hj⟩, hs21, hm21⟩
              have hj : j < na := by have := hj (by omega); omega
              have hS21 := Lib.hid hs21
              have hM21 := Lib.hid (hM.out.trans hm21)
              have hO21 := Lib.hid (hOs.out.modC hm21 hhi (by omega))
              have hhi := Nat.le_trans hhi hm21.size
              clear hs21 hm21 hS hOs hM
              go_wp2_with fail
              refine (hp.out _ _ hS21.out (by omega) 20 (by omega)).mono ?_
              rintro e w22 ⟨q, rfl, ⟨_, hq⟩, hs22, hm22⟩
              have hlt22 := hs22.lt
              have hS22 := Lib.hid hs22
              have hM22 := Lib.hid (hM21.out.trans hm22)
              have hO22 := Lib.hid (hO21.out.modC hm22 hhi (by omega))
              have hhi := Nat.le_trans hhi hm22.size
              have hjh := Lib.hid (show j < acc.length by rw [Hna.out]; exact hj)
              have hwxx := hwf.out _ (List.getElem_mem hjh.out)
              clear hs22 hm22 hS21 hO21 hM21
              rcases (show q = 0 ∨ q = 1 ∨ q = 2 ∨ q = 3 ∨ 4 ≤ q by omega) with rfl | rfl | rfl | rfl | hq4
              · have hwx := Lib.hid (fun nv (h : I64 nv) => show Chk.wf { acc[j]'hjh.out with crane := nv } from ⟨h, hwxx.2.1, hwxx.2.2.1, hwxx.2.2.2⟩)
                clear hwxx
                have hba := (Below.refl w22.heap.size w22).alloc (Nat.le_refl _) (.cells #[.int .i64 (-1), .int .i64 0, .int .i64 5, .int .i64 6] 2)
                have hal := Lib.hid (src_among b _ (.slice (some ⟨w22.heap.size, 0, none⟩) 4 4) [-1, 0, 5, 6] _ _ _ (hS22.out.below hba) (by omega) (by simp) (sl_lit intCells_len _ w22 2 (cs := #[.int .i64 (-1), .int .i64 0, .int .i64 5, .int .i64 6]) rfl (m := 4) rfl (by simp)) (.inr hlt22) (by simp))
                have hM22b := Lib.hid (hM22.out.then hba)
                have hO22b := Lib.hid (hO22.out.keep (Same.of_below hba hhi))
                clear hba hM22 hO22 hS22
                go_wp2_with fail
                refine hal.out.mono ?_
                rintro e w23 ⟨nv, hnv, rfl, hs23, hm23⟩
                have hnv2 : I64 nv := by
                  simp at hnv
                  first | (unfold I64; omega) | (rcases hnv with rfl | rfl | rfl <;> decide)
                have hS23 := Lib.hid hs23
                have hM23 := Lib.hid (hM22b.out.trans hm23)
                have hO23 := Lib.hid (hO22b.out.modC hm23 (by simp; omega) (by omega))
                have hhi := Nat.le_trans hhi (Nat.le_trans (by simp) hm23.size)
                have hfz := (slw_raw hO23.out Chk.len h0h.out).2.2
                obtain ⟨c0, c1, c2, c3⟩ := Chks.at hO23.out.1.get hjh.out
                clear hs23 hm23 hnv hal hM22b hO22b
                go_wp2
                go_ret
                exact ⟨_, _, rfl, (hO23.out.store1 (k := j) (j := 0) (x := { acc[j]'hjh.out with crane := nv }) (u := .int .i64 nv) Chk.len hjh.out (by omega) (by simp [Chk.cells]) (by simp)).fresh (by simp; omega), wfs_set hwf.out (hwx.out _ hnv2), by rw [List.length_set, Hna.out]; omega, (hS23.out.mono (by omega)).lo ((Below.refl (b + 1) w23).setCell (show b + 1 ≤ gb by omega) (.int .i64 nv)) (Nat.le_refl _), hM23.out.on ((Below.refl w.heap.size w23).setCell (show w.heap.size ≤ gb by omega) (.int .i64 nv))⟩
              · have hwx := Lib.hid (fun nv (h : nv.size ≤ maxLen) => show Chk.wf { acc[j]'hjh.out with name := nv } from ⟨hwxx.1, h, hwxx.2.2.1, hwxx.2.2.2⟩)
                clear hwxx
                have hba := (Below.refl w22.heap.size w22).alloc (Nat.le_refl _) (.cells #[.string ⟨#[]⟩, .string ⟨#[82, 111, 112, 101, 115]⟩, .string ⟨#[114, 111, 112, 101, 115]⟩] 9)
                have hal := Lib.hid (src_text b _ (.slice (some ⟨w22.heap.size, 0, none⟩) 3 3) [⟨#[]⟩, ⟨#[82, 111, 112, 101, 115]⟩, ⟨#[114, 111, 112, 101, 115]⟩] _ _ _ (hS22.out.below hba) (by omega) (by simp) (sl_lit strC_lenB _ w22 9 (cs := #[.string ⟨#[]⟩, .string ⟨#[82, 111, 112, 101, 115]⟩, .string ⟨#[114, 111, 112, 101, 115]⟩]) rfl (m := 3) rfl (by simp)) (.inr hlt22) (by simp))
                have hM22b := Lib.hid (hM22.out.then hba)
                have hO22b := Lib.hid (hO22.out.keep (Same.of_below hba hhi))
                clear hba hM22 hO22 hS22
                go_wp2_with fail
                refine hal.out.mono ?_
                rintro e w23 ⟨nv, hnv, rfl, hs23, hm23⟩
                have hnv2 : nv.size ≤ maxLen := by
                  simp at hnv
                  first | (unfold I64; omega) | (rcases hnv with rfl | rfl | rfl <;> decide)
                have hS23 := Lib.hid hs23
                have hM23 := Lib.hid (hM22b.out.trans hm23)
                have hO23 := Lib.hid (hO22b.out.modC hm23 (by simp; omega) (by omega))
                have hhi := Nat.le_trans hhi (Nat.le_trans (by simp) hm23.size)
                have hfz := (slw_raw hO23.out Chk.len h0h.out).2.2
                obtain ⟨c0, c1, c2, c3⟩ := Chks.at hO23.out.1.get hjh.out
                clear hs23 hm23 hnv hal hM22b hO22b
                go_wp2
                go_ret
                exact ⟨_, _, rfl, (hO23.out.store1 (k := j) (j := 1) (x := { acc[j]'hjh.out with name := nv }) (u := .string nv) Chk.len hjh.out (by omega) (by simp [Chk.cells]) (by simp)).fresh (by simp; omega), wfs_set hwf.out (hwx.out _ hnv2), by rw [List.length_set, Hna.out]; omega, (hS23.out.mono (by omega)).lo ((Below.refl (b + 1) w23).setCell (show b + 1 ≤ gb by omega) (.string nv)) (Nat.le_refl _), hM23.out.on ((Below.refl w.heap.size w23).setCell (show w.heap.size ≤ gb by omega) (.string nv))⟩
              · have hwx := Lib.hid (fun nv (h : I64 nv) => show Chk.wf { acc[j]'hjh.out with every := nv } from ⟨hwxx.1, hwxx.2.1, h, hwxx.2.2.2⟩)
                clear hwxx
                have hba := (Below.refl w22.heap.size w22).alloc (Nat.le_refl _) (.cells #[.int .i64 0, .int .i64 1, .int .i64 1000, .int .i64 1001, .int .i64 (-9223372036854775808)] 2)
                have hal := Lib.hid (src_among b _ (.slice (some ⟨w22.heap.size, 0, none⟩) 5 5) [0, 1, 1000, 1001, -9223372036854775808] _ _ _ (hS22.out.below hba) (by omega) (by simp) (sl_lit intCells_len _ w22 2 (cs := #[.int .i64 0, .int .i64 1, .int .i64 1000, .int .i64 1001, .int .i64 (-9223372036854775808)]) rfl (m := 5) rfl (by simp)) (.inr hlt22) (by simp))
                have hM22b := Lib.hid (hM22.out.then hba)
                have hO22b := Lib.hid (hO22.out.keep (Same.of_below hba hhi))
                clear hba hM22 hO22 hS22
                go_wp2_with fail
                refine hal.out.mono ?_
                rintro e w23 ⟨nv, hnv, rfl, hs23, hm23⟩
                have hnv2 : I64 nv := by
                  simp at hnv
                  first | (unfold I64; omega) | (rcases hnv with rfl | rfl | rfl <;> decide)
                have hS23 := Lib.hid hs23
                have hM23 := Lib.hid (hM22b.out.trans hm23)
                have hO23 := Lib.hid (hO22b.out.modC hm23 (by simp; omega) (by omega))
                have hhi := Nat.le_trans hhi (Nat.le_trans (by simp) hm23.size)
                have hfz := (slw_raw hO23.out Chk.len h0h.out).2.2
                obtain ⟨c0, c1, c2, c3⟩ := Chks.at hO23.out.1.get hjh.out
                clear hs23 hm23 hnv hal hM22b hO22b
                go_wp2
                go_ret
                exact ⟨_, _, rfl, (hO23.out.store1 (k := j) (j := 2) (x := { acc[j]'hjh.out with every := nv }) (u := .int .i64 nv) Chk.len hjh.out (by omega) (by simp [Chk.cells]) (by simp)).fresh (by simp; omega), wfs_set hwf.out (hwx.out _ hnv2), by rw [List.length_set, Hna.out]; omega, (hS23.out.mono (by omega)).lo ((Below.refl (b + 1) w23).setCell (show b + 1 ≤ gb by omega) (.int .i64 nv)) (Nat.le_refl _), hM23.out.on ((Below.refl w.heap.size w23).setCell (show w.heap.size ≤ gb by omega) (.int .i64 nv))⟩
              · have hwx := Lib.hid (fun nv (h : I64 nv) => show Chk.wf { acc[j]'hjh.out with last := nv } from ⟨hwxx.1, hwxx.2.1, hwxx.2.2.1, h⟩)
                clear hwxx
                have hba := (Below.refl w22.heap.size w22).alloc (Nat.le_refl _) (.cells #[.int .i64 (-1), .int .i64 0, .int .i64 100000, .int .i64 100001] 2)
                have hal := Lib.hid (src_among b _ (.slice (some ⟨w22.heap.size, 0, none⟩) 4 4) [-1, 0, 100000, 100001] _ _ _ (hS22.out.below hba) (by omega) (by simp) (sl_lit intCells_len _ w22 2 (cs := #[.int .i64 (-1), .int .i64 0, .int .i64 100000, .int .i64 100001]) rfl (m := 4) rfl (by simp)) (.inr hlt22) (by simp))
                have hM22b := Lib.hid (hM22.out.then hba)
                have hO22b := Lib.hid (hO22.out.keep (Same.of_below hba hhi))
                clear hba hM22 hO22 hS22
                go_wp2_with fail
                refine hal.out.mono ?_
                rintro e w23 ⟨nv, hnv, rfl, hs23, hm23⟩
                have hnv2 : I64 nv := by
                  simp at hnv
                  first | (unfold I64; omega) | (rcases hnv with rfl | rfl | rfl <;> decide)
                have hS23 := Lib.hid hs23
                have hM23 := Lib.hid (hM22b.out.trans hm23)
                have hO23 := Lib.hid (hO22b.out.modC hm23 (by simp; omega) (by omega))
                have hhi := Nat.le_trans hhi (Nat.le_trans (by simp) hm23.size)
                have hfz := (slw_raw hO23.out Chk.len h0h.out).2.2
                obtain ⟨c0, c1, c2, c3⟩ := Chks.at hO23.out.1.get hjh.out
                clear hs23 hm23 hnv hal hM22b hO22b
                go_wp2
                go_ret
                exact ⟨_, _, rfl, (hO23.out.store1 (k := j) (j := 3) (x := { acc[j]'hjh.out with last := nv }) (u := .int .i64 nv) Chk.len hjh.out (by omega) (by simp [Chk.cells]) (by simp)).fresh (by simp; omega), wfs_set hwf.out (hwx.out _ hnv2), by rw [List.length_set, Hna.out]; omega, (hS23.out.mono (by omega)).lo ((Below.refl (b + 1) w23).setCell (show b + 1 ≤ gb by omega) (.int .i64 nv)) (Nat.le_refl _), hM23.out.on ((Below.refl w.heap.size w23).setCell (show w.heap.size ≤ gb by omega) (.int .i64 nv))⟩
              · have hd2 : decide ((q : Int) = 0) = false := decide_eq_false (by omega)
                have hd3 : decide ((q : Int) = 1) = false := decide_eq_false (by omega)
                have hd4 : decide ((q : Int) = 2) = false := decide_eq_false (by omega)
                have hd5 : decide ((q : Int) = 3) = false := decide_eq_false (by omega)
                have hd6 : ((q : Int) == 0) = false := by simp; omega
                have hd7 : ((q : Int) == 1) = false := by simp; omega
                have hd8 : ((q : Int) == 2) = false := by simp; omega
                have hd9 : ((q : Int) == 3) = false := by simp; omega
                clear hq hq4
                go_wp2
                go_ret
                exact ⟨_, _, rfl, hO22.out.fresh hhi, hwf.out, by rw [Hna.out]; omega, hS22.out.mono (by omega), hM22.out⟩
            · have he : acc = [] := List.eq_nil_of_length_eq_zero (by omega)
              subst he
              go_wp2
              go_ret
              exact ⟨_, _, rfl, hOs.out, hwf.out, by simp, hS.out.mono (by omega), hM.out⟩
  | false =>
            obtain ⟨ga, gc, rfl⟩ := slw_val hO10.out
            have hszW := hM10.out.size
            have hhi : (w10).heap.size ≤ (w10).heap.size := Nat.le_refl _
            by_cases h0 : 0 < acc.length
            · obtain ⟨gb, go, rfl⟩ := Sl.addr hO10.out.1 h0
              have hgb := (slw_raw hO10.out Chk.len h0).1
              obtain ⟨na, hna⟩ : ∃ na, acc.length = na := ⟨_, rfl⟩
              rw [hna] at hka hO10 ⊢
              have Hna := Lib.hid hna
              have h0n : 0 < na := by omega
              have h0h := Lib.hid h0
              have hd0 : decide ((na : Int) = 0) = false := decide_eq_false (by omega)
              have hd1 : ((na : Int) == 0) = false := by simp; omega
              clear hna h0
              go_wp2_with fail
              refine (hp.out _ _ hS10.out (by omega) na (by omega)).mono ?_
              rintro e w21 ⟨j, rfl, ⟨_, hj⟩, hs21, hm21⟩
              have hj : j < na := by have := hj (by omega); omega
              have hS21 := Lib.hid hs21
              have hM21 := Lib.hid (hM10.out.trans hm21)
              have hO21 := Lib.hid (hO10.out.modC hm21 hhi (by omega))
              have hhi := Nat.le_trans hhi hm21.size
              clear hs21 hm21 hS10 hO10 hM10
              go_wp2_with fail
              refine (hp.out _ _ hS21.out (by omega) 20 (by omega)).mono ?_
              rintro e w22 ⟨q, rfl, ⟨_, hq⟩, hs22, hm22⟩
              have hlt22 := hs22.lt
              have hS22 := Lib.hid hs22
              have hM22 := Lib.hid (hM21.out.trans hm22)
              have hO22 := Lib.hid (hO21.out.modC hm22 hhi (by omega))
              have hhi := Nat.le_trans hhi hm22.size
              have hjh := Lib.hid (show j < acc.length by rw [Hna.out]; exact hj)
              have hwxx := hwf.out _ (List.getElem_mem hjh.out)
              clear hs22 hm22 hS21 hO21 hM21
              rcases (show q = 0 ∨ q = 1 ∨ q = 2 ∨ q = 3 ∨ 4 ≤ q by omega) with rfl | rfl | rfl | rfl | hq4
              · have hwx := Lib.hid (fun nv (h : I64 nv) => show Chk.wf { acc[j]'hjh.out with crane := nv } from ⟨h, hwxx.2.1, hwxx.2.2.1, hwxx.2.2.2⟩)
                clear hwxx
                have hba := (Below.refl w22.heap.size w22).alloc (Nat.le_refl _) (.cells #[.int .i64 (-1), .int .i64 0, .int .i64 5, .int .i64 6] 2)
                have hal := Lib.hid (src_among b _ (.slice (some ⟨w22.heap.size, 0, none⟩) 4 4) [-1, 0, 5, 6] _ _ _ (hS22.out.below hba) (by omega) (by simp) (sl_lit intCells_len _ w22 2 (cs := #[.int .i64 (-1), .int .i64 0, .int .i64 5, .int .i64 6]) rfl (m := 4) rfl (by simp)) (.inr hlt22) (by simp))
                have hM22b := Lib.hid (hM22.out.then hba)
                have hO22b := Lib.hid (hO22.out.keep (Same.of_below hba hhi))
                clear hba hM22 hO22 hS22
                go_wp2_with fail
                refine hal.out.mono ?_
                rintro e w23 ⟨nv, hnv, rfl, hs23, hm23⟩
                have hnv2 : I64 nv := by
                  simp at hnv
                  first | (unfold I64; omega) | (rcases hnv with rfl | rfl | rfl <;> decide)
                have hS23 := Lib.hid hs23
                have hM23 := Lib.hid (hM22b.out.trans hm23)
                have hO23 := Lib.hid (hO22b.out.modC hm23 (by simp; omega) (by omega))
                have hhi := Nat.le_trans hhi (Nat.le_trans (by simp) hm23.size)
                have hfz := (slw_raw hO23.out Chk.len h0h.out).2.2
                obtain ⟨c0, c1, c2, c3⟩ := Chks.at hO23.out.1.get hjh.out
                clear hs23 hm23 hnv hal hM22b hO22b
                go_wp2
                go_ret
                exact ⟨_, _, rfl, (hO23.out.store1 (k := j) (j := 0) (x := { acc[j]'hjh.out with crane := nv }) (u := .int .i64 nv) Chk.len hjh.out (by omega) (by simp [Chk.cells]) (by simp)).fresh (by simp; omega), wfs_set hwf.out (hwx.out _ hnv2), by rw [List.length_set, Hna.out]; omega, (hS23.out.mono (by omega)).lo ((Below.refl (b + 1) w23).setCell (show b + 1 ≤ gb by omega) (.int .i64 nv)) (Nat.le_refl _), hM23.out.on ((Below.refl w.heap.size w23).setCell (show w.heap.size ≤ gb by omega) (.int .i64 nv))⟩
              · have hwx := Lib.hid (fun nv (h : nv.size ≤ maxLen) => show Chk.wf { acc[j]'hjh.out with name := nv } from ⟨hwxx.1, h, hwxx.2.2.1, hwxx.2.2.2⟩)
                clear hwxx
                have hba := (Below.refl w22.heap.size w22).alloc (Nat.le_refl _) (.cells #[.string ⟨#[]⟩, .string ⟨#[82, 111, 112, 101, 115]⟩, .string ⟨#[114, 111, 112, 101, 115]⟩] 9)
                have hal := Lib.hid (src_text b _ (.slice (some ⟨w22.heap.size, 0, none⟩) 3 3) [⟨#[]⟩, ⟨#[82, 111, 112, 101, 115]⟩, ⟨#[114, 111, 112, 101, 115]⟩] _ _ _ (hS22.out.below hba) (by omega) (by simp) (sl_lit strC_lenB _ w22 9 (cs := #[.string ⟨#[]⟩, .string ⟨#[82, 111, 112, 101, 115]⟩, .string ⟨#[114, 111, 112, 101, 115]⟩]) rfl (m := 3) rfl (by simp)) (.inr hlt22) (by simp))
                have hM22b := Lib.hid (hM22.out.then hba)
                have hO22b := Lib.hid (hO22.out.keep (Same.of_below hba hhi))
                clear hba hM22 hO22 hS22
                go_wp2_with fail
                refine hal.out.mono ?_
                rintro e w23 ⟨nv, hnv, rfl, hs23, hm23⟩
                have hnv2 : nv.size ≤ maxLen := by
                  simp at hnv
                  first | (unfold I64; omega) | (rcases hnv with rfl | rfl | rfl <;> decide)
                have hS23 := Lib.hid hs23
                have hM23 := Lib.hid (hM22b.out.trans hm23)
                have hO23 := Lib.hid (hO22b.out.modC hm23 (by simp; omega) (by omega))
                have hhi := Nat.le_trans hhi (Nat.le_trans (by simp) hm23.size)
                have hfz := (slw_raw hO23.out Chk.len h0h.out).2.2
                obtain ⟨c0, c1, c2, c3⟩ := Chks.at hO23.out.1.get hjh.out
                clear hs23 hm23 hnv hal hM22b hO22b
                go_wp2
                go_ret
                exact ⟨_, _, rfl, (hO23.out.store1 (k := j) (j := 1) (x := { acc[j]'hjh.out with name := nv }) (u := .string nv) Chk.len hjh.out (by omega) (by simp [Chk.cells]) (by simp)).fresh (by simp; omega), wfs_set hwf.out (hwx.out _ hnv2), by rw [List.length_set, Hna.out]; omega, (hS23.out.mono (by omega)).lo ((Below.refl (b + 1) w23).setCell (show b + 1 ≤ gb by omega) (.string nv)) (Nat.le_refl _), hM23.out.on ((Below.refl w.heap.size w23).setCell (show w.heap.size ≤ gb by omega) (.string nv))⟩
              · have hwx := Lib.hid (fun nv (h : I64 nv) => show Chk.wf { acc[j]'hjh.out with every := nv } from ⟨hwxx.1, hwxx.2.1, h, hwxx.2.2.2⟩)
                clear hwxx
                have hba := (Below.refl w22.heap.size w22).alloc (Nat.le_refl _) (.cells #[.int .i64 0, .int .i64 1, .int .i64 1000, .int .i64 1001, .int .i64 (-9223372036854775808)] 2)
                have hal := Lib.hid (src_among b _ (.slice (some ⟨w22.heap.size, 0, none⟩) 5 5) [0, 1, 1000, 1001, -9223372036854775808] _ _ _ (hS22.out.below hba) (by omega) (by simp) (sl_lit intCells_len _ w22 2 (cs := #[.int .i64 0, .int .i64 1, .int .i64 1000, .int .i64 1001, .int .i64 (-9223372036854775808)]) rfl (m := 5) rfl (by simp)) (.inr hlt22) (by simp))
                have hM22b := Lib.hid (hM22.out.then hba)
                have hO22b := Lib.hid (hO22.out.keep (Same.of_below hba hhi))
                clear hba hM22 hO22 hS22
                go_wp2_with fail
                refine hal.out.mono ?_
                rintro e w23 ⟨nv, hnv, rfl, hs23, hm23⟩
                have hnv2 : I64 nv := by
                  simp at hnv
                  first | (unfold I64; omega) | (rcases hnv with rfl | rfl | rfl <;> decide)
                have hS23 := Lib.hid hs23
                have hM23 := Lib.hid (hM22b.out.trans hm23)
                have hO23 := Lib.hid (hO22b.out.modC hm23 (by simp; omega) (by omega))
                have hhi := Nat.le_trans hhi (Nat.le_trans (by simp) hm23.size)
                have hfz := (slw_raw hO23.out Chk.len h0h.out).2.2
                obtain ⟨c0, c1, c2, c3⟩ := Chks.at hO23.out.1.get hjh.out
                clear hs23 hm23 hnv hal hM22b hO22b
                go_wp2
                go_ret
                exact ⟨_, _, rfl, (hO23.out.store1 (k := j) (j := 2) (x := { acc[j]'hjh.out with every := nv }) (u := .int .i64 nv) Chk.len hjh.out (by omega) (by simp [Chk.cells]) (by simp)).fresh (by simp; omega), wfs_set hwf.out (hwx.out _ hnv2), by rw [List.length_set, Hna.out]; omega, (hS23.out.mono (by omega)).lo ((Below.refl (b + 1) w23).setCell (show b + 1 ≤ gb by omega) (.int .i64 nv)) (Nat.le_refl _), hM23.out.on ((Below.refl w.heap.size w23).setCell (show w.heap.size ≤ gb by omega) (.int .i64 nv))⟩
              · have hwx := Lib.hid (fun nv (h : I64 nv) => show Chk.wf { acc[j]'hjh.out with last := nv } from ⟨hwxx.1, hwxx.2.1, hwxx.2.2.1, h⟩)
                clear hwxx
                have hba := (Below.refl w22.heap.size w22).alloc (Nat.le_refl _) (.cells #[.int .i64 (-1), .int .i64 0, .int .i64 100000, .int .i64 100001] 2)
                have hal := Lib.hid (src_among b _ (.slice (some ⟨w22.heap.size, 0, none⟩) 4 4) [-1, 0, 100000, 100001] _ _ _ (hS22.out.below hba) (by omega) (by simp) (sl_lit intCells_len _ w22 2 (cs := #[.int .i64 (-1), .int .i64 0, .int .i64 100000, .int .i64 100001]) rfl (m := 4) rfl (by simp)) (.inr hlt22) (by simp))
                have hM22b := Lib.hid (hM22.out.then hba)
                have hO22b := Lib.hid (hO22.out.keep (Same.of_below hba hhi))
                clear hba hM22 hO22 hS22
                go_wp2_with fail
                refine hal.out.mono ?_
                rintro e w23 ⟨nv, hnv, rfl, hs23, hm23⟩
                have hnv2 : I64 nv := by
                  simp at hnv
                  first | (unfold I64; omega) | (rcases hnv with rfl | rfl | rfl <;> decide)
                have hS23 := Lib.hid hs23
                have hM23 := Lib.hid (hM22b.out.trans hm23)
                have hO23 := Lib.hid (hO22b.out.modC hm23 (by simp; omega) (by omega))
                have hhi := Nat.le_trans hhi (Nat.le_trans (by simp) hm23.size)
                have hfz := (slw_raw hO23.out Chk.len h0h.out).2.2
                obtain ⟨c0, c1, c2, c3⟩ := Chks.at hO23.out.1.get hjh.out
                clear hs23 hm23 hnv hal hM22b hO22b
                go_wp2
                go_ret
                exact ⟨_, _, rfl, (hO23.out.store1 (k := j) (j := 3) (x := { acc[j]'hjh.out with last := nv }) (u := .int .i64 nv) Chk.len hjh.out (by omega) (by simp [Chk.cells]) (by simp)).fresh (by simp; omega), wfs_set hwf.out (hwx.out _ hnv2), by rw [List.length_set, Hna.out]; omega, (hS23.out.mono (by omega)).lo ((Below.refl (b + 1) w23).setCell (show b + 1 ≤ gb by omega) (.int .i64 nv)) (Nat.le_refl _), hM23.out.on ((Below.refl w.heap.size w23).setCell (show w.heap.size ≤ gb by omega) (.int .i64 nv))⟩
              · have hd2 : decide ((q : Int) = 0) = false := decide_eq_false (by omega)
                have hd3 : decide ((q : Int) = 1) = false := decide_eq_false (by omega)
                have hd4 : decide ((q : Int) = 2) = false := decide_eq_false (by omega)
                have hd5 : decide ((q : Int) = 3) = false := decide_eq_false (by omega)
                have hd6 : ((q : Int) == 0) = false := by simp; omega
                have hd7 : ((q : Int) == 1) = false := by simp; omega
                have hd8 : ((q : Int) == 2) = false := by simp; omega
                have hd9 : ((q : Int) == 3) = false := by simp; omega
                clear hq hq4
                go_wp2
                go_ret
                exact ⟨_, _, rfl, hO22.out.fresh hhi, hwf.out, by rw [Hna.out]; omega, hS22.out.mono (by omega), hM22.out⟩
            · have he : acc = [] := List.eq_nil_of_length_eq_zero (by omega)
              subst he
              go_wp2
              go_ret
              exact ⟨_, _, rfl, hO10.out, hwf.out, by simp, hS10.out.mono (by omega), hM10.out⟩
end Go.Proofs.Ytmkhapgkiecmaaa
