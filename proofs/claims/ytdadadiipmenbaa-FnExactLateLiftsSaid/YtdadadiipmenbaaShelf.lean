/- Contracts of library functions at this program. (Laid by the kit's tools; see shelf.py.) -/
import Derived.Shelf.Small.Bits
import Derived.Shelf.Strconv.Itoa0
import Derived.Ground.SlgnProg
import Derived.Shelf.SlicesG.CompactI
import Derived.Shelf.SortG.Plain
import Derived.Shelf.SortG.SortNone
import Derived.Ground.SlgnProg
import Derived.Test.YtdadadiipmenbaaProg
namespace Go.Proofs
open Go.Shelf
def Try.laysSlN43_f54_ren : Go.Shelf.Ren := ⟨fun | 43 => 54 | n => n, fun | 22 => 28 | 23 => 2 | 3 => 3 | 4 => 4 | 0 => 0 | n => n, fun | n => n⟩
theorem Try.laysSlN43_f54 : Go.Proofs.SlLaysN.n43 Try.prog Try.laysSlN43_f54_ren := {
  mixed := by kernel_rfl
  f43 := ⟨Try.f54.name, by decide, Try.func54.trans (congrArg some (by kernel_rfl))⟩
  t0 := Try.underlying0
  a0 := Try.isAgg0
  z0 := Try.sizeOf0
  v0 := Try.zeroValue0
  t3 := Try.underlying3
  a3 := Try.isAgg3
  z3 := Try.sizeOf3
  v3 := Try.zeroValue3
  t4 := Try.underlying4
  a4 := Try.isAgg4
  z4 := Try.sizeOf4
  v4 := Try.zeroValue4
  t22 := Try.underlying28
  a22 := Try.isAgg28
  z22 := Try.sizeOf28
  v22 := Try.zeroValue28
  t23 := Try.underlying2
  a23 := Try.isAgg2
  z23 := Try.sizeOf2
  v23 := Try.zeroValue2
  i23 := by kernel_rfl }
open Go.RowKit Go.Lib Go.Sort in
theorem Try.slices_Compact_int (blk off cap : Nat) (zs : List Int) (w : World) (hH : Holds (Value.int .i64) w blk off zs.toArray) (hsz : zs.length ≤ 9223372036854775807) (hcap : zs.length ≤ cap) :
    Calls Try.prog 54 #[.slice (some ⟨blk, off, none⟩) zs.length cap] w fun e w' => e = .returned (.slice (some ⟨blk, off, none⟩) (Lib.compact zs).length cap) ∧ ∃ q, w' = putRow (Value.int .i64) (Sort.ahead w q) blk off (Lib.compact zs ++ List.replicate (zs.length - (Lib.compact zs).length) 0).toArray := AnyG.slices_Compact_int Try.laysSlN43_f54 blk off cap zs w hH hsz hcap
open Go.RowKit Go.Lib Go.Sort in
theorem Try.slices_Compact_int_empty (a : Option Addr) (cap : Nat) (w : World) :
    Calls Try.prog 54 #[.slice a 0 cap] w fun e w' => e = .returned (.slice a 0 cap) ∧ w' = w := AnyG.slices_Compact_int_empty Try.laysSlN43_f54 a cap w
def Try.laysSlN53_f53_ren : Go.Shelf.Ren := ⟨fun | 53 => 53 | 64 => 81 | 63 => 80 | 78 => 110 | 79 => 111 | 70 => 101 | 71 => 102 | 72 => 103 | 73 => 104 | 74 => 105 | 75 => 106 | 59 => 107 | 76 => 108 | 77 => 109 | 88 => 120 | 89 => 121 | 90 => 122 | 91 => 123 | 92 => 124 | 68 => 119 | 96 => 129 | n => n, fun | 22 => 28 | 23 => 2 | 3 => 3 | 51 => 125 | 0 => 0 | 67 => 153 | 69 => 155 | 4 => 4 | 61 => 145 | 60 => 144 | 44 => 150 | 5 => 5 | 9 => 9 | 75 => 165 | 79 => 169 | 83 => 174 | 84 => 175 | n => n, fun | n => n⟩
theorem Try.laysSlN53_f53 : Go.Proofs.SlLaysN.n53 Try.prog Try.laysSlN53_f53_ren := {
  mixed := by kernel_rfl
  f53 := ⟨Try.f53.name, by decide, Try.func53.trans (congrArg some (by kernel_rfl))⟩
  f59 := ⟨Try.f107.name, by decide, Try.func107.trans (congrArg some (by kernel_rfl))⟩
  f63 := ⟨Try.f80.name, by decide, Try.func80.trans (congrArg some (by kernel_rfl))⟩
  f64 := Try.func81.trans (congrArg some (by kernel_rfl))
  f68 := ⟨Try.f119.name, by decide, Try.func119.trans (congrArg some (by kernel_rfl))⟩
  f70 := ⟨Try.f101.name, by decide, Try.func101.trans (congrArg some (by kernel_rfl))⟩
  f71 := ⟨Try.f102.name, by decide, Try.func102.trans (congrArg some (by kernel_rfl))⟩
  f72 := ⟨Try.f103.name, by decide, Try.func103.trans (congrArg some (by kernel_rfl))⟩
  f73 := ⟨Try.f104.name, by decide, Try.func104.trans (congrArg some (by kernel_rfl))⟩
  f74 := ⟨Try.f105.name, by decide, Try.func105.trans (congrArg some (by kernel_rfl))⟩
  f75 := ⟨Try.f106.name, by decide, Try.func106.trans (congrArg some (by kernel_rfl))⟩
  f76 := ⟨Try.f108.name, by decide, Try.func108.trans (congrArg some (by kernel_rfl))⟩
  f77 := ⟨Try.f109.name, by decide, Try.func109.trans (congrArg some (by kernel_rfl))⟩
  f78 := Try.func110.trans (congrArg some (by kernel_rfl))
  f79 := Try.func111.trans (congrArg some (by kernel_rfl))
  f88 := ⟨Try.f120.name, by decide, Try.func120.trans (congrArg some (by kernel_rfl))⟩
  f89 := Try.func121.trans (congrArg some (by kernel_rfl))
  f90 := Try.func122.trans (congrArg some (by kernel_rfl))
  f91 := ⟨Try.f123.name, by decide, Try.func123.trans (congrArg some (by kernel_rfl))⟩
  f92 := ⟨Try.f124.name, by decide, Try.func124.trans (congrArg some (by kernel_rfl))⟩
  f96 := ⟨Try.f129.name, by decide, Try.func129.trans (congrArg some (by kernel_rfl))⟩
  t0 := Try.underlying0
  a0 := Try.isAgg0
  z0 := Try.sizeOf0
  v0 := Try.zeroValue0
  t3 := Try.underlying3
  a3 := Try.isAgg3
  z3 := Try.sizeOf3
  v3 := Try.zeroValue3
  t4 := Try.underlying4
  a4 := Try.isAgg4
  z4 := Try.sizeOf4
  v4 := Try.zeroValue4
  t5 := Try.underlying5
  a5 := Try.isAgg5
  z5 := Try.sizeOf5
  v5 := Try.zeroValue5
  t9 := Try.underlying9
  a9 := Try.isAgg9
  z9 := Try.sizeOf9
  v9 := Try.zeroValue9
  t22 := Try.underlying28
  a22 := Try.isAgg28
  z22 := Try.sizeOf28
  v22 := Try.zeroValue28
  t23 := Try.underlying2
  a23 := Try.isAgg2
  z23 := Try.sizeOf2
  v23 := Try.zeroValue2
  t44 := Try.underlying150
  a44 := Try.isAgg150
  z44 := Try.sizeOf150
  v44 := Try.zeroValue150
  t51 := Try.underlying125
  a51 := Try.isAgg125
  z51 := Try.sizeOf125
  v51 := Try.zeroValue125
  t60 := Try.underlying144
  a60 := Try.isAgg144
  z60 := Try.sizeOf144
  v60 := Try.zeroValue144
  t61 := Try.underlying145
  a61 := Try.isAgg145
  z61 := Try.sizeOf145
  v61 := Try.zeroValue145
  t67 := Try.underlying153
  a67 := Try.isAgg153
  z67 := Try.sizeOf153
  v67 := Try.zeroValue153
  t69 := Try.underlying155
  a69 := Try.isAgg155
  z69 := Try.sizeOf155
  v69 := Try.zeroValue155
  t75 := Try.underlying165
  a75 := Try.isAgg165
  z75 := Try.sizeOf165
  v75 := Try.zeroValue165
  t79 := Try.underlying169
  a79 := Try.isAgg169
  z79 := Try.sizeOf169
  v79 := Try.zeroValue169
  t83 := Try.underlying174
  a83 := Try.isAgg174
  z83 := Try.sizeOf174
  v83 := Try.zeroValue174
  t84 := Try.underlying175
  a84 := Try.isAgg175
  z84 := Try.sizeOf175
  v84 := Try.zeroValue175 }
open Go.RowKit Go.Lib Go.Sort in
theorem Try.slices_Sort_int (blk off cap : Nat) (zs : List Int) (w : World) (hH : Holds (Value.int .i64) w blk off zs.toArray) (hblk : blk < w.heap.size) (hsz : zs.length < 4611686018427387904) :
    Calls Try.prog 53 #[.slice (some ⟨blk, off, none⟩) zs.length cap] w fun e w' => e = .returned (.tuple #[]) ∧ ∃ n os, w' = grow (putRow (Value.int .i64) (Sort.ahead w n) blk off (zs.mergeSort fun x y => decide (x ≤ y)).toArray) os := AnyG.slices_Sort_int Try.laysSlN53_f53 blk off cap zs w hH hblk hsz
open Go.RowKit Go.Lib Go.Sort in
theorem Try.slices_Sort_int_none (p : Option Addr) (cap : Nat) (w : World) :
    Calls Try.prog 53 #[.slice p 0 cap] w fun e w' => e = .returned (.tuple #[]) ∧ w' = w := AnyG.slices_Sort_int_none Try.laysSlN53_f53 p cap w
end Go.Proofs
