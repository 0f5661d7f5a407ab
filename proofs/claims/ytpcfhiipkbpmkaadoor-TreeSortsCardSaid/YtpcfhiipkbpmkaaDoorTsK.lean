/- The library's contracts of slices.SortFunc and of strings.Compare at this program: laid by the kit's two commands (lay-shelf, lay-plain). -/
import Derived.Shelf.SlSortCmp.WholeK
import Derived.Shelf.Small.Strs
import Derived.Ground.NamesProg
import Derived.Ground.SlsfProg
import Derived.Test.YtpcfhiipkbpmkaaDoorProg
namespace Go.Proofs
open Go.Shelf
def Tryd.sortFields_ren : Go.Shelf.Ren := ⟨fun | 6 => 81 | 15 => 113 | 14 => 112 | 28 => 149 | 29 => 150 | 20 => 141 | 21 => 142 | 22 => 143 | 23 => 144 | 24 => 145 | 25 => 146 | 26 => 147 | 27 => 148 | 46 => 162 | 47 => 163 | 48 => 164 | 49 => 165 | 50 => 166 | 57 => 173 | n => n, fun | 22 => 95 | 24 => 97 | 25 => 99 | 3 => 3 | 39 => 111 | 0 => 0 | 53 => 56 | 55 => 62 | 4 => 4 | 46 => 151 | 45 => 150 | 50 => 155 | 5 => 5 | 9 => 9 | 66 => 169 | 70 => 173 | 76 => 183 | 77 => 167 | n => n, fun | n => n⟩
theorem Tryd.sortFields : Go.Proofs.SlLaysF0.n6 Tryd.prog Tryd.sortFields_ren := {
  mixed := by kernel_rfl
  f6 := ⟨Tryd.f81.name, by decide, Tryd.func81.trans (congrArg some (by kernel_rfl))⟩
  f14 := ⟨Tryd.f112.name, by decide, Tryd.func112.trans (congrArg some (by kernel_rfl))⟩
  f15 := Tryd.func113.trans (congrArg some (by kernel_rfl))
  f20 := ⟨Tryd.f141.name, by decide, Tryd.func141.trans (congrArg some (by kernel_rfl))⟩
  f21 := ⟨Tryd.f142.name, by decide, Tryd.func142.trans (congrArg some (by kernel_rfl))⟩
  f22 := ⟨Tryd.f143.name, by decide, Tryd.func143.trans (congrArg some (by kernel_rfl))⟩
  f23 := ⟨Tryd.f144.name, by decide, Tryd.func144.trans (congrArg some (by kernel_rfl))⟩
  f24 := ⟨Tryd.f145.name, by decide, Tryd.func145.trans (congrArg some (by kernel_rfl))⟩
  f25 := ⟨Tryd.f146.name, by decide, Tryd.func146.trans (congrArg some (by kernel_rfl))⟩
  f26 := ⟨Tryd.f147.name, by decide, Tryd.func147.trans (congrArg some (by kernel_rfl))⟩
  f27 := ⟨Tryd.f148.name, by decide, Tryd.func148.trans (congrArg some (by kernel_rfl))⟩
  f28 := Tryd.func149.trans (congrArg some (by kernel_rfl))
  f29 := Tryd.func150.trans (congrArg some (by kernel_rfl))
  f46 := ⟨Tryd.f162.name, by decide, Tryd.func162.trans (congrArg some (by kernel_rfl))⟩
  f47 := Tryd.func163.trans (congrArg some (by kernel_rfl))
  f48 := Tryd.func164.trans (congrArg some (by kernel_rfl))
  f49 := ⟨Tryd.f165.name, by decide, Tryd.func165.trans (congrArg some (by kernel_rfl))⟩
  f50 := ⟨Tryd.f166.name, by decide, Tryd.func166.trans (congrArg some (by kernel_rfl))⟩
  f57 := ⟨Tryd.f173.name, by decide, Tryd.func173.trans (congrArg some (by kernel_rfl))⟩
  t0 := Tryd.underlying0
  a0 := Tryd.isAgg0
  z0 := Tryd.sizeOf0
  v0 := Tryd.zeroValue0
  t3 := Tryd.underlying3
  a3 := Tryd.isAgg3
  z3 := Tryd.sizeOf3
  v3 := Tryd.zeroValue3
  t4 := Tryd.underlying4
  a4 := Tryd.isAgg4
  z4 := Tryd.sizeOf4
  v4 := Tryd.zeroValue4
  t5 := Tryd.underlying5
  a5 := Tryd.isAgg5
  z5 := Tryd.sizeOf5
  v5 := Tryd.zeroValue5
  t9 := Tryd.underlying9
  a9 := Tryd.isAgg9
  z9 := Tryd.sizeOf9
  v9 := Tryd.zeroValue9
  t22 := Tryd.underlying95
  a22 := Tryd.isAgg95
  z22 := Tryd.sizeOf95
  v22 := Tryd.zeroValue95
  t25 := Tryd.underlying99
  a25 := Tryd.isAgg99
  z25 := Tryd.sizeOf99
  v25 := Tryd.zeroValue99
  t39 := Tryd.underlying111
  a39 := Tryd.isAgg111
  z39 := Tryd.sizeOf111
  v39 := Tryd.zeroValue111
  t45 := Tryd.underlying150
  a45 := Tryd.isAgg150
  z45 := Tryd.sizeOf150
  v45 := Tryd.zeroValue150
  t46 := Tryd.underlying151
  a46 := Tryd.isAgg151
  z46 := Tryd.sizeOf151
  v46 := Tryd.zeroValue151
  t50 := Tryd.underlying155
  a50 := Tryd.isAgg155
  z50 := Tryd.sizeOf155
  v50 := Tryd.zeroValue155
  t53 := Tryd.underlying56
  a53 := Tryd.isAgg56
  z53 := Tryd.sizeOf56
  v53 := Tryd.zeroValue56
  t55 := Tryd.underlying62
  a55 := Tryd.isAgg62
  z55 := Tryd.sizeOf62
  v55 := Tryd.zeroValue62
  t66 := Tryd.underlying169
  a66 := Tryd.isAgg169
  z66 := Tryd.sizeOf169
  v66 := Tryd.zeroValue169
  t70 := Tryd.underlying173
  a70 := Tryd.isAgg173
  z70 := Tryd.sizeOf173
  v70 := Tryd.zeroValue173
  t76 := Tryd.underlying183
  a76 := Tryd.isAgg183
  z76 := Tryd.sizeOf183
  v76 := Tryd.zeroValue183
  t77 := Tryd.underlying167
  a77 := Tryd.isAgg167
  z77 := Tryd.sizeOf167
  v77 := Tryd.zeroValue167 }
def Tryd.strsCompare_ren : Go.Shelf.Ren := ⟨fun | 106 => 74 | 213 => 105 | 265 => 128 | n => n, fun | 9 => 9 | 3 => 3 | n => n, fun | n => n⟩
theorem Tryd.strsCompare : Go.Proofs.Lays.n106 Tryd.prog Tryd.strsCompare_ren := {
  mixed := by kernel_rfl
  f106 := Tryd.func74.trans (congrArg some (by kernel_rfl))
  f213 := Tryd.func105.trans (congrArg some (by kernel_rfl))
  f265 := Tryd.func128.trans (congrArg some (by kernel_rfl))
  t3 := Tryd.underlying3
  a3 := Tryd.isAgg3
  z3 := Tryd.sizeOf3
  v3 := Tryd.zeroValue3
  t9 := Tryd.underlying9
  a9 := Tryd.isAgg9
  z9 := Tryd.sizeOf9
  v9 := Tryd.zeroValue9 }
end Go.Proofs
