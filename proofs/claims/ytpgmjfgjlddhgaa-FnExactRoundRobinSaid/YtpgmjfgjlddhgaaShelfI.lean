/-
  The library's sorting functions at this program: where their code lies (written by the kit's tool lay-plain). Conditions: none.
-/
import Derived.Shelf.SortM.Plain
import Derived.Shelf.SortM.SortNone
import Derived.Shelf.SlGeneric
import Derived.Ground.SlgmProg
import Derived.Test.YtpgmjfgjlddhgaaProg
namespace Go.Proofs.Ytpgmjfgjlddhgaa
open Go.Shelf
set_option linter.unusedVariables false
set_option linter.unusedSimpArgs false
def sortI_ren : Go.Shelf.Ren := ⟨fun | 5 => 102 | 8 => 136 | 7 => 141 | 19 => 170 | 20 => 171 | 10 => 174 | 11 => 175 | 12 => 176 | 13 => 177 | 14 => 178 | 15 => 179 | 16 => 180 | 17 => 181 | 18 => 182 | 30 => 198 | 31 => 194 | 32 => 195 | 33 => 199 | 34 => 200 | 35 => 172 | 40 => 206 | n => n, fun | 23 => 35 | 25 => 2 | 3 => 3 | 32 => 118 | 22 => 35 | 0 => 0 | 44 => 145 | 46 => 147 | 4 => 4 | 36 => 139 | 35 => 138 | 41 => 79 | 5 => 5 | 9 => 9 | 53 => 159 | 57 => 163 | 63 => 168 | 64 => 169 | n => n, fun | n => n⟩
theorem sortI : Go.Proofs.SlLaysM.n5 Try.prog sortI_ren := {
  mixed := by kernel_rfl
  f5 := ⟨Try.f102.name, by decide, Try.func102.trans (congrArg some (by kernel_rfl))⟩
  f7 := ⟨Try.f141.name, by decide, Try.func141.trans (congrArg some (by kernel_rfl))⟩
  f8 := Try.func136.trans (congrArg some (by kernel_rfl))
  f10 := ⟨Try.f174.name, by decide, Try.func174.trans (congrArg some (by kernel_rfl))⟩
  f11 := ⟨Try.f175.name, by decide, Try.func175.trans (congrArg some (by kernel_rfl))⟩
  f12 := ⟨Try.f176.name, by decide, Try.func176.trans (congrArg some (by kernel_rfl))⟩
  f13 := ⟨Try.f177.name, by decide, Try.func177.trans (congrArg some (by kernel_rfl))⟩
  f14 := ⟨Try.f178.name, by decide, Try.func178.trans (congrArg some (by kernel_rfl))⟩
  f15 := ⟨Try.f179.name, by decide, Try.func179.trans (congrArg some (by kernel_rfl))⟩
  f16 := ⟨Try.f180.name, by decide, Try.func180.trans (congrArg some (by kernel_rfl))⟩
  f17 := ⟨Try.f181.name, by decide, Try.func181.trans (congrArg some (by kernel_rfl))⟩
  f18 := ⟨Try.f182.name, by decide, Try.func182.trans (congrArg some (by kernel_rfl))⟩
  f19 := Try.func170.trans (congrArg some (by kernel_rfl))
  f20 := Try.func171.trans (congrArg some (by kernel_rfl))
  f30 := ⟨Try.f198.name, by decide, Try.func198.trans (congrArg some (by kernel_rfl))⟩
  f31 := Try.func194.trans (congrArg some (by kernel_rfl))
  f32 := Try.func195.trans (congrArg some (by kernel_rfl))
  f33 := ⟨Try.f199.name, by decide, Try.func199.trans (congrArg some (by kernel_rfl))⟩
  f34 := ⟨Try.f200.name, by decide, Try.func200.trans (congrArg some (by kernel_rfl))⟩
  f35 := ⟨Try.f172.name, by decide, Try.func172.trans (congrArg some (by kernel_rfl))⟩
  f40 := ⟨Try.f206.name, by decide, Try.func206.trans (congrArg some (by kernel_rfl))⟩
  t0 := Try.underlying0
  a0 := Try.isAgg0
  z0 := Try.sizeOf0
  v0 := Try.zeroValue0
  t3 := Try.underlying3
  a3 := Try.isAgg3
  z3 := Try.sizeOf3
  v3 := Try.zeroValue3
  t4 := Try.underlying4
  a4 := Try.isAgg4
  z4 := Try.sizeOf4
  v4 := Try.zeroValue4
  t5 := Try.underlying5
  a5 := Try.isAgg5
  z5 := Try.sizeOf5
  v5 := Try.zeroValue5
  t9 := Try.underlying9
  a9 := Try.isAgg9
  z9 := Try.sizeOf9
  v9 := Try.zeroValue9
  t22 := Try.underlying35
  a22 := Try.isAgg35
  z22 := Try.sizeOf35
  v22 := Try.zeroValue35
  t23 := Try.underlying35
  a23 := Try.isAgg35
  z23 := Try.sizeOf35
  v23 := Try.zeroValue35
  t25 := Try.underlying2
  a25 := Try.isAgg2
  z25 := Try.sizeOf2
  v25 := Try.zeroValue2
  t32 := Try.underlying118
  a32 := Try.isAgg118
  z32 := Try.sizeOf118
  v32 := Try.zeroValue118
  t35 := Try.underlying138
  a35 := Try.isAgg138
  z35 := Try.sizeOf138
  v35 := Try.zeroValue138
  t36 := Try.underlying139
  a36 := Try.isAgg139
  z36 := Try.sizeOf139
  v36 := Try.zeroValue139
  t41 := Try.underlying79
  a41 := Try.isAgg79
  z41 := Try.sizeOf79
  v41 := Try.zeroValue79
  t44 := Try.underlying145
  a44 := Try.isAgg145
  z44 := Try.sizeOf145
  v44 := Try.zeroValue145
  t46 := Try.underlying147
  a46 := Try.isAgg147
  z46 := Try.sizeOf147
  v46 := Try.zeroValue147
  t53 := Try.underlying159
  a53 := Try.isAgg159
  z53 := Try.sizeOf159
  v53 := Try.zeroValue159
  t57 := Try.underlying163
  a57 := Try.isAgg163
  z57 := Try.sizeOf163
  v57 := Try.zeroValue163
  t63 := Try.underlying168
  a63 := Try.isAgg168
  z63 := Try.sizeOf168
  v63 := Try.zeroValue168
  t64 := Try.underlying169
  a64 := Try.isAgg169
  z64 := Try.sizeOf169
  v64 := Try.zeroValue169 }
end Go.Proofs.Ytpgmjfgjlddhgaa
