/- Shelf: a part of the proof that each law of this seat answers true at every input. No condition. -/
import Derived.Shelf.Small.Bits
import Derived.Shelf.Strconv.Itoa0
import Derived.Shelf.Sort.Plain
import Derived.Shelf.Slices.In.SortNone
import Derived.Test.YthpghekebjadcaaProg
set_option linter.unusedVariables false
set_option linter.unusedSimpArgs false
set_option maxRecDepth 20000
section
namespace Go.Proofs
open Go.Shelf
def Try.lays190_ren : Go.Shelf.Ren := ⟨fun | 190 => 61 | 125 => 77 | 258 => 76 | 128 => 91 | 129 => 92 | 302 => 82 | 303 => 83 | 304 => 84 | 305 => 85 | 306 => 86 | 307 => 87 | 308 => 88 | 309 => 89 | 310 => 90 | 333 => 95 | 329 => 96 | 330 => 97 | 334 => 98 | 335 => 99 | 336 => 100 | 344 => 104 | n => n,fun | 31 => 22 | 9 => 9 | 3 => 3 | 46 => 134 | 0 => 0 | 51 => 147 | 53 => 149 | 4 => 4 | 183 => 139 | 182 => 138 | 131 => 144 | 5 => 5 | 218 => 151 | 222 => 155 | 228 => 159 | 229 => 160 | n => n,fun | n => n⟩
theorem Try.lays190 : Go.Proofs.Lays.n190 Try.prog Try.lays190_ren := {
 mixed := by kernel_rfl
 f125 := Try.func77.trans (congrArg some (by kernel_rfl))
 f128 := Try.func91.trans (congrArg some (by kernel_rfl))
 f129 := Try.func92.trans (congrArg some (by kernel_rfl))
 f190 := Try.func61.trans (congrArg some (by kernel_rfl))
 f258 := Try.func76.trans (congrArg some (by kernel_rfl))
 f302 := Try.func82.trans (congrArg some (by kernel_rfl))
 f303 := Try.func83.trans (congrArg some (by kernel_rfl))
 f304 := Try.func84.trans (congrArg some (by kernel_rfl))
 f305 := Try.func85.trans (congrArg some (by kernel_rfl))
 f306 := Try.func86.trans (congrArg some (by kernel_rfl))
 f307 := Try.func87.trans (congrArg some (by kernel_rfl))
 f308 := Try.func88.trans (congrArg some (by kernel_rfl))
 f309 := Try.func89.trans (congrArg some (by kernel_rfl))
 f310 := Try.func90.trans (congrArg some (by kernel_rfl))
 f329 := Try.func96.trans (congrArg some (by kernel_rfl))
 f330 := Try.func97.trans (congrArg some (by kernel_rfl))
 f333 := Try.func95.trans (congrArg some (by kernel_rfl))
 f334 := Try.func98.trans (congrArg some (by kernel_rfl))
 f335 := Try.func99.trans (congrArg some (by kernel_rfl))
 f336 := Try.func100.trans (congrArg some (by kernel_rfl))
 f344 := Try.func104.trans (congrArg some (by kernel_rfl))
 t0 := Try.underlying0
 a0 := Try.isAgg0
 z0 := Try.sizeOf0
 v0 := Try.zeroValue0
 t3 := Try.underlying3
 a3 := Try.isAgg3
 z3 := Try.sizeOf3
 v3 := Try.zeroValue3
 t4 := Try.underlying4
 a4 := Try.isAgg4
 z4 := Try.sizeOf4
 v4 := Try.zeroValue4
 t5 := Try.underlying5
 a5 := Try.isAgg5
 z5 := Try.sizeOf5
 v5 := Try.zeroValue5
 t9 := Try.underlying9
 a9 := Try.isAgg9
 z9 := Try.sizeOf9
 v9 := Try.zeroValue9
 t31 := Try.underlying22
 a31 := Try.isAgg22
 z31 := Try.sizeOf22
 v31 := Try.zeroValue22
 t46 := Try.underlying134
 a46 := Try.isAgg134
 z46 := Try.sizeOf134
 v46 := Try.zeroValue134
 t51 := Try.underlying147
 a51 := Try.isAgg147
 z51 := Try.sizeOf147
 v51 := Try.zeroValue147
 t53 := Try.underlying149
 a53 := Try.isAgg149
 z53 := Try.sizeOf149
 v53 := Try.zeroValue149
 t131 := Try.underlying144
 a131 := Try.isAgg144
 z131 := Try.sizeOf144
 v131 := Try.zeroValue144
 t182 := Try.underlying138
 a182 := Try.isAgg138
 z182 := Try.sizeOf138
 v182 := Try.zeroValue138
 t183 := Try.underlying139
 a183 := Try.isAgg139
 z183 := Try.sizeOf139
 v183 := Try.zeroValue139
 t218 := Try.underlying151
 a218 := Try.isAgg151
 z218 := Try.sizeOf151
 v218 := Try.zeroValue151
 t222 := Try.underlying155
 a222 := Try.isAgg155
 z222 := Try.sizeOf155
 v222 := Try.zeroValue155
 t228 := Try.underlying159
 a228 := Try.isAgg159
 z228 := Try.sizeOf159
 v228 := Try.zeroValue159
 t229 := Try.underlying160
 a229 := Try.isAgg160
 z229 := Try.sizeOf160
 v229 := Try.zeroValue160 }
open Go.Sort Go.RowKit in
theorem Try.slices_Sort_string (blk off cap : Nat) (ss : List (List UInt8)) (w : World) (hH : Holds encStr w blk off ss.toArray) (hblk : blk < w.heap.size) (hsz : ss.length < 4611686018427387904) :
  Calls Try.prog 61 #[.slice (some ⟨blk,off,none⟩) ss.length cap] w fun e w' =>
   e = .returned (.tuple #[]) ∧ ∃ n os,w' = grow (putRow encStr (Sort.ahead w n) blk off (ss.mergeSort fun x y => decide (x ≤ y)).toArray) os := Any.slices_Sort_string Try.lays190 blk off cap ss w hH hblk hsz
open Go.RowKit Go.Sort in
theorem Try.slices_Sort_string_none (p : Option Addr) (cap : Nat) (w : World) :
  Calls Try.prog 61 #[.slice p 0 cap] w fun e w' => e = .returned (.tuple #[]) ∧ w' = w := Any.slices_Sort_string_none Try.lays190 p cap w
end Go.Proofs
end
