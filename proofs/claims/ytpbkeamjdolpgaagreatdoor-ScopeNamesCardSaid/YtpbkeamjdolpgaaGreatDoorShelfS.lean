/- The library's contracts at this program, laid by the kit's tool: each an application of a contract that the kit has proved. -/
import Derived.Shelf.LaysM
import Derived.Shelf.Sort.Plain
import Derived.Ground.SlgnProg
import Derived.Test.YtpbkeamjdolpgaaGreatDoorProg
namespace Go.Proofs
open Go.Shelf
def Tryz.lays190_ren : Go.Shelf.Ren := ⟨fun | 190 => 136 | 125 => 178 | 258 => 177 | 128 => 217 | 129 => 218 | 302 => 208 | 303 => 209 | 304 => 210 | 305 => 211 | 306 => 212 | 307 => 213 | 308 => 214 | 309 => 215 | 310 => 216 | 333 => 235 | 329 => 236 | 330 => 237 | 334 => 238 | 335 => 239 | 336 => 240 | 344 => 250 | n => n, fun | 31 => 44 | 9 => 9 | 3 => 3 | 46 => 109 | 0 => 0 | 51 => 162 | 53 => 165 | 4 => 4 | 183 => 240 | 182 => 239 | 131 => 244 | 5 => 5 | 218 => 258 | 222 => 262 | 228 => 274 | 229 => 101 | n => n, fun | n => n⟩
theorem Tryz.lays190 : Go.Proofs.Lays.n190 Tryz.prog Tryz.lays190_ren := {
  mixed := by kernel_rfl
  f125 := Tryz.func178.trans (congrArg some (by kernel_rfl))
  f128 := Tryz.func217.trans (congrArg some (by kernel_rfl))
  f129 := Tryz.func218.trans (congrArg some (by kernel_rfl))
  f190 := Tryz.func136.trans (congrArg some (by kernel_rfl))
  f258 := Tryz.func177.trans (congrArg some (by kernel_rfl))
  f302 := Tryz.func208.trans (congrArg some (by kernel_rfl))
  f303 := Tryz.func209.trans (congrArg some (by kernel_rfl))
  f304 := Tryz.func210.trans (congrArg some (by kernel_rfl))
  f305 := Tryz.func211.trans (congrArg some (by kernel_rfl))
  f306 := Tryz.func212.trans (congrArg some (by kernel_rfl))
  f307 := Tryz.func213.trans (congrArg some (by kernel_rfl))
  f308 := Tryz.func214.trans (congrArg some (by kernel_rfl))
  f309 := Tryz.func215.trans (congrArg some (by kernel_rfl))
  f310 := Tryz.func216.trans (congrArg some (by kernel_rfl))
  f329 := Tryz.func236.trans (congrArg some (by kernel_rfl))
  f330 := Tryz.func237.trans (congrArg some (by kernel_rfl))
  f333 := Tryz.func235.trans (congrArg some (by kernel_rfl))
  f334 := Tryz.func238.trans (congrArg some (by kernel_rfl))
  f335 := Tryz.func239.trans (congrArg some (by kernel_rfl))
  f336 := Tryz.func240.trans (congrArg some (by kernel_rfl))
  f344 := Tryz.func250.trans (congrArg some (by kernel_rfl))
  t0 := Tryz.underlying0
  a0 := Tryz.isAgg0
  z0 := Tryz.sizeOf0
  v0 := Tryz.zeroValue0
  t3 := Tryz.underlying3
  a3 := Tryz.isAgg3
  z3 := Tryz.sizeOf3
  v3 := Tryz.zeroValue3
  t4 := Tryz.underlying4
  a4 := Tryz.isAgg4
  z4 := Tryz.sizeOf4
  v4 := Tryz.zeroValue4
  t5 := Tryz.underlying5
  a5 := Tryz.isAgg5
  z5 := Tryz.sizeOf5
  v5 := Tryz.zeroValue5
  t9 := Tryz.underlying9
  a9 := Tryz.isAgg9
  z9 := Tryz.sizeOf9
  v9 := Tryz.zeroValue9
  t31 := Tryz.underlying44
  a31 := Tryz.isAgg44
  z31 := Tryz.sizeOf44
  v31 := Tryz.zeroValue44
  t46 := Tryz.underlying109
  a46 := Tryz.isAgg109
  z46 := Tryz.sizeOf109
  v46 := Tryz.zeroValue109
  t51 := Tryz.underlying162
  a51 := Tryz.isAgg162
  z51 := Tryz.sizeOf162
  v51 := Tryz.zeroValue162
  t53 := Tryz.underlying165
  a53 := Tryz.isAgg165
  z53 := Tryz.sizeOf165
  v53 := Tryz.zeroValue165
  t131 := Tryz.underlying244
  a131 := Tryz.isAgg244
  z131 := Tryz.sizeOf244
  v131 := Tryz.zeroValue244
  t182 := Tryz.underlying239
  a182 := Tryz.isAgg239
  z182 := Tryz.sizeOf239
  v182 := Tryz.zeroValue239
  t183 := Tryz.underlying240
  a183 := Tryz.isAgg240
  z183 := Tryz.sizeOf240
  v183 := Tryz.zeroValue240
  t218 := Tryz.underlying258
  a218 := Tryz.isAgg258
  z218 := Tryz.sizeOf258
  v218 := Tryz.zeroValue258
  t222 := Tryz.underlying262
  a222 := Tryz.isAgg262
  z222 := Tryz.sizeOf262
  v222 := Tryz.zeroValue262
  t228 := Tryz.underlying274
  a228 := Tryz.isAgg274
  z228 := Tryz.sizeOf274
  v228 := Tryz.zeroValue274
  t229 := Tryz.underlying101
  a229 := Tryz.isAgg101
  z229 := Tryz.sizeOf101
  v229 := Tryz.zeroValue101 }
open Go.Sort Go.RowKit in
theorem Tryz.slices_Sort_string (blk off cap : Nat) (ss : List (List UInt8)) (w : World) (hH : Holds encStr w blk off ss.toArray) (hblk : blk < w.heap.size) (hsz : ss.length < 4611686018427387904) :
    Calls Tryz.prog 136 #[.slice (some ⟨blk, off, none⟩) ss.length cap] w fun e w' =>
      e = .returned (.tuple #[]) ∧ ∃ n os, w' = grow (putRow encStr (Sort.ahead w n) blk off (ss.mergeSort fun x y => decide (x ≤ y)).toArray) os := Any.slices_Sort_string Tryz.lays190 blk off cap ss w hH hblk hsz
end Go.Proofs
