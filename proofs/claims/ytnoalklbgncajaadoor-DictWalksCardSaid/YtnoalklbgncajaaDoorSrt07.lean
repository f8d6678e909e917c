/- The library's contracts at this dump, in plain words (out of the shelf's own tools). -/
import Derived.Shelf.Sort.Plain
import Derived.Shelf.Slices.In.SortNone
import Derived.Test.YtnoalklbgncajaaDoorProg
import Derived.KernelRfl
namespace Go.Proofs.YtnoalklbgncajaaDoor.Srt
open Go.Shelf Go.Proofs
def lays190_ren : Go.Shelf.Ren := ⟨fun | 190 => 22 | 125 => 28 | 258 => 27 | 128 => 44 | 129 => 45 | 302 => 35 | 303 => 36 | 304 => 37 | 305 => 38 | 306 => 39 | 307 => 40 | 308 => 41 | 309 => 42 | 310 => 43 | 333 => 54 | 329 => 55 | 330 => 56 | 334 => 57 | 335 => 58 | 336 => 59 | 344 => 63 | n => n, fun | 31 => 33 | 9 => 9 | 3 => 3 | 46 => 62 | 0 => 0 | 51 => 80 | 53 => 22 | 4 => 4 | 183 => 73 | 182 => 72 | 131 => 41 | 5 => 5 | 218 => 91 | 222 => 95 | 228 => 98 | 229 => 43 | n => n, fun | n => n⟩
theorem lays190 : Go.Proofs.Lays.n190 Tryd.prog lays190_ren := {
  mixed := by kernel_rfl
  f125 := Tryd.func28.trans (congrArg some (by kernel_rfl))
  f128 := Tryd.func44.trans (congrArg some (by kernel_rfl))
  f129 := Tryd.func45.trans (congrArg some (by kernel_rfl))
  f190 := Tryd.func22.trans (congrArg some (by kernel_rfl))
  f258 := Tryd.func27.trans (congrArg some (by kernel_rfl))
  f302 := Tryd.func35.trans (congrArg some (by kernel_rfl))
  f303 := Tryd.func36.trans (congrArg some (by kernel_rfl))
  f304 := Tryd.func37.trans (congrArg some (by kernel_rfl))
  f305 := Tryd.func38.trans (congrArg some (by kernel_rfl))
  f306 := Tryd.func39.trans (congrArg some (by kernel_rfl))
  f307 := Tryd.func40.trans (congrArg some (by kernel_rfl))
  f308 := Tryd.func41.trans (congrArg some (by kernel_rfl))
  f309 := Tryd.func42.trans (congrArg some (by kernel_rfl))
  f310 := Tryd.func43.trans (congrArg some (by kernel_rfl))
  f329 := Tryd.func55.trans (congrArg some (by kernel_rfl))
  f330 := Tryd.func56.trans (congrArg some (by kernel_rfl))
  f333 := Tryd.func54.trans (congrArg some (by kernel_rfl))
  f334 := Tryd.func57.trans (congrArg some (by kernel_rfl))
  f335 := Tryd.func58.trans (congrArg some (by kernel_rfl))
  f336 := Tryd.func59.trans (congrArg some (by kernel_rfl))
  f344 := Tryd.func63.trans (congrArg some (by kernel_rfl))
  t0 := Tryd.underlying0
  a0 := Tryd.isAgg0
  z0 := Tryd.sizeOf0
  v0 := Tryd.zeroValue0
  t3 := Tryd.underlying3
  a3 := Tryd.isAgg3
  z3 := Tryd.sizeOf3
  v3 := Tryd.zeroValue3
  t4 := Tryd.underlying4
  a4 := Tryd.isAgg4
  z4 := Tryd.sizeOf4
  v4 := Tryd.zeroValue4
  t5 := Tryd.underlying5
  a5 := Tryd.isAgg5
  z5 := Tryd.sizeOf5
  v5 := Tryd.zeroValue5
  t9 := Tryd.underlying9
  a9 := Tryd.isAgg9
  z9 := Tryd.sizeOf9
  v9 := Tryd.zeroValue9
  t31 := Tryd.underlying33
  a31 := Tryd.isAgg33
  z31 := Tryd.sizeOf33
  v31 := Tryd.zeroValue33
  t46 := Tryd.underlying62
  a46 := Tryd.isAgg62
  z46 := Tryd.sizeOf62
  v46 := Tryd.zeroValue62
  t51 := Tryd.underlying80
  a51 := Tryd.isAgg80
  z51 := Tryd.sizeOf80
  v51 := Tryd.zeroValue80
  t53 := Tryd.underlying22
  a53 := Tryd.isAgg22
  z53 := Tryd.sizeOf22
  v53 := Tryd.zeroValue22
  t131 := Tryd.underlying41
  a131 := Tryd.isAgg41
  z131 := Tryd.sizeOf41
  v131 := Tryd.zeroValue41
  t182 := Tryd.underlying72
  a182 := Tryd.isAgg72
  z182 := Tryd.sizeOf72
  v182 := Tryd.zeroValue72
  t183 := Tryd.underlying73
  a183 := Tryd.isAgg73
  z183 := Tryd.sizeOf73
  v183 := Tryd.zeroValue73
  t218 := Tryd.underlying91
  a218 := Tryd.isAgg91
  z218 := Tryd.sizeOf91
  v218 := Tryd.zeroValue91
  t222 := Tryd.underlying95
  a222 := Tryd.isAgg95
  z222 := Tryd.sizeOf95
  v222 := Tryd.zeroValue95
  t228 := Tryd.underlying98
  a228 := Tryd.isAgg98
  z228 := Tryd.sizeOf98
  v228 := Tryd.zeroValue98
  t229 := Tryd.underlying43
  a229 := Tryd.isAgg43
  z229 := Tryd.sizeOf43
  v229 := Tryd.zeroValue43 }
open Go.Sort Go.RowKit in
theorem slices_Sort_string (blk off cap : Nat) (ss : List (List UInt8)) (w : World) (hH : Holds encStr w blk off ss.toArray) (hblk : blk < w.heap.size) (hsz : ss.length < 4611686018427387904) :
    Calls Tryd.prog 22 #[.slice (some ⟨blk, off, none⟩) ss.length cap] w fun e w' =>
      e = .returned (.tuple #[]) ∧ ∃ n os, w' = grow (putRow encStr (Sort.ahead w n) blk off (ss.mergeSort fun x y => decide (x ≤ y)).toArray) os := Any.slices_Sort_string lays190 blk off cap ss w hH hblk hsz
open Go.RowKit Go.Sort in
theorem slices_Sort_string_none (p : Option Addr) (cap : Nat) (w : World) :
    Calls Tryd.prog 22 #[.slice p 0 cap] w fun e w' => e = .returned (.tuple #[]) ∧ w' = w := Any.slices_Sort_string_none lays190 p cap w
end Go.Proofs.YtnoalklbgncajaaDoor.Srt
