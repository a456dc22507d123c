/-
  DERIVED: THE SHELF's CONTRACTS AT THIS DUMP, IN PLAIN WORDS (tools/lay-plain.mjs out of 'TryzShelf.lean', which tools/lay-shelf.mjs wrote): THE SAME DECLARATIONS UNDER THE SAME NAMES: 'import', 'namespace', 'open', 'def', 'theorem' AND NOTHING ELSE: no command of the shelf's: FOR A HAND-IN. Each laying: the table of numbers ('.._ren') and one theorem, a field a fact of the dump's own or the kernel's comparison; each contract: ONE APPLICATION.
-/
import Derived.Shelf.Strings.Builder1
import Derived.Shelf.Strings.Builder2
import Derived.Shelf.Small.Bits
import Derived.Shelf.Small.Wraps
import Derived.Shelf.Strings.BuilderF
import Derived.Shelf.Strings.BuilderK
import Derived.Shelf.Utf8.RuneCount
import Derived.Shelf.Strings.Builder2Cap
import Derived.Shelf.Strconv.Itoa0
import Derived.Shelf.Strings.Search1
import Derived.Shelf.Strings.Search2
import Derived.Shelf.Strings.Search3
import Derived.Shelf.Strings.Count
import Derived.Shelf.LaysM
import Derived.Shelf.Strings.Shaped
import Derived.Shelf.Sort.Plain
import Derived.Shelf.Strings.Prefix
import Derived.Shelf.Strings.Split
import Derived.Shelf.Strings.RuneCount
import Derived.Shelf.Bits.Mul64
import Derived.Shelf.Strings.Repeat
import Derived.Shelf.Strings.BuilderCap
import Derived.Shelf.Slices.Equal
import Derived.Ground.Names2Prog
import Derived.Shelf.Slices.ReverseS
import Derived.Shelf.Slices.Clone
import Derived.Shelf.Slices.SearchI
import Derived.Shelf.Slices.Delete
import Derived.Shelf.Slices.Cells
import Derived.Shelf.Slices.In.SortNone
import Derived.Shelf.Slices.Empties
import Derived.Shelf.Slices.Empties2
import Derived.Ground.SlgnProg
import Derived.Shelf.SlicesE.Clone
import Derived.Test.YtpnndlahfllbhaaGreatProg
namespace Go.Proofs
open Go.Shelf
def Tryz.lays189_ren : Go.Shelf.Ren := ⟨fun | 189 => 208 | 125 => 215 | 257 => 246 | 128 => 255 | 129 => 256 | 294 => 279 | 295 => 280 | 296 => 281 | 297 => 282 | 298 => 283 | 299 => 284 | 216 => 285 | 300 => 286 | 301 => 287 | 328 => 300 | 329 => 289 | 330 => 290 | 331 => 301 | 332 => 302 | 215 => 278 | 343 => 309 | n => n, fun | 28 => 72 | 3 => 3 | 46 => 341 | 0 => 0 | 51 => 47 | 53 => 30 | 4 => 4 | 183 => 373 | 182 => 372 | 131 => 202 | 5 => 5 | 9 => 9 | 218 => 400 | 222 => 404 | 228 => 414 | 229 => 229 | n => n, fun | n => n⟩
theorem Tryz.lays189 : Go.Proofs.Lays.n189 Tryz.prog Tryz.lays189_ren := {
  mixed := by kernel_rfl
  f125 := Tryz.func215.trans (congrArg some (by kernel_rfl))
  f128 := Tryz.func255.trans (congrArg some (by kernel_rfl))
  f129 := Tryz.func256.trans (congrArg some (by kernel_rfl))
  f189 := Tryz.func208.trans (congrArg some (by kernel_rfl))
  f215 := Tryz.func278.trans (congrArg some (by kernel_rfl))
  f216 := Tryz.func285.trans (congrArg some (by kernel_rfl))
  f257 := Tryz.func246.trans (congrArg some (by kernel_rfl))
  f294 := Tryz.func279.trans (congrArg some (by kernel_rfl))
  f295 := Tryz.func280.trans (congrArg some (by kernel_rfl))
  f296 := Tryz.func281.trans (congrArg some (by kernel_rfl))
  f297 := Tryz.func282.trans (congrArg some (by kernel_rfl))
  f298 := Tryz.func283.trans (congrArg some (by kernel_rfl))
  f299 := Tryz.func284.trans (congrArg some (by kernel_rfl))
  f300 := Tryz.func286.trans (congrArg some (by kernel_rfl))
  f301 := Tryz.func287.trans (congrArg some (by kernel_rfl))
  f328 := Tryz.func300.trans (congrArg some (by kernel_rfl))
  f329 := Tryz.func289.trans (congrArg some (by kernel_rfl))
  f330 := Tryz.func290.trans (congrArg some (by kernel_rfl))
  f331 := Tryz.func301.trans (congrArg some (by kernel_rfl))
  f332 := Tryz.func302.trans (congrArg some (by kernel_rfl))
  f343 := Tryz.func309.trans (congrArg some (by kernel_rfl))
  t0 := Tryz.underlying0
  a0 := Tryz.isAgg0
  z0 := Tryz.sizeOf0
  v0 := Tryz.zeroValue0
  t3 := Tryz.underlying3
  a3 := Tryz.isAgg3
  z3 := Tryz.sizeOf3
  v3 := Tryz.zeroValue3
  t4 := Tryz.underlying4
  a4 := Tryz.isAgg4
  z4 := Tryz.sizeOf4
  v4 := Tryz.zeroValue4
  t5 := Tryz.underlying5
  a5 := Tryz.isAgg5
  z5 := Tryz.sizeOf5
  v5 := Tryz.zeroValue5
  t9 := Tryz.underlying9
  a9 := Tryz.isAgg9
  z9 := Tryz.sizeOf9
  v9 := Tryz.zeroValue9
  t28 := Tryz.underlying72
  a28 := Tryz.isAgg72
  z28 := Tryz.sizeOf72
  v28 := Tryz.zeroValue72
  t46 := Tryz.underlying341
  a46 := Tryz.isAgg341
  z46 := Tryz.sizeOf341
  v46 := Tryz.zeroValue341
  t51 := Tryz.underlying47
  a51 := Tryz.isAgg47
  z51 := Tryz.sizeOf47
  v51 := Tryz.zeroValue47
  t53 := Tryz.underlying30
  a53 := Tryz.isAgg30
  z53 := Tryz.sizeOf30
  v53 := Tryz.zeroValue30
  t131 := Tryz.underlying202
  a131 := Tryz.isAgg202
  z131 := Tryz.sizeOf202
  v131 := Tryz.zeroValue202
  t182 := Tryz.underlying372
  a182 := Tryz.isAgg372
  z182 := Tryz.sizeOf372
  v182 := Tryz.zeroValue372
  t183 := Tryz.underlying373
  a183 := Tryz.isAgg373
  z183 := Tryz.sizeOf373
  v183 := Tryz.zeroValue373
  t218 := Tryz.underlying400
  a218 := Tryz.isAgg400
  z218 := Tryz.sizeOf400
  v218 := Tryz.zeroValue400
  t222 := Tryz.underlying404
  a222 := Tryz.isAgg404
  z222 := Tryz.sizeOf404
  v222 := Tryz.zeroValue404
  t228 := Tryz.underlying414
  a228 := Tryz.isAgg414
  z228 := Tryz.sizeOf414
  v228 := Tryz.zeroValue414
  t229 := Tryz.underlying229
  a229 := Tryz.isAgg229
  z229 := Tryz.sizeOf229
  v229 := Tryz.zeroValue229 }
open Go.Sort Go.RowKit in
theorem Tryz.slices_Sort_int (blk off cap : Nat) (zs : List Int) (w : World) (hH : Holds (Value.int .i64) w blk off zs.toArray) (hblk : blk < w.heap.size) (hsz : zs.length < 4611686018427387904) :
    Calls Tryz.prog 208 #[.slice (some ⟨blk, off, none⟩) zs.length cap] w fun e w' =>
      e = .returned (.tuple #[]) ∧ ∃ n os, w' = grow (putRow (Value.int .i64) (Sort.ahead w n) blk off (zs.mergeSort fun x y => decide (x ≤ y)).toArray) os := Any.slices_Sort_int Tryz.lays189 blk off cap zs w hH hblk hsz
def Tryz.lays105_ren : Go.Shelf.Ren := ⟨fun | 105 => 183 | 212 => 226 | 99 => 227 | 165 => 228 | 166 => 229 | 170 => 230 | 169 => 231 | 263 => 258 | 264 => 259 | 206 => 260 | 240 => 261 | 241 => 262 | 276 => 293 | 277 => 294 | n => n, fun | 9 => 9 | 3 => 3 | 4 => 4 | 20 => 20 | 0 => 0 | 46 => 341 | 109 => 349 | 5 => 5 | 72 => 354 | 76 => 358 | 51 => 47 | 146 => 380 | 53 => 30 | 148 => 382 | 70 => 352 | 37 => 122 | 75 => 357 | 127 => 384 | 164 => 406 | 80 => 200 | n => n, fun | n => n⟩
theorem Tryz.lays105 : Go.Proofs.Lays.n105 Tryz.prog Tryz.lays105_ren := {
  mixed := by kernel_rfl
  f99 := Tryz.func227.trans (congrArg some (by kernel_rfl))
  f105 := Tryz.func183.trans (congrArg some (by kernel_rfl))
  f165 := Tryz.func228.trans (congrArg some (by kernel_rfl))
  f166 := Tryz.func229.trans (congrArg some (by kernel_rfl))
  f169 := Tryz.func231.trans (congrArg some (by kernel_rfl))
  f170 := Tryz.func230.trans (congrArg some (by kernel_rfl))
  f206 := Tryz.func260.trans (congrArg some (by kernel_rfl))
  f212 := Tryz.func226.trans (congrArg some (by kernel_rfl))
  f240 := Tryz.func261.trans (congrArg some (by kernel_rfl))
  f241 := Tryz.func262.trans (congrArg some (by kernel_rfl))
  f263 := Tryz.func258.trans (congrArg some (by kernel_rfl))
  f264 := Tryz.func259.trans (congrArg some (by kernel_rfl))
  f276 := Tryz.func293.trans (congrArg some (by kernel_rfl))
  f277 := Tryz.func294.trans (congrArg some (by kernel_rfl))
  t0 := Tryz.underlying0
  a0 := Tryz.isAgg0
  z0 := Tryz.sizeOf0
  v0 := Tryz.zeroValue0
  t3 := Tryz.underlying3
  a3 := Tryz.isAgg3
  z3 := Tryz.sizeOf3
  v3 := Tryz.zeroValue3
  t4 := Tryz.underlying4
  a4 := Tryz.isAgg4
  z4 := Tryz.sizeOf4
  v4 := Tryz.zeroValue4
  t5 := Tryz.underlying5
  a5 := Tryz.isAgg5
  z5 := Tryz.sizeOf5
  v5 := Tryz.zeroValue5
  t9 := Tryz.underlying9
  a9 := Tryz.isAgg9
  z9 := Tryz.sizeOf9
  v9 := Tryz.zeroValue9
  t20 := Tryz.underlying20
  a20 := Tryz.isAgg20
  z20 := Tryz.sizeOf20
  v20 := Tryz.zeroValue20
  t37 := Tryz.underlying122
  a37 := Tryz.isAgg122
  z37 := Tryz.sizeOf122
  v37 := Tryz.zeroValue122
  t46 := Tryz.underlying341
  a46 := Tryz.isAgg341
  z46 := Tryz.sizeOf341
  v46 := Tryz.zeroValue341
  t51 := Tryz.underlying47
  a51 := Tryz.isAgg47
  z51 := Tryz.sizeOf47
  v51 := Tryz.zeroValue47
  t53 := Tryz.underlying30
  a53 := Tryz.isAgg30
  z53 := Tryz.sizeOf30
  v53 := Tryz.zeroValue30
  t70 := Tryz.underlying352
  a70 := Tryz.isAgg352
  z70 := Tryz.sizeOf352
  v70 := Tryz.zeroValue352
  t72 := Tryz.underlying354
  a72 := Tryz.isAgg354
  z72 := Tryz.sizeOf354
  v72 := Tryz.zeroValue354
  t75 := Tryz.underlying357
  a75 := Tryz.isAgg357
  z75 := Tryz.sizeOf357
  v75 := Tryz.zeroValue357
  t76 := Tryz.underlying358
  a76 := Tryz.isAgg358
  z76 := Tryz.sizeOf358
  v76 := Tryz.zeroValue358
  t109 := Tryz.underlying349
  a109 := Tryz.isAgg349
  z109 := Tryz.sizeOf349
  v109 := Tryz.zeroValue349
  t127 := Tryz.underlying384
  a127 := Tryz.isAgg384
  z127 := Tryz.sizeOf384
  v127 := Tryz.zeroValue384
  t146 := Tryz.underlying380
  a146 := Tryz.isAgg380
  z146 := Tryz.sizeOf380
  v146 := Tryz.zeroValue380
  t148 := Tryz.underlying382
  a148 := Tryz.isAgg382
  z148 := Tryz.sizeOf382
  v148 := Tryz.zeroValue382
  t164 := Tryz.underlying406
  a164 := Tryz.isAgg406
  z164 := Tryz.sizeOf406
  v164 := Tryz.zeroValue406 }
theorem Tryz.Builder_Extra_105 : Builder.Extra Tryz.prog Tryz.lays105_ren := {
  sizeBuilder := by kernel_rfl
  liesBuilder := by kernel_rfl
  t5 := Tryz.underlying5
  a5 := Tryz.isAgg5
  z5 := Tryz.sizeOf5
  v5 := Tryz.zeroValue5
  infoByte := by kernel_rfl
  cellsByte := by kernel_rfl
  sizeByte := by kernel_rfl
  neB5 := by decide }
open Go.RowKit Go.Lib in
/-- **strings.Repeat: count ≥ 0, the result within one allocation: count copies of s.** (LAID: no walk: one application.) -/
theorem Tryz.strings_Repeat (s : ByteArray) (c : Nat) (w : World) (hc : c ≤ 9223372036854775807) (hlen : s.size * c ≤ 140737488355328) :
    Calls Tryz.prog 183 #[.string s, .int .i64 c] w fun e w' => e = .returned (.string ⟨(Lib.repeatL s.data.toList c).toArray⟩) ∧ Below w.heap.size w w' := Any.strings_Repeat Tryz.lays105 Tryz.Builder_Extra_105 s c w hc hlen
open Go.RowKit Go.Sort in
/-- .. and plain. (LAID: no walk: one application.) -/
theorem Tryz.slices_Sort_int_none (p : Option Addr) (cap : Nat) (w : World) :
    Calls Tryz.prog 208 #[.slice p 0 cap] w fun e w' => e = .returned (.tuple #[]) ∧ w' = w := Any.slices_Sort_int_none Tryz.lays189 p cap w
end Go.Proofs
