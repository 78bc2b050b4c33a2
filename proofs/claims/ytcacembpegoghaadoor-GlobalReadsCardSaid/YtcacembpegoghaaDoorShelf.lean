/-
  The kit's contracts of Go's library, laid at this dump by the kit's own program (lay-shelf.mjs, lay-plain.mjs); remarks struck.
-/
import Derived.Shelf.Strings.Trim
import Derived.Shelf.Small.Utf8
import Derived.Shelf.Small.Strs
import Derived.Shelf.Small.Wraps
import Derived.Shelf.Strings.Search1
import Derived.Shelf.Strings.AsciiSet
import Derived.Shelf.Slices.Turned
import Derived.Shelf.Slices.Equal
import Derived.Shelf.Slices.Clone
import Derived.Shelf.Slices.SearchI
import Derived.Shelf.Slices.Empties2
import Derived.Shelf.Unicode.DecodeSlow
import Derived.Below
import Derived.Deep.LoopGhost
import Derived.Test.YtcacembpegoghaaDoorProg
namespace Go.Proofs
open Go.Shelf
def Tryd.lays161_ren : Go.Shelf.Ren := ⟨fun | 161 => 247 | 231 => 248 | 227 => 250 | 233 => 251 | 235 => 253 | 228 => 285 | 197 => 168 | 151 => 286 | 260 => 241 | 152 => 303 | 137 => 214 | 119 => 307 | 224 => 308 | 225 => 309 | 217 => 266 | 266 => 296 | n => n, fun | 9 => 9 | 4 => 4 | 3 => 3 | 5 => 5 | 117 => 310 | 116 => 309 | 0 => 0 | 124 => 313 | 105 => 226 | 21 => 21 | 119 => 269 | 46 => 273 | 139 => 272 | 138 => 271 | n => n, fun | 3 => 2 | 4 => 3 | n => n⟩
theorem Tryd.lays161 : Go.Proofs.Lays.n161 Tryd.prog Tryd.lays161_ren := {
  mixed := by kernel_rfl
  f119 := Tryd.func307.trans (congrArg some (by kernel_rfl))
  f137 := Tryd.func214.trans (congrArg some (by kernel_rfl))
  f151 := Tryd.func286.trans (congrArg some (by kernel_rfl))
  f152 := Tryd.func303.trans (congrArg some (by kernel_rfl))
  f161 := Tryd.func247.trans (congrArg some (by kernel_rfl))
  f197 := Tryd.func168.trans (congrArg some (by kernel_rfl))
  f217 := Tryd.func266.trans (congrArg some (by kernel_rfl))
  f224 := Tryd.func308.trans (congrArg some (by kernel_rfl))
  f225 := Tryd.func309.trans (congrArg some (by kernel_rfl))
  f227 := Tryd.func250.trans (congrArg some (by kernel_rfl))
  f228 := Tryd.func285.trans (congrArg some (by kernel_rfl))
  f231 := Tryd.func248.trans (congrArg some (by kernel_rfl))
  f233 := Tryd.func251.trans (congrArg some (by kernel_rfl))
  f235 := Tryd.func253.trans (congrArg some (by kernel_rfl))
  f260 := Tryd.func241.trans (congrArg some (by kernel_rfl))
  f266 := Tryd.func296.trans (congrArg some (by kernel_rfl))
  t0 := Tryd.underlying0
  a0 := Tryd.isAgg0
  z0 := Tryd.sizeOf0
  v0 := Tryd.zeroValue0
  t3 := Tryd.underlying3
  a3 := Tryd.isAgg3
  z3 := Tryd.sizeOf3
  v3 := Tryd.zeroValue3
  t4 := Tryd.underlying4
  a4 := Tryd.isAgg4
  z4 := Tryd.sizeOf4
  v4 := Tryd.zeroValue4
  t5 := Tryd.underlying5
  a5 := Tryd.isAgg5
  z5 := Tryd.sizeOf5
  v5 := Tryd.zeroValue5
  t9 := Tryd.underlying9
  a9 := Tryd.isAgg9
  z9 := Tryd.sizeOf9
  v9 := Tryd.zeroValue9
  t21 := Tryd.underlying21
  a21 := Tryd.isAgg21
  z21 := Tryd.sizeOf21
  v21 := Tryd.zeroValue21
  t46 := Tryd.underlying273
  a46 := Tryd.isAgg273
  z46 := Tryd.sizeOf273
  v46 := Tryd.zeroValue273
  t105 := Tryd.underlying226
  a105 := Tryd.isAgg226
  z105 := Tryd.sizeOf226
  v105 := Tryd.zeroValue226
  t116 := Tryd.underlying309
  a116 := Tryd.isAgg309
  z116 := Tryd.sizeOf309
  t117 := Tryd.underlying310
  a117 := Tryd.isAgg310
  z117 := Tryd.sizeOf310
  v117 := Tryd.zeroValue310
  t119 := Tryd.underlying269
  a119 := Tryd.isAgg269
  z119 := Tryd.sizeOf269
  t124 := Tryd.underlying313
  a124 := Tryd.isAgg313
  z124 := Tryd.sizeOf313
  v124 := Tryd.zeroValue313
  t138 := Tryd.underlying271
  a138 := Tryd.isAgg271
  z138 := Tryd.sizeOf271
  v138 := Tryd.zeroValue271
  t139 := Tryd.underlying272
  a139 := Tryd.isAgg272
  z139 := Tryd.sizeOf272
  v139 := Tryd.zeroValue272
  g3 := by kernel_rfl
  g4 := by kernel_rfl }
open Go.RowKit in
def Tryd.lays160_ren : Go.Shelf.Ren := ⟨fun | 160 => 195 | 232 => 249 | 231 => 248 | 227 => 250 | 234 => 252 | 233 => 251 | 236 => 254 | 235 => 253 | 228 => 285 | 271 => 287 | 151 => 286 | 197 => 168 | 120 => 92 | 152 => 303 | 260 => 241 | 137 => 214 | 119 => 307 | 224 => 308 | 225 => 309 | 217 => 266 | 266 => 296 | n => n, fun | 9 => 9 | 4 => 4 | 3 => 3 | 5 => 5 | 117 => 310 | 116 => 309 | 0 => 0 | 124 => 313 | 21 => 21 | 105 => 226 | 46 => 273 | 119 => 269 | 139 => 272 | 138 => 271 | n => n, fun | 3 => 2 | 4 => 3 | n => n⟩
theorem Tryd.lays160 : Go.Proofs.Lays.n160 Tryd.prog Tryd.lays160_ren := {
  mixed := by kernel_rfl
  f119 := Tryd.func307.trans (congrArg some (by kernel_rfl))
  f120 := Tryd.func92.trans (congrArg some (by kernel_rfl))
  f137 := Tryd.func214.trans (congrArg some (by kernel_rfl))
  f151 := Tryd.func286.trans (congrArg some (by kernel_rfl))
  f152 := Tryd.func303.trans (congrArg some (by kernel_rfl))
  f160 := Tryd.func195.trans (congrArg some (by kernel_rfl))
  f197 := Tryd.func168.trans (congrArg some (by kernel_rfl))
  f217 := Tryd.func266.trans (congrArg some (by kernel_rfl))
  f224 := Tryd.func308.trans (congrArg some (by kernel_rfl))
  f225 := Tryd.func309.trans (congrArg some (by kernel_rfl))
  f227 := Tryd.func250.trans (congrArg some (by kernel_rfl))
  f228 := Tryd.func285.trans (congrArg some (by kernel_rfl))
  f231 := Tryd.func248.trans (congrArg some (by kernel_rfl))
  f232 := Tryd.func249.trans (congrArg some (by kernel_rfl))
  f233 := Tryd.func251.trans (congrArg some (by kernel_rfl))
  f234 := Tryd.func252.trans (congrArg some (by kernel_rfl))
  f235 := Tryd.func253.trans (congrArg some (by kernel_rfl))
  f236 := Tryd.func254.trans (congrArg some (by kernel_rfl))
  f260 := Tryd.func241.trans (congrArg some (by kernel_rfl))
  f266 := Tryd.func296.trans (congrArg some (by kernel_rfl))
  f271 := Tryd.func287.trans (congrArg some (by kernel_rfl))
  t0 := Tryd.underlying0
  a0 := Tryd.isAgg0
  z0 := Tryd.sizeOf0
  v0 := Tryd.zeroValue0
  t3 := Tryd.underlying3
  a3 := Tryd.isAgg3
  z3 := Tryd.sizeOf3
  v3 := Tryd.zeroValue3
  t4 := Tryd.underlying4
  a4 := Tryd.isAgg4
  z4 := Tryd.sizeOf4
  v4 := Tryd.zeroValue4
  t5 := Tryd.underlying5
  a5 := Tryd.isAgg5
  z5 := Tryd.sizeOf5
  v5 := Tryd.zeroValue5
  t9 := Tryd.underlying9
  a9 := Tryd.isAgg9
  z9 := Tryd.sizeOf9
  v9 := Tryd.zeroValue9
  t21 := Tryd.underlying21
  a21 := Tryd.isAgg21
  z21 := Tryd.sizeOf21
  v21 := Tryd.zeroValue21
  t46 := Tryd.underlying273
  a46 := Tryd.isAgg273
  z46 := Tryd.sizeOf273
  v46 := Tryd.zeroValue273
  t105 := Tryd.underlying226
  a105 := Tryd.isAgg226
  z105 := Tryd.sizeOf226
  v105 := Tryd.zeroValue226
  t116 := Tryd.underlying309
  a116 := Tryd.isAgg309
  z116 := Tryd.sizeOf309
  t117 := Tryd.underlying310
  a117 := Tryd.isAgg310
  z117 := Tryd.sizeOf310
  v117 := Tryd.zeroValue310
  t119 := Tryd.underlying269
  a119 := Tryd.isAgg269
  z119 := Tryd.sizeOf269
  t124 := Tryd.underlying313
  a124 := Tryd.isAgg313
  z124 := Tryd.sizeOf313
  v124 := Tryd.zeroValue313
  t138 := Tryd.underlying271
  a138 := Tryd.isAgg271
  z138 := Tryd.sizeOf271
  v138 := Tryd.zeroValue271
  t139 := Tryd.underlying272
  a139 := Tryd.isAgg272
  z139 := Tryd.sizeOf272
  v139 := Tryd.zeroValue272
  g3 := by kernel_rfl
  g4 := by kernel_rfl }
open Go.RowKit in
def Tryd.lays109_ren : Go.Shelf.Ren := ⟨fun | 109 => 176 | n => n, fun | 31 => 39 | 9 => 9 | 3 => 3 | 0 => 0 | 4 => 4 | n => n, fun | n => n⟩
theorem Tryd.lays109 : Go.Proofs.Lays.n109 Tryd.prog Tryd.lays109_ren := {
  mixed := by kernel_rfl
  f109 := Tryd.func176.trans (congrArg some (by kernel_rfl))
  t0 := Tryd.underlying0
  a0 := Tryd.isAgg0
  z0 := Tryd.sizeOf0
  v0 := Tryd.zeroValue0
  t3 := Tryd.underlying3
  a3 := Tryd.isAgg3
  z3 := Tryd.sizeOf3
  v3 := Tryd.zeroValue3
  t4 := Tryd.underlying4
  a4 := Tryd.isAgg4
  z4 := Tryd.sizeOf4
  v4 := Tryd.zeroValue4
  t9 := Tryd.underlying9
  a9 := Tryd.isAgg9
  z9 := Tryd.sizeOf9
  v9 := Tryd.zeroValue9
  t31 := Tryd.underlying39
  a31 := Tryd.isAgg39
  z31 := Tryd.sizeOf39
  v31 := Tryd.zeroValue39 }
open Go.Lib in
theorem Tryd.slices_Index_string (b off n c : Nat) (zs : List ByteArray) (x : ByteArray) (w : World) (hz : n ≤ zs.length) (hbig : n ≤ 9223372036854775807) (hc : ∀ j, j < zs.length → w.cell? ⟨b, off + j, none⟩ = some (.string (zs.getD j ByteArray.empty))) :
    Calls Tryd.prog 176 #[.slice (some ⟨b, off, none⟩) n c, .string x] w fun e w' => e = .returned (.int .i64 (Lib.idxOfS (zs.take n) x)) ∧ w' = w := Any.slices_Index_string Tryd.lays109 b off n c zs x w hz hbig hc
open Go.Lib in
theorem Tryd.slices_Index_string_empty (a : Option Addr) (c : Nat) (x : ByteArray) (w : World) :
    Calls Tryd.prog 176 #[.slice a 0 c, .string x] w fun e w' => e = .returned (.int .i64 (Lib.idxOfS [] x)) ∧ w' = w := Any.slices_Index_string_empty Tryd.lays109 a c x w
def Tryd.lays110_ren : Go.Shelf.Ren := ⟨fun | 110 => 103 | 109 => 176 | n => n, fun | 31 => 39 | 9 => 9 | 4 => 4 | 3 => 3 | 0 => 0 | n => n, fun | n => n⟩
theorem Tryd.lays110 : Go.Proofs.Lays.n110 Tryd.prog Tryd.lays110_ren := {
  mixed := by kernel_rfl
  f109 := Tryd.func176.trans (congrArg some (by kernel_rfl))
  f110 := Tryd.func103.trans (congrArg some (by kernel_rfl))
  t0 := Tryd.underlying0
  a0 := Tryd.isAgg0
  z0 := Tryd.sizeOf0
  v0 := Tryd.zeroValue0
  t3 := Tryd.underlying3
  a3 := Tryd.isAgg3
  z3 := Tryd.sizeOf3
  v3 := Tryd.zeroValue3
  t4 := Tryd.underlying4
  a4 := Tryd.isAgg4
  z4 := Tryd.sizeOf4
  v4 := Tryd.zeroValue4
  t9 := Tryd.underlying9
  a9 := Tryd.isAgg9
  z9 := Tryd.sizeOf9
  v9 := Tryd.zeroValue9
  t31 := Tryd.underlying39
  a31 := Tryd.isAgg39
  z31 := Tryd.sizeOf39
  v31 := Tryd.zeroValue39 }
open Go.Lib in
theorem Tryd.slices_Contains_string (b off n c : Nat) (zs : List ByteArray) (x : ByteArray) (w : World) (hz : n ≤ zs.length) (hbig : n ≤ 9223372036854775807) (hc : ∀ j, j < zs.length → w.cell? ⟨b, off + j, none⟩ = some (.string (zs.getD j ByteArray.empty))) :
    Calls Tryd.prog 103 #[.slice (some ⟨b, off, none⟩) n c, .string x] w fun e w' => e = .returned (.bool (Lib.containsS (zs.take n) x)) ∧ w' = w := Any.slices_Contains_string Tryd.lays110 b off n c zs x w hz hbig hc
open Go.Lib in
theorem Tryd.slices_Contains_string_empty (a : Option Addr) (c : Nat) (x : ByteArray) (w : World) :
    Calls Tryd.prog 103 #[.slice a 0 c, .string x] w fun e w' => e = .returned (.bool false) ∧ w' = w := Any.slices_Contains_string_empty Tryd.lays110 a c x w
def Tryd.lays193_ren : Go.Shelf.Ren := ⟨fun | 193 => 104 | n => n, fun | 31 => 39 | 9 => 9 | 4 => 4 | 3 => 3 | 0 => 0 | n => n, fun | n => n⟩
theorem Tryd.lays193 : Go.Proofs.Lays.n193 Tryd.prog Tryd.lays193_ren := {
  mixed := by kernel_rfl
  f193 := Tryd.func104.trans (congrArg some (by kernel_rfl))
  t0 := Tryd.underlying0
  a0 := Tryd.isAgg0
  z0 := Tryd.sizeOf0
  v0 := Tryd.zeroValue0
  t3 := Tryd.underlying3
  a3 := Tryd.isAgg3
  z3 := Tryd.sizeOf3
  v3 := Tryd.zeroValue3
  t4 := Tryd.underlying4
  a4 := Tryd.isAgg4
  z4 := Tryd.sizeOf4
  v4 := Tryd.zeroValue4
  t9 := Tryd.underlying9
  a9 := Tryd.isAgg9
  z9 := Tryd.sizeOf9
  v9 := Tryd.zeroValue9
  t31 := Tryd.underlying39
  a31 := Tryd.isAgg39
  z31 := Tryd.sizeOf39
  v31 := Tryd.zeroValue39 }
open Go.RowKit Go.Lib in
theorem Tryd.slices_Equal_string (b1 o1 n c b2 o2 m d : Nat) (xs ys : List ByteArray) (w : World) (hx : n ≤ xs.length) (hy : m ≤ ys.length) (hbig : n ≤ 9223372036854775807) (hbig2 : m ≤ 9223372036854775807) (hc1 : ∀ j, j < xs.length → w.cell? ⟨b1, o1 + j, none⟩ = some (.string (xs.getD j ByteArray.empty))) (hc2 : ∀ j, j < ys.length → w.cell? ⟨b2, o2 + j, none⟩ = some (.string (ys.getD j ByteArray.empty))) :
    Calls Tryd.prog 104 #[.slice (some ⟨b1, o1, none⟩) n c, .slice (some ⟨b2, o2, none⟩) m d] w fun e w' => e = .returned (.bool (decide (xs.take n = ys.take m))) ∧ ∃ q, w' = w.drewN q := Any.slices_Equal_string Tryd.lays193 b1 o1 n c b2 o2 m d xs ys w hx hy hbig hbig2 hc1 hc2
open Go.RowKit Go.Lib in
theorem Tryd.slices_Equal_string_empty (a1 a2 : Option Addr) (c m d : Nat) (w : World) (hbig2 : m ≤ 9223372036854775807) :
    Calls Tryd.prog 104 #[.slice a1 0 c, .slice a2 m d] w fun e w' => e = .returned (.bool (decide (m = 0))) ∧ w' = w := Any.slices_Equal_string_empty Tryd.lays193 a1 a2 c m d w hbig2
def Tryd.laysNm216_ren : Go.Shelf.Ren := ⟨fun | 16 => 147 | n => n, fun | 24 => 39 | 9 => 9 | 4 => 4 | n => n, fun | n => n⟩
theorem Tryd.laysNm216 : Go.Proofs.Lays2.n16 Tryd.prog Tryd.laysNm216_ren := {
  mixed := by kernel_rfl
  f16 := Tryd.func147.trans (congrArg some (by kernel_rfl))
  t4 := Tryd.underlying4
  a4 := Tryd.isAgg4
  z4 := Tryd.sizeOf4
  v4 := Tryd.zeroValue4
  t9 := Tryd.underlying9
  a9 := Tryd.isAgg9
  z9 := Tryd.sizeOf9
  v9 := Tryd.zeroValue9
  t24 := Tryd.underlying39
  a24 := Tryd.isAgg39
  z24 := Tryd.sizeOf39
  v24 := Tryd.zeroValue39
  i9 := by kernel_rfl }
open Go.RowKit Go.Lib in
theorem Tryd.slices_Clone_string (b off n c : Nat) (zs : List ByteArray) (w : World) (hz : n ≤ zs.length) (hbig : n * 16 ≤ 140737488355328) (hc : ∀ j, j < zs.length → w.cell? ⟨b, off + j, none⟩ = some (.string (zs.getD j ByteArray.empty))) :
    Calls Tryd.prog 147 #[.slice (some ⟨b, off, none⟩) n c] w fun e w' => ∃ v', e = .returned v' ∧ w'.ownsRow w.heap.size 9 1 v' n ((zs.take n).map (Value.string)) ∧ v' ≠ .slice none 0 0 ∧ Below w.heap.size w w' := Any.slices_Clone_string Tryd.laysNm216 b off n c zs w hz hbig hc
open Go.RowKit Go.Lib in
theorem Tryd.slices_Clone_string_nil (n c : Nat) (w : World) :
    Calls Tryd.prog 147 #[.slice none n c] w fun e w' => e = .returned (.slice none 0 0) ∧ w' = w := Any.slices_Clone_string_nil Tryd.laysNm216 n c w
open Go.RowKit Go.Lib in
theorem Tryd.slices_Clone_string_zero (a : Addr) (c : Nat) (w : World) :
    Calls Tryd.prog 147 #[.slice (some a) 0 c] w fun e w' => ∃ v', e = .returned v' ∧ w'.ownsRow w.heap.size 9 1 v' 0 [] ∧ v' ≠ .slice none 0 0 ∧ Below w.heap.size w w' := Any.slices_Clone_string_zero Tryd.laysNm216 a c w
theorem Tryd.slices_Equal_string_lens (a1 a2 : Option Addr) (n c m d : Nat) (w : World) (hnm : n ≠ m) :
    Calls Tryd.prog 104 #[.slice a1 n c, .slice a2 m d] w fun e w' => e = .returned (.bool false) ∧ w' = w := Any.slices_Equal_string_lens Tryd.lays193 a1 a2 n c m d w hnm
def Tryd.lays196_ren : Go.Shelf.Ren := ⟨fun | 196 => 138 | 259 => 221 | n => n, fun | 9 => 9 | 4 => 4 | 3 => 3 | 5 => 5 | 12 => 12 | 119 => 269 | 0 => 0 | 46 => 273 | 139 => 272 | 138 => 271 | 53 => 316 | n => n, fun | 3 => 2 | 4 => 3 | n => n⟩
theorem Tryd.lays196 : Go.Proofs.Lays.n196 Tryd.prog Tryd.lays196_ren := {
  mixed := by kernel_rfl
  f196 := Tryd.func138.trans (congrArg some (by kernel_rfl))
  f259 := Tryd.func221.trans (congrArg some (by kernel_rfl))
  t0 := Tryd.underlying0
  a0 := Tryd.isAgg0
  z0 := Tryd.sizeOf0
  v0 := Tryd.zeroValue0
  t3 := Tryd.underlying3
  a3 := Tryd.isAgg3
  z3 := Tryd.sizeOf3
  v3 := Tryd.zeroValue3
  t4 := Tryd.underlying4
  a4 := Tryd.isAgg4
  z4 := Tryd.sizeOf4
  v4 := Tryd.zeroValue4
  t5 := Tryd.underlying5
  a5 := Tryd.isAgg5
  z5 := Tryd.sizeOf5
  v5 := Tryd.zeroValue5
  t9 := Tryd.underlying9
  a9 := Tryd.isAgg9
  z9 := Tryd.sizeOf9
  v9 := Tryd.zeroValue9
  t12 := Tryd.underlying12
  a12 := Tryd.isAgg12
  z12 := Tryd.sizeOf12
  v12 := Tryd.zeroValue12
  t46 := Tryd.underlying273
  a46 := Tryd.isAgg273
  z46 := Tryd.sizeOf273
  v46 := Tryd.zeroValue273
  t53 := Tryd.underlying316
  a53 := Tryd.isAgg316
  z53 := Tryd.sizeOf316
  v53 := Tryd.zeroValue316
  t119 := Tryd.underlying269
  a119 := Tryd.isAgg269
  z119 := Tryd.sizeOf269
  t138 := Tryd.underlying271
  a138 := Tryd.isAgg271
  z138 := Tryd.sizeOf271
  v138 := Tryd.zeroValue271
  t139 := Tryd.underlying272
  a139 := Tryd.isAgg272
  z139 := Tryd.sizeOf272
  v139 := Tryd.zeroValue272
  g3 := by kernel_rfl
  g4 := by kernel_rfl }
end Go.Proofs
