/- DERIVED: THE SHELF's CONTRACTS AT THIS DUMP, IN PLAIN WORDS (tools/lay-plain.mjs out of 'YtepdkbmnkjfcpaaGreatDoorShSrc.lean', which tools/lay-shelf.mjs wrote): THE SAME DECLARATIONS UNDER THE SAME NAMES: 'import', 'namespace', 'open', 'def', 'theorem' AND NOTHING ELSE: no command of the shelf's: FOR A HAND-IN. Each laying: the table of numbers ('.._ren') and one theorem, a field a fact of the dump's own or the kernel's comparison; each contract: ONE APPLICATION. Sets of bits: the walks. -/
import Derived.Shelf.Small.Bits
import Derived.Shelf.Small.Strs
import Derived.Shelf.Strconv.Itoa0
import Derived.Ground.Names2Prog
import Derived.Shelf.Spec.TrailingZeros
import Derived.Ground.Names7Prog
import Derived.Shelf.SlIterI.Nil
import Derived.Shelf.SortM.Plain
import Derived.Shelf.SortM.SortNone
import Derived.Ground.GgzProg
import Derived.Ground.SlgmProg
import Derived.Test.YtepdkbmnkjfcpaaGreatDoorProg
import Derived.Test.YtepdkbmnkjfcpaaGreatDoorGaa
import Derived.Laws.Bits64
import Derived.Laws.Bits64b
import Derived.Laws.BitsAllLaws
namespace Go.Proofs
open Go.Shelf
def Tryz.lays213_ren : Go.Shelf.Ren := ⟨fun | 213 => 137 | 265 => 186 | n => n, fun | 9 => 9 | 3 => 3 | n => n, fun | n => n⟩
theorem Tryz.lays213 : Go.Proofs.Lays.n213 Tryz.prog Tryz.lays213_ren := {
  mixed := by kernel_rfl
  f213 := Tryz.func137.trans (congrArg some (by kernel_rfl))
  f265 := Tryz.func186.trans (congrArg some (by kernel_rfl))
  t3 := Tryz.underlying3
  a3 := Tryz.isAgg3
  z3 := Tryz.sizeOf3
  v3 := Tryz.zeroValue3
  t9 := Tryz.underlying9
  a9 := Tryz.isAgg9
  z9 := Tryz.sizeOf9
  v9 := Tryz.zeroValue9 }
open Go.RowKit in
/-- internal/bytealg.CompareString -/
theorem Tryz.bytealg_CompareString (a b : ByteArray) (w : World) :
    Calls Tryz.prog 137 #[.string a, .string b] w fun e w' => e = .returned (.int .i64 (Lib.compareBytes a.data.toList b.data.toList)) ∧ w' = w := Any.bytealg_CompareString Tryz.lays213 a b w
def Tryz.lays106_ren : Go.Shelf.Ren := ⟨fun | 106 => 101 | 213 => 137 | 265 => 186 | n => n, fun | 9 => 9 | 3 => 3 | n => n, fun | n => n⟩
theorem Tryz.lays106 : Go.Proofs.Lays.n106 Tryz.prog Tryz.lays106_ren := {
  mixed := by kernel_rfl
  f106 := Tryz.func101.trans (congrArg some (by kernel_rfl))
  f213 := Tryz.func137.trans (congrArg some (by kernel_rfl))
  f265 := Tryz.func186.trans (congrArg some (by kernel_rfl))
  t3 := Tryz.underlying3
  a3 := Tryz.isAgg3
  z3 := Tryz.sizeOf3
  v3 := Tryz.zeroValue3
  t9 := Tryz.underlying9
  a9 := Tryz.isAgg9
  z9 := Tryz.sizeOf9
  v9 := Tryz.zeroValue9 }
def Tryz.laysNm729_ren : Go.Shelf.Ren := ⟨fun | 29 => 248 | n => n, fun | 22 => 42 | 3 => 3 | 4 => 4 | 25 => 305 | 54 => 352 | 0 => 0 | 5 => 5 | n => n, fun | 1 => 1 | n => n⟩
theorem Tryz.laysNm729 : Go.Proofs.Lays7.n29 Tryz.prog Tryz.laysNm729_ren := {
  mixed := by kernel_rfl
  f29 := Tryz.func248.trans (congrArg some (by kernel_rfl))
  t0 := Tryz.underlying0
  a0 := Tryz.isAgg0
  z0 := Tryz.sizeOf0
  v0 := Tryz.zeroValue0
  i0 := by kernel_rfl
  t3 := Tryz.underlying3
  a3 := Tryz.isAgg3
  z3 := Tryz.sizeOf3
  v3 := Tryz.zeroValue3
  i3 := by kernel_rfl
  t4 := Tryz.underlying4
  a4 := Tryz.isAgg4
  z4 := Tryz.sizeOf4
  v4 := Tryz.zeroValue4
  i4 := by kernel_rfl
  t5 := Tryz.underlying5
  a5 := Tryz.isAgg5
  z5 := Tryz.sizeOf5
  v5 := Tryz.zeroValue5
  i5 := by kernel_rfl
  t22 := Tryz.underlying42
  a22 := Tryz.isAgg42
  z22 := Tryz.sizeOf42
  v22 := Tryz.zeroValue42
  i22 := by kernel_rfl
  t25 := Tryz.underlying305
  a25 := Tryz.isAgg305
  z25 := Tryz.sizeOf305
  v25 := Tryz.zeroValue305
  i25 := by kernel_rfl
  t54 := Tryz.underlying352
  a54 := Tryz.isAgg352
  z54 := Tryz.sizeOf352
  g1 := by kernel_rfl }
def Tryz.keysA_ren : Go.Shelf.Ren := ⟨fun | 7 => 185 | 10 => 223 | n => n, fun | 23 => 151 | 26 => 3 | 3 => 258 | 28 => 263 | 0 => 0 | 27 => 262 | 33 => 260 | 4 => 4 | n => n, fun | n => n⟩
theorem Tryz.keysA : Go.Proofs.SlLaysZI.n7 Tryz.prog Tryz.keysA_ren := {
  mixed := by kernel_rfl
  f7 := ⟨Tryz.f185.name, by decide, Tryz.func185.trans (congrArg some (by kernel_rfl))⟩
  f10 := ⟨Tryz.f223.name, by decide, Tryz.func223.trans (congrArg some (by kernel_rfl))⟩
  t0 := Tryz.underlying0
  a0 := Tryz.isAgg0
  z0 := Tryz.sizeOf0
  v0 := Tryz.zeroValue0
  t4 := Tryz.underlying4
  a4 := Tryz.isAgg4
  z4 := Tryz.sizeOf4
  v4 := Tryz.zeroValue4
  t23 := Tryz.underlying151
  a23 := Tryz.isAgg151
  z23 := Tryz.sizeOf151
  v23 := Tryz.zeroValue151
  t26 := Tryz.underlying3
  a26 := Tryz.isAgg3
  z26 := Tryz.sizeOf3
  v26 := Tryz.zeroValue3
  t27 := Tryz.underlying262
  a27 := Tryz.isAgg262
  z27 := Tryz.sizeOf262
  v27 := Tryz.zeroValue262
  t28 := Tryz.underlying263
  a28 := Tryz.isAgg263
  z28 := Tryz.sizeOf263
  v28 := Tryz.zeroValue263
  t33 := Tryz.underlying260
  a33 := Tryz.isAgg260
  z33 := Tryz.sizeOf260
  v33 := Tryz.zeroValue260 }
def Tryz.sortedA_ren : Go.Shelf.Ren := ⟨fun | 6 => 184 | 8 => 221 | 9 => 222 | 11 => 249 | 13 => 251 | 12 => 250 | 23 => 274 | 24 => 275 | 14 => 265 | 15 => 266 | 16 => 267 | 17 => 268 | 18 => 269 | 19 => 270 | 20 => 271 | 21 => 272 | 22 => 273 | 25 => 288 | 26 => 289 | 27 => 290 | 28 => 291 | 29 => 292 | 30 => 293 | 31 => 301 | n => n, fun | 26 => 3 | 28 => 263 | 24 => 207 | 0 => 0 | 3 => 3 | 37 => 305 | 48 => 29 | 50 => 42 | 4 => 4 | 40 => 355 | 39 => 354 | 45 => 317 | 5 => 5 | 9 => 9 | 51 => 369 | 55 => 233 | 57 => 378 | 58 => 379 | 33 => 260 | n => n, fun | n => n⟩
theorem Tryz.sortedA : Go.Proofs.SlLaysZI.n6 Tryz.prog Tryz.sortedA_ren := {
  mixed := by kernel_rfl
  f6 := ⟨Tryz.f184.name, by decide, Tryz.func184.trans (congrArg some (by kernel_rfl))⟩
  f8 := ⟨Tryz.f221.name, by decide, Tryz.func221.trans (congrArg some (by kernel_rfl))⟩
  f11 := ⟨Tryz.f249.name, by decide, Tryz.func249.trans (congrArg some (by kernel_rfl))⟩
  t0 := Tryz.underlying0
  a0 := Tryz.isAgg0
  z0 := Tryz.sizeOf0
  v0 := Tryz.zeroValue0
  t24 := Tryz.underlying207
  a24 := Tryz.isAgg207
  z24 := Tryz.sizeOf207
  v24 := Tryz.zeroValue207
  t26 := Tryz.underlying3
  a26 := Tryz.isAgg3
  z26 := Tryz.sizeOf3
  v26 := Tryz.zeroValue3
  t28 := Tryz.underlying263
  a28 := Tryz.isAgg263
  z28 := Tryz.sizeOf263
  v28 := Tryz.zeroValue263
  i26 := by kernel_rfl }
def Tryz.sortA_ren : Go.Shelf.Ren := ⟨fun | 5 => 222 | 8 => 251 | 7 => 250 | 19 => 274 | 20 => 275 | 10 => 265 | 11 => 266 | 12 => 267 | 13 => 268 | 14 => 269 | 15 => 270 | 16 => 271 | 17 => 272 | 18 => 273 | 30 => 288 | 31 => 289 | 32 => 290 | 33 => 291 | 34 => 292 | 35 => 293 | 40 => 301 | n => n, fun | 23 => 207 | 25 => 3 | 3 => 3 | 32 => 305 | 22 => 207 | 0 => 0 | 44 => 29 | 46 => 42 | 4 => 4 | 36 => 355 | 35 => 354 | 41 => 317 | 5 => 5 | 9 => 9 | 53 => 369 | 57 => 233 | 63 => 378 | 64 => 379 | n => n, fun | n => n⟩
theorem Tryz.sortA : Go.Proofs.SlLaysM.n5 Tryz.prog Tryz.sortA_ren := {
  mixed := by kernel_rfl
  f5 := ⟨Tryz.f222.name, by decide, Tryz.func222.trans (congrArg some (by kernel_rfl))⟩
  f7 := ⟨Tryz.f250.name, by decide, Tryz.func250.trans (congrArg some (by kernel_rfl))⟩
  f8 := Tryz.func251.trans (congrArg some (by kernel_rfl))
  f10 := ⟨Tryz.f265.name, by decide, Tryz.func265.trans (congrArg some (by kernel_rfl))⟩
  f11 := ⟨Tryz.f266.name, by decide, Tryz.func266.trans (congrArg some (by kernel_rfl))⟩
  f12 := ⟨Tryz.f267.name, by decide, Tryz.func267.trans (congrArg some (by kernel_rfl))⟩
  f13 := ⟨Tryz.f268.name, by decide, Tryz.func268.trans (congrArg some (by kernel_rfl))⟩
  f14 := ⟨Tryz.f269.name, by decide, Tryz.func269.trans (congrArg some (by kernel_rfl))⟩
  f15 := ⟨Tryz.f270.name, by decide, Tryz.func270.trans (congrArg some (by kernel_rfl))⟩
  f16 := ⟨Tryz.f271.name, by decide, Tryz.func271.trans (congrArg some (by kernel_rfl))⟩
  f17 := ⟨Tryz.f272.name, by decide, Tryz.func272.trans (congrArg some (by kernel_rfl))⟩
  f18 := ⟨Tryz.f273.name, by decide, Tryz.func273.trans (congrArg some (by kernel_rfl))⟩
  f19 := Tryz.func274.trans (congrArg some (by kernel_rfl))
  f20 := Tryz.func275.trans (congrArg some (by kernel_rfl))
  f30 := ⟨Tryz.f288.name, by decide, Tryz.func288.trans (congrArg some (by kernel_rfl))⟩
  f31 := Tryz.func289.trans (congrArg some (by kernel_rfl))
  f32 := Tryz.func290.trans (congrArg some (by kernel_rfl))
  f33 := ⟨Tryz.f291.name, by decide, Tryz.func291.trans (congrArg some (by kernel_rfl))⟩
  f34 := ⟨Tryz.f292.name, by decide, Tryz.func292.trans (congrArg some (by kernel_rfl))⟩
  f35 := ⟨Tryz.f293.name, by decide, Tryz.func293.trans (congrArg some (by kernel_rfl))⟩
  f40 := ⟨Tryz.f301.name, by decide, Tryz.func301.trans (congrArg some (by kernel_rfl))⟩
  t0 := Tryz.underlying0
  a0 := Tryz.isAgg0
  z0 := Tryz.sizeOf0
  v0 := Tryz.zeroValue0
  t3 := Tryz.underlying3
  a3 := Tryz.isAgg3
  z3 := Tryz.sizeOf3
  v3 := Tryz.zeroValue3
  t4 := Tryz.underlying4
  a4 := Tryz.isAgg4
  z4 := Tryz.sizeOf4
  v4 := Tryz.zeroValue4
  t5 := Tryz.underlying5
  a5 := Tryz.isAgg5
  z5 := Tryz.sizeOf5
  v5 := Tryz.zeroValue5
  t9 := Tryz.underlying9
  a9 := Tryz.isAgg9
  z9 := Tryz.sizeOf9
  v9 := Tryz.zeroValue9
  t22 := Tryz.underlying207
  a22 := Tryz.isAgg207
  z22 := Tryz.sizeOf207
  v22 := Tryz.zeroValue207
  t23 := Tryz.underlying207
  a23 := Tryz.isAgg207
  z23 := Tryz.sizeOf207
  v23 := Tryz.zeroValue207
  t25 := Tryz.underlying3
  a25 := Tryz.isAgg3
  z25 := Tryz.sizeOf3
  v25 := Tryz.zeroValue3
  t32 := Tryz.underlying305
  a32 := Tryz.isAgg305
  z32 := Tryz.sizeOf305
  v32 := Tryz.zeroValue305
  t35 := Tryz.underlying354
  a35 := Tryz.isAgg354
  z35 := Tryz.sizeOf354
  v35 := Tryz.zeroValue354
  t36 := Tryz.underlying355
  a36 := Tryz.isAgg355
  z36 := Tryz.sizeOf355
  v36 := Tryz.zeroValue355
  t41 := Tryz.underlying317
  a41 := Tryz.isAgg317
  z41 := Tryz.sizeOf317
  v41 := Tryz.zeroValue317
  t44 := Tryz.underlying29
  a44 := Tryz.isAgg29
  z44 := Tryz.sizeOf29
  v44 := Tryz.zeroValue29
  t46 := Tryz.underlying42
  a46 := Tryz.isAgg42
  z46 := Tryz.sizeOf42
  v46 := Tryz.zeroValue42
  t53 := Tryz.underlying369
  a53 := Tryz.isAgg369
  z53 := Tryz.sizeOf369
  v53 := Tryz.zeroValue369
  t57 := Tryz.underlying233
  a57 := Tryz.isAgg233
  z57 := Tryz.sizeOf233
  v57 := Tryz.zeroValue233
  t63 := Tryz.underlying378
  a63 := Tryz.isAgg378
  z63 := Tryz.sizeOf378
  v63 := Tryz.zeroValue378
  t64 := Tryz.underlying379
  a64 := Tryz.isAgg379
  z64 := Tryz.sizeOf379
  v64 := Tryz.zeroValue379 }
end Go.Proofs

namespace Go.Proofs.YtepdkbmnkjfcpaaGreatDoor
open Go.RowKit Go.BigFrame Lf

theorem pow_lt64 {k : Nat} (h : k < 64) : 2 ^ k < 18446744073709551616 := Nat.pow_lt_pow_right (n := 64) (by decide) h
theorem wrapu_pow {k : Nat} (h : k < 64) : IntKind.u64.wrap ((2 : Int) ^ k) = ((2 ^ k : Nat) : Int) := by
  have h1 := pow_lt64 h
  rw [show ((2 : Int) ^ k) = ((2 ^ k : Nat) : Int) by simp, IntKind.wrap_u64]
  generalize 2 ^ k = m at *
  omega
theorem has_bit (w k : Nat) (hw : w < 18446744073709551616) (hk : k < 64) : (bits BinOp.and IntKind.u64 ((w : Int) / 2 ^ k) 1 == 1) = bitOf w k := by
  have h1 : (w : Int) / 2 ^ k = ((w / 2 ^ k : Nat) : Int) := by simp
  have h2 : w / 2 ^ k < 18446744073709551616 := Nat.lt_of_le_of_lt (Nat.div_le_self _ _) hw
  rw [h1, show (1 : Int) = ((1 : Nat) : Int) from rfl, bits_and_u64_nat _ _ h2 (by decide)]
  unfold bitOf
  rw [decide_eq_true hk, Bool.true_and, Nat.testBit, Nat.shiftRight_eq_div_pow, Nat.and_one_is_mod, Nat.one_and_eq_mod_two]
  have := Nat.mod_two_eq_zero_or_one (w / 2 ^ k)
  generalize w / 2 ^ k % 2 = q at *
  rcases this with rfl | rfl <;> rfl

set_option maxRecDepth 100000 in
set_option maxHeartbeats 400000 in
theorem bits_has (w k : Nat) (W : World) (hw : w < 18446744073709551616) (hk : k ≤ 1000) :
    Calls Tryz.prog 215 #[.int .u64 w, .int .i64 k] W fun e w' => e = .returned (.bool (bitOf w k)) ∧ W = w' := by
  by_cases h : k < 64
  · have hb := Lib.hid (has_bit w k hw h)
    go_enter Tryz.func215, Tryz.ntmps215
    go_wp2
    go_ret
    rw [← hb.out]
    exact ⟨rfl, rfl⟩
  · have hb : bitOf w k = false := by unfold bitOf; rw [decide_eq_false h]; rfl
    have hd : ¬ (k : Int) < 64 := by omega
    rw [hb]
    go_enter Tryz.func215, Tryz.ntmps215
    go_wp2
    go_ret
    exact ⟨rfl, rfl⟩

set_option maxRecDepth 100000 in
set_option maxHeartbeats 400000 in
theorem bits_set (w k : Nat) (W : World) (hw : w < 18446744073709551616) (hk : k < 64) :
    Calls Tryz.prog 219 #[.int .u64 w, .int .i64 k] W fun e w' => e = .returned (.tuple #[.int .u64 (bitSet w k : Nat), .int .i64 0]) ∧ W = w' := by
  have hb : bits BinOp.or IntKind.u64 (w : Int) (IntKind.u64.wrap (2 ^ k)) = ((bitSet w k : Nat) : Int) := by
    rw [wrapu_pow hk, bits_or_u64_nat _ _ hw (pow_lt64 hk)]
    rfl
  have HB := Lib.hid hb
  clear hb
  go_enter Tryz.func219, Tryz.ntmps219
  go_wp2
  go_ret2
  rw [← HB.out]
  exact ⟨rfl, rfl⟩
set_option maxRecDepth 100000 in
set_option maxHeartbeats 400000 in
theorem bits_clear (w k : Nat) (W : World) (hw : w < 18446744073709551616) (hk : k < 64) :
    Calls Tryz.prog 216 #[.int .u64 w, .int .i64 k] W fun e w' => e = .returned (.tuple #[.int .u64 (bitClear w k : Nat), .int .i64 0]) ∧ W = w' := by
  have hb : bits BinOp.andNot IntKind.u64 (w : Int) (IntKind.u64.wrap (2 ^ k)) = ((bitClear w k : Nat) : Int) := by
    rw [wrapu_pow hk, u64_andNot_nat _ _ hw (pow_lt64 hk)]
    rfl
  have HB := Lib.hid hb
  clear hb
  go_enter Tryz.func216, Tryz.ntmps216
  go_wp2
  go_ret2
  rw [← HB.out]
  exact ⟨rfl, rfl⟩
set_option maxRecDepth 100000 in
set_option maxHeartbeats 400000 in
theorem bits_full (n : Nat) (W : World) (hk : n < 64) :
    Calls Tryz.prog 134 #[.int .i64 n] W fun e w' => e = .returned (.int .u64 (2 ^ n - 1 : Nat)) ∧ W = w' := by
  have hb : IntKind.u64.wrap (IntKind.u64.wrap (2 ^ n) - 1) = ((2 ^ n - 1 : Nat) : Int) := by
    have h1 := pow_lt64 hk
    have h2 : 0 < 2 ^ n := Nat.two_pow_pos n
    rw [wrapu_pow hk, IntKind.wrap_u64]
    generalize 2 ^ n = m at *
    omega
  have HB := Lib.hid hb
  clear hb
  go_enter Tryz.func134, Tryz.ntmps134
  go_wp2
  go_ret
  rw [← HB.out]
  exact ⟨rfl, rfl⟩

set_option maxRecDepth 100000 in
set_option maxHeartbeats 400000 in
theorem bits_cut (n : Nat) (W : World) (hk : n < 64) :
    Calls Tryz.prog 247 #[.int .i64 n] W fun e w' => e = .returned (.func (.func 264) #[] #[PV W.heap.size]) ∧ w' = W.alloc (.cells #[.int .u64 (2 ^ n - 1 : Nat)] 42) := by
  have hf := bits_full n W hk
  generalize 2 ^ n - 1 = m at *
  have HF := Lib.hid hf
  clear hf
  go_enter Tryz.func247, Tryz.ntmps247
  go_wp2_with fail
  refine HF.out.mono ?_
  rintro e w1 ⟨rfl, rfl⟩
  go_wp2_with fail
  go_ret
  exact ⟨rfl, rfl⟩
set_option maxRecDepth 100000 in
set_option maxHeartbeats 400000 in
theorem bits_cut1 (w m B : Nat) (W : World) (hw : w < 18446744073709551616) (hm : m < 18446744073709551616) (hB : W.cell? ⟨B, 0, none⟩ = some (.int .u64 m)) :
    Calls Tryz.prog 264 #[.int .u64 w, PV B] W fun e w' => e = .returned (.int .u64 (w &&& m : Nat)) ∧ W = w' := by
  have hb := bits_and_u64_nat w m hw hm
  have HB := Lib.hid hb
  clear hb
  go_enter Tryz.func264, Tryz.ntmps264
  go_wp2_with fail
  go_ret
  rw [← HB.out]
  exact ⟨rfl, rfl⟩

def Tab64 (w : World) : Prop := TabAt 1 Go.Lib.deBruijn64tab w
theorem Tab64.lt {w : World} (h : Tab64 w) : 1 < w.heap.size := by
  have := h 0 (by decide)
  unfold World.cell? at this
  simp only at this
  by_cases hl : 1 < w.heap.size
  · exact hl
  · rw [Array.getElem?_eq_none (by omega)] at this
    cases this
theorem Tab64.of_block {w w' : World} (h : Tab64 w) (hb : w'.heap[(1 : Nat)]? = w.heap[(1 : Nat)]?) : Tab64 w' := fun j hj => by
  rw [← h j hj]
  exact World.cell?_of_block hb
theorem Tab64.below {w w' : World} (h : Tab64 w) {n : Nat} (hb : Below n w w') (hn : w.heap.size ≤ n) : Tab64 w' := h.of_block (hb.block _ (Nat.lt_of_lt_of_le h.lt hn))

/-- the least number that is not there, or -1 -/
def freeI (w n : Nat) : Int := match bitFree w n with | some k => k | none => -1
theorem left_bit {w n j : Nat} (hw : w < 18446744073709551616) (hn : n < 64) : ((18446744073709551615 - w) &&& (2 ^ n - 1)).testBit j = (decide (j < n) && !w.testBit j) := by
  rw [Nat.testBit_and, Nat.testBit_two_pow_sub_one, show 18446744073709551615 - w = 2 ^ 64 - (w + 1) by omega, Nat.testBit_two_pow_sub_succ (by omega)]
  by_cases h : j < n
  · simp [h, show j < 64 by omega]
  · simp [h]
theorem free_none {w n : Nat} (hw : w < 18446744073709551616) (hn : n < 64) (h : (18446744073709551615 - w) &&& (2 ^ n - 1) = 0) : freeI w n = -1 := by
  have : bitFree w n = none := by
    unfold bitFree
    rw [List.find?_eq_none]
    intro j hj
    have hb := left_bit (w := w) (n := n) (j := j) hw hn
    rw [h, Nat.zero_testBit] at hb
    have hj' : j < n := by simpa using hj
    simpa [hj'] using hb
  unfold freeI
  rw [this]
theorem free_some {w n : Nat} (hw : w < 18446744073709551616) (hn : n < 64) (h : (18446744073709551615 - w) &&& (2 ^ n - 1) ≠ 0) : freeI w n = (Go.Lib.ctz 64 ((18446744073709551615 - w) &&& (2 ^ n - 1)) : Nat) := by
  obtain ⟨x, hx⟩ : ∃ x, (18446744073709551615 - w) &&& (2 ^ n - 1) = x := ⟨_, rfl⟩
  have hb := fun j => left_bit (w := w) (n := n) (j := j) hw hn
  rw [hx] at h hb ⊢
  have hlt : x < 2 ^ 64 := by rw [← hx]; exact Nat.and_lt_two_pow _ (Nat.lt_of_le_of_lt (Nat.sub_le _ _) (Nat.pow_lt_pow_right (by decide) hn))
  obtain ⟨m, hm, hc⟩ := Go.Lib.ctzFrom_spec 64 x (Nat.pos_of_ne_zero h) hlt
  have hcz : Go.Lib.ctz 64 x = Go.Lib.ctzFrom 64 x := by unfold Go.Lib.ctz; rw [if_neg h]
  rw [hcz]
  generalize Go.Lib.ctzFrom 64 x = c at *
  have b1 : x.testBit c = true := by
    rw [hm, Nat.testBit_two_pow_mul]
    simp
  have b2 : ∀ j, j < c → x.testBit j = false := fun j hj => by
    rw [hm, Nat.testBit_two_pow_mul]
    have : ¬ c ≤ j := by omega
    simp [this]
  rw [hb c] at b1
  simp at b1
  have : bitFree w n = some c := by
    unfold bitFree
    rw [List.find?_range_eq_some]
    refine ⟨by simp [b1.2], by simpa using b1.1, fun j hj => ?_⟩
    have := b2 j hj
    rw [hb j] at this
    have hjn : j < n := by omega
    simpa [hjn] using this
  unfold freeI
  rw [this]

set_option maxRecDepth 100000 in
set_option maxHeartbeats 800000 in
theorem bits_free (w n : Nat) (W : World) (hw : w < 18446744073709551616) (hk : n < 64) (hT : Tab64 W) :
    Calls Tryz.prog 218 #[.int .u64 w, .int .i64 n] W fun e w' => e = .returned (.int .i64 (freeI w n)) ∧ Below W.heap.size W w' := by
  have hf := bits_cut n W hk
  have hm : 2 ^ n - 1 < 18446744073709551616 := by have := pow_lt64 hk; omega
  have h0 := fun h => free_none (w := w) (n := n) hw hk h
  have h1 := fun h => free_some (w := w) (n := n) hw hk h
  have hbw : Below W.heap.size W (W.alloc (.cells #[.int .u64 (2 ^ n - 1 : Nat)] 42)) := (Below.refl _ W).alloc (Nat.le_refl _) _
  have hc := bits_cut1 (18446744073709551615 - w) (2 ^ n - 1) W.heap.size (W.alloc (.cells #[.int .u64 (2 ^ n - 1 : Nat)] 42)) (by omega) hm (by simp)
  have hlt : (18446744073709551615 - w) &&& (2 ^ n - 1) < 18446744073709551616 := Nat.lt_of_le_of_lt Nat.and_le_left (by omega)
  have hz := Any7.bits_TrailingZeros64 Tryz.laysNm729 ((18446744073709551615 - w) &&& (2 ^ n - 1)) hlt (W.alloc (.cells #[.int .u64 (2 ^ n - 1 : Nat)] 42)) (fun _ => hT.below hbw (Nat.le_refl _))
  change Calls _ 248 _ _ _ at hz
  have hx : bits BinOp.xor IntKind.u64 IntKind.u64.max (w : Int) = ((18446744073709551615 - w : Nat) : Int) := by
    rw [show IntKind.u64.max = ((18446744073709551615 : Nat) : Int) from rfl, bits_xor_u64_nat _ _ (by decide) hw]
    congr 1
    refine Nat.eq_of_testBit_eq fun i => ?_
    rw [Nat.testBit_xor, show 18446744073709551615 - w = 2 ^ 64 - (w + 1) by omega, Nat.testBit_two_pow_sub_succ (by omega), show 18446744073709551615 = 2 ^ 64 - 1 from rfl, Nat.testBit_two_pow_sub_one]
    by_cases hi : i < 64
    · simp [hi]
    · have : w.testBit i = false := Nat.testBit_lt_two_pow (Nat.lt_of_lt_of_le hw (Nat.pow_le_pow_right (n := 2) (by decide) (show 64 ≤ i by omega)))
      simp [hi, this]
  generalize (18446744073709551615 - w) &&& (2 ^ n - 1) = x at *
  generalize freeI w n = fr at *
  generalize hv : 18446744073709551615 - w = v at *
  generalize 2 ^ n - 1 = m at *
  have HF := Lib.hid (And.intro hf (And.intro hc (And.intro hz hbw)))
  clear hf hc hz hbw hv
  by_cases hx0 : x = 0
  · subst hx0
    obtain rfl := h0 rfl
    clear h0 h1
    go_enter Tryz.func218, Tryz.ntmps218
    go_wp2_with fail
    refine HF.out.1.mono ?_
    rintro e w1 ⟨rfl, rfl⟩
    go_wp2_with fail
    refine HF.out.2.1.mono ?_
    rintro e w1 ⟨rfl, rfl⟩
    go_wp2_with fail
    go_ret
    exact ⟨rfl, HF.out.2.2.2⟩
  · obtain rfl := h1 hx0
    have hx1 : ((x : Int) == 0) = false := by simp; omega
    have hx2 : ¬ (x : Int) = 0 := by omega
    clear h0 h1 hx0
    go_enter Tryz.func218, Tryz.ntmps218
    go_wp2_with fail
    refine HF.out.1.mono ?_
    rintro e w1 ⟨rfl, rfl⟩
    go_wp2_with fail
    refine HF.out.2.1.mono ?_
    rintro e w1 ⟨rfl, rfl⟩
    go_wp2_with fail
    refine HF.out.2.2.1.mono ?_
    rintro e w1 ⟨rfl, rfl⟩
    go_wp2_with fail
    go_ret
    exact ⟨rfl, HF.out.2.2.2⟩
end Go.Proofs.YtepdkbmnkjfcpaaGreatDoor
