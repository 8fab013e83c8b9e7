/- The classes: Of beyond the bounds, Pages, Place; a place on a page: the walks. DERIVED: THE SHELF's CONTRACTS AT THIS DUMP, IN PLAIN WORDS (tools/lay-plain.mjs out of 'YtepdkbmnkjfcpaaGreatDoorShSrc.lean', which tools/lay-shelf.mjs wrote): THE SAME DECLARATIONS UNDER THE SAME NAMES: 'import', 'namespace', 'open', 'def', 'theorem' AND NOTHING ELSE: no command of the shelf's: FOR A HAND-IN. Each laying: the table of numbers ('.._ren') and one theorem, a field a fact of the dump's own or the kernel's comparison; each contract: ONE APPLICATION. Sets of bits: the walks. The arena: where a word is, Read and Write: the walks. -/
import Derived.Test.YtepdkbmnkjfcpaaGreatDoorVaa
import Derived.Shelf.Small.Bits
import Derived.Shelf.Small.Strs
import Derived.Shelf.Strconv.Itoa0
import Derived.Ground.Names2Prog
import Derived.Shelf.Spec.TrailingZeros
import Derived.Ground.Names7Prog
import Derived.Shelf.SlIterI.Nil
import Derived.Shelf.SortM.Plain
import Derived.Shelf.SortM.SortNone
import Derived.Ground.GgzProg
import Derived.Ground.SlgmProg
import Derived.Test.YtepdkbmnkjfcpaaGreatDoorProg
import Derived.Laws.Bits64
import Derived.Laws.Bits64b
import Derived.Laws.BitsAllLaws
set_option maxRecDepth 100000
set_option maxHeartbeats 1000000
namespace Go.Proofs.YtepdkbmnkjfcpaaGreatDoor
open Go.RowKit Go.BigFrame Lf
open Go.Shelf
theorem below4 (w : World) (a b c d : Obj) : Below w.heap.size w ((((w.alloc a).alloc b).alloc c).alloc d) :=
  ((((Below.refl _ w).alloc (Nat.le_refl _) _).alloc (by simp) _).alloc (by simp; omega) _).alloc (by simp; omega) _
theorem class_of_out (x : Int) (w : World) (hx : x < 1 ∨ 4000 < x) :
    Calls Tryz.prog 171 #[.int .i64 x] w fun e w' => e = .returned (.tuple #[.int .i64 (ofRes x).1, .bool (ofRes x).2.1, .int .i64 (ofRes x).2.2]) ∧ Below w.heap.size w w' := by
  rw [ofRes_out hx]
  rcases hx with hx | hx
  · go_enter Tryz.func171, Tryz.ntmps171
    go_wp2_with fail
    exact bodyPost_ret (v := .tuple #[.int .i64 0, .bool false, .int .i64 2]) (by simp [results, Tryz.f171, go_sem]) rfl ⟨rfl, below4 w _ _ _ _⟩
  · have h1 : 1 ≤ x := by omega
    go_enter Tryz.func171, Tryz.ntmps171
    go_wp2_with fail
    exact bodyPost_ret (v := .tuple #[.int .i64 0, .bool false, .int .i64 2]) (by simp [results, Tryz.f171, go_sem]) rfl ⟨rfl, below4 w _ _ _ _⟩
theorem class_of (x : Int) (w : World) :
    Calls Tryz.prog 171 #[.int .i64 x] w fun e w' => e = .returned (.tuple #[.int .i64 (ofRes x).1, .bool (ofRes x).2.1, .int .i64 (ofRes x).2.2]) ∧ Below w.heap.size w w' := by
  by_cases h : x < 1 ∨ 4000 < x
  · exact class_of_out x w h
  · exact class_of_in x w (by omega) (by omega)
theorem ofRes_nat (n : Nat) : (n < 1 ∨ 4000 < n) ∧ ofRes n = (0, false, 2) ∧ classPages n = 0 ∨ (1 ≤ n ∧ n ≤ 4000) ∧ ((∃ c, classOf n = some c ∧ ofRes n = (c, true, 0) ∧ classPages n = 1) ∨ (classOf n = none ∧ ofRes n = (0, false, 0) ∧ classPages n = (n + 65) / 64)) := by
  by_cases h : n < 1 ∨ 4000 < n
  · exact Or.inl ⟨h, ofRes_out (by omega), by unfold classPages; rw [if_pos h]⟩
  · refine Or.inr ⟨by omega, ?_⟩
    have h1 : ¬ ((n : Int) < 1 ∨ 4000 < (n : Int)) := by omega
    unfold ofRes classPages
    rw [if_neg h1, if_neg h, Int.toNat_natCast]
    cases classOf n with
    | none => exact Or.inr ⟨rfl, rfl, rfl⟩
    | some c => exact Or.inl ⟨c, rfl, rfl, rfl⟩
theorem class_pages (n : Nat) (w : World) (hn : n ≤ 4000) (h1 : 1 ≤ n) :
    Calls Tryz.prog 172 #[.int .i64 n] w fun e w' => e = .returned (.tuple #[.int .i64 (classPages n : Nat), .int .i64 0]) ∧ Below w.heap.size w w' := by
  have ho := class_of n w
  rcases ofRes_nat n with ⟨h, _⟩ | ⟨_, ⟨c, _, h2, h3⟩ | ⟨_, h2, h3⟩⟩
  · omega
  · rw [h2] at ho
    rw [h3]
    have HO := Lib.hid ho
    clear ho h2 h3
    go_enter Tryz.func172, Tryz.ntmps172
    go_wp2_with fail
    refine HO.out.mono ?_
    rintro e w1 ⟨rfl, hb⟩
    go_wp2_with fail
    go_ret2
    exact ⟨rfl, hb⟩
  · rw [h2] at ho
    rw [h3]
    have HO := Lib.hid ho
    have hq : ((n + 65) / 64 : Nat) = (((n : Int) + 2 + 64 - 1) / 64).toNat := by omega
    obtain ⟨R, hR⟩ : ∃ R, (n + 65) / 64 = R := ⟨_, rfl⟩
    rw [hR] at hq ⊢
    have HQ := Lib.hid hq
    clear ho h2 h3 hq hR
    go_enter Tryz.func172, Tryz.ntmps172
    go_wp2_with fail
    refine HO.out.mono ?_
    rintro e w1 ⟨rfl, hb⟩
    go_wp2_with fail
    go_ret2
    refine ⟨?_, hb⟩
    have := HQ.out
    have e : (((n : Int) + 2 + 64 - 1) / 64) = (R : Int) := by omega
    rw [← e]
    rfl
theorem classPlace_le (c k : Nat) : classPlace c k ≤ 62 := by
  unfold classPlace
  split
  · rename_i h
    have h2 : ∀ c, c < 8 → classSlots c * classSize c ≤ 62 ∧ 2 ≤ classSize c := by decide
    obtain ⟨h3, h4⟩ := h2 c h.1
    have : (k + 1) * classSize c ≤ classSlots c * classSize c := Nat.mul_le_mul_right _ h.2
    rw [Nat.add_mul] at this
    omega
  · omega
theorem class_place (c k : Nat) (w : World) (hc : c ≤ 72057594037927936) (hk : k ≤ 1000) :
    Calls Tryz.prog 245 #[.int .i64 c, .int .i64 k] w fun e w' => (∃ er : Nat, e = .returned (.tuple #[.int .i64 (classPlace c k : Nat), .int .i64 er])) ∧ Below w.heap.size w w' := by
  have hs := class_slots c w
  have hz := fun W => class_size c W
  by_cases h : c < 8
  · have h1 : slotsRes c = (classSlots c, 0) := by unfold slotsRes; rw [if_pos (by omega), Int.toNat_natCast]
    have h2 : sizeRes c = (classSize c, 0) := by unfold sizeRes; rw [if_pos (by omega), Int.toNat_natCast]
    have h3 : classSlots c ≤ 31 ∧ classSize c ≤ 28 := by
      have : ∀ c, c < 8 → classSlots c ≤ 31 ∧ classSize c ≤ 28 := by decide
      exact this c h
    rw [h1] at hs
    rw [h2] at hz
    by_cases hlt : k < classSlots c
    · have h4 : classPlace c k = 2 + k * classSize c := by unfold classPlace; rw [if_pos ⟨h, hlt⟩]
      rw [h4]
      have HS := Lib.hid (And.intro hs hz)
      clear hs hz h1 h2 h4
      generalize classSlots c = m at *
      generalize classSize c = z at *
      obtain ⟨h5, h6⟩ := h3
      have h7 : (k : Int) * z ≤ 1000 * 28 := by
        have : k * z ≤ 1000 * 28 := Nat.mul_le_mul hk h6
        omega
      have h8 : 0 ≤ (k : Int) * z := by have : ((k * z : Nat) : Int) = (k : Int) * z := by simp
                                        omega
      have hmk : ¬ (m : Int) ≤ k := by omega
      go_enter Tryz.func245, Tryz.ntmps245
      go_wp2_with fail
      refine HS.out.1.mono ?_
      rintro e w1 ⟨rfl, hb⟩
      have HB := Lib.hid hb
      clear hb
      go_wp2_with fail
      refine (HS.out.2 _).mono ?_
      rintro e w2 ⟨rfl, hb2⟩
      have HB2 := Lib.hid hb2
      clear hb2
      go_wp2_with fail
      go_ret2
      exact ⟨⟨0, by simp⟩, HB.out.trans (HB2.out.mono HB.out.size)⟩
    · have h4 : classPlace c k = 0 := by unfold classPlace; rw [if_neg (fun hh => hlt hh.2)]
      rw [h4]
      have HS := Lib.hid hs
      clear hs hz h1 h2 h4
      generalize classSlots c = m at *
      generalize classSize c = z at *
      have hmk : (m : Int) ≤ k := by omega
      go_enter Tryz.func245, Tryz.ntmps245
      go_wp2_with fail
      refine HS.out.mono ?_
      rintro e w1 ⟨rfl, hb⟩
      have HB := Lib.hid hb
      clear hb
      go_wp2_with fail
      go_ret2
      exact ⟨⟨2, rfl⟩, HB.out⟩
  · have h1 : slotsRes c = (0, 2) := by unfold slotsRes; rw [if_neg (by omega)]
    have h4 : classPlace c k = 0 := by unfold classPlace; rw [if_neg (fun hh => h hh.1)]
    rw [h1] at hs
    rw [h4]
    have HS := Lib.hid hs
    clear hs hz h1 h4
    go_enter Tryz.func245, Tryz.ntmps245
    go_wp2_with fail
    refine HS.out.mono ?_
    rintro e w1 ⟨rfl, hb⟩
    have HB := Lib.hid hb
    clear hb
    go_wp2_with fail
    go_ret2
    exact ⟨⟨2, rfl⟩, HB.out⟩
theorem heap_place (p c k : Nat) (w : World) (hp : p ≤ 1048576) (hc : c ≤ 72057594037927936) (hk : k ≤ 1000) :
    Calls Tryz.prog 214 #[.int .i64 p, .int .i64 c, .int .i64 k] w fun e w' => e = .returned (.int .i64 (placeH p c k : Nat)) ∧ Below w.heap.size w w' := by
  have hs := class_place c k w hc hk
  have h1 := classPlace_le c k
  have h2 : placeH p c k = p * 64 + classPlace c k := rfl
  rw [h2]
  clear h2
  generalize classPlace c k = z at *
  have HS := Lib.hid hs
  clear hs
  go_enter Tryz.func214, Tryz.ntmps214
  go_wp2_with fail
  refine HS.out.mono ?_
  rintro e w1 ⟨⟨er, rfl⟩, hb⟩
  have HB := Lib.hid hb
  clear hb
  go_wp2_with fail
  go_ret
  exact ⟨by simp, HB.out⟩
end Go.Proofs.YtepdkbmnkjfcpaaGreatDoor
namespace Go.Proofs
open Go.Shelf
def Tryz.lays213_ren : Go.Shelf.Ren := ⟨fun | 213 => 137 | 265 => 186 | n => n, fun | 9 => 9 | 3 => 3 | n => n, fun | n => n⟩
theorem Tryz.lays213 : Go.Proofs.Lays.n213 Tryz.prog Tryz.lays213_ren := {
  mixed := by kernel_rfl
  f213 := Tryz.func137.trans (congrArg some (by kernel_rfl))
  f265 := Tryz.func186.trans (congrArg some (by kernel_rfl))
  t3 := Tryz.underlying3
  a3 := Tryz.isAgg3
  z3 := Tryz.sizeOf3
  v3 := Tryz.zeroValue3
  t9 := Tryz.underlying9
  a9 := Tryz.isAgg9
  z9 := Tryz.sizeOf9
  v9 := Tryz.zeroValue9 }
open Go.RowKit in
theorem Tryz.bytealg_CompareString (a b : ByteArray) (w : World) :
    Calls Tryz.prog 137 #[.string a, .string b] w fun e w' => e = .returned (.int .i64 (Lib.compareBytes a.data.toList b.data.toList)) ∧ w' = w := Any.bytealg_CompareString Tryz.lays213 a b w
def Tryz.laysNm729_ren : Go.Shelf.Ren := ⟨fun | 29 => 248 | n => n, fun | 22 => 42 | 3 => 3 | 4 => 4 | 25 => 305 | 54 => 352 | 0 => 0 | 5 => 5 | n => n, fun | 1 => 1 | n => n⟩
theorem Tryz.laysNm729 : Go.Proofs.Lays7.n29 Tryz.prog Tryz.laysNm729_ren := {
  mixed := by kernel_rfl
  f29 := Tryz.func248.trans (congrArg some (by kernel_rfl))
  t0 := Tryz.underlying0
  a0 := Tryz.isAgg0
  z0 := Tryz.sizeOf0
  v0 := Tryz.zeroValue0
  i0 := by kernel_rfl
  t3 := Tryz.underlying3
  a3 := Tryz.isAgg3
  z3 := Tryz.sizeOf3
  v3 := Tryz.zeroValue3
  i3 := by kernel_rfl
  t4 := Tryz.underlying4
  a4 := Tryz.isAgg4
  z4 := Tryz.sizeOf4
  v4 := Tryz.zeroValue4
  i4 := by kernel_rfl
  t5 := Tryz.underlying5
  a5 := Tryz.isAgg5
  z5 := Tryz.sizeOf5
  v5 := Tryz.zeroValue5
  i5 := by kernel_rfl
  t22 := Tryz.underlying42
  a22 := Tryz.isAgg42
  z22 := Tryz.sizeOf42
  v22 := Tryz.zeroValue42
  i22 := by kernel_rfl
  t25 := Tryz.underlying305
  a25 := Tryz.isAgg305
  z25 := Tryz.sizeOf305
  v25 := Tryz.zeroValue305
  i25 := by kernel_rfl
  t54 := Tryz.underlying352
  a54 := Tryz.isAgg352
  z54 := Tryz.sizeOf352
  g1 := by kernel_rfl }
def Tryz.keysA_ren : Go.Shelf.Ren := ⟨fun | 7 => 185 | 10 => 223 | n => n, fun | 23 => 151 | 26 => 3 | 3 => 258 | 28 => 263 | 0 => 0 | 27 => 262 | 33 => 260 | 4 => 4 | n => n, fun | n => n⟩
theorem Tryz.keysA : Go.Proofs.SlLaysZI.n7 Tryz.prog Tryz.keysA_ren := {
  mixed := by kernel_rfl
  f7 := ⟨Tryz.f185.name, by decide, Tryz.func185.trans (congrArg some (by kernel_rfl))⟩
  f10 := ⟨Tryz.f223.name, by decide, Tryz.func223.trans (congrArg some (by kernel_rfl))⟩
  t0 := Tryz.underlying0
  a0 := Tryz.isAgg0
  z0 := Tryz.sizeOf0
  v0 := Tryz.zeroValue0
  t4 := Tryz.underlying4
  a4 := Tryz.isAgg4
  z4 := Tryz.sizeOf4
  v4 := Tryz.zeroValue4
  t23 := Tryz.underlying151
  a23 := Tryz.isAgg151
  z23 := Tryz.sizeOf151
  v23 := Tryz.zeroValue151
  t26 := Tryz.underlying3
  a26 := Tryz.isAgg3
  z26 := Tryz.sizeOf3
  v26 := Tryz.zeroValue3
  t27 := Tryz.underlying262
  a27 := Tryz.isAgg262
  z27 := Tryz.sizeOf262
  v27 := Tryz.zeroValue262
  t28 := Tryz.underlying263
  a28 := Tryz.isAgg263
  z28 := Tryz.sizeOf263
  v28 := Tryz.zeroValue263
  t33 := Tryz.underlying260
  a33 := Tryz.isAgg260
  z33 := Tryz.sizeOf260
  v33 := Tryz.zeroValue260 }
def Tryz.sortedA_ren : Go.Shelf.Ren := ⟨fun | 6 => 184 | 8 => 221 | 9 => 222 | 11 => 249 | 13 => 251 | 12 => 250 | 23 => 274 | 24 => 275 | 14 => 265 | 15 => 266 | 16 => 267 | 17 => 268 | 18 => 269 | 19 => 270 | 20 => 271 | 21 => 272 | 22 => 273 | 25 => 288 | 26 => 289 | 27 => 290 | 28 => 291 | 29 => 292 | 30 => 293 | 31 => 301 | n => n, fun | 26 => 3 | 28 => 263 | 24 => 207 | 0 => 0 | 3 => 3 | 37 => 305 | 48 => 29 | 50 => 42 | 4 => 4 | 40 => 355 | 39 => 354 | 45 => 317 | 5 => 5 | 9 => 9 | 51 => 369 | 55 => 233 | 57 => 378 | 58 => 379 | 33 => 260 | n => n, fun | n => n⟩
theorem Tryz.sortedA : Go.Proofs.SlLaysZI.n6 Tryz.prog Tryz.sortedA_ren := {
  mixed := by kernel_rfl
  f6 := ⟨Tryz.f184.name, by decide, Tryz.func184.trans (congrArg some (by kernel_rfl))⟩
  f8 := ⟨Tryz.f221.name, by decide, Tryz.func221.trans (congrArg some (by kernel_rfl))⟩
  f11 := ⟨Tryz.f249.name, by decide, Tryz.func249.trans (congrArg some (by kernel_rfl))⟩
  t0 := Tryz.underlying0
  a0 := Tryz.isAgg0
  z0 := Tryz.sizeOf0
  v0 := Tryz.zeroValue0
  t24 := Tryz.underlying207
  a24 := Tryz.isAgg207
  z24 := Tryz.sizeOf207
  v24 := Tryz.zeroValue207
  t26 := Tryz.underlying3
  a26 := Tryz.isAgg3
  z26 := Tryz.sizeOf3
  v26 := Tryz.zeroValue3
  t28 := Tryz.underlying263
  a28 := Tryz.isAgg263
  z28 := Tryz.sizeOf263
  v28 := Tryz.zeroValue263
  i26 := by kernel_rfl }
def Tryz.sortA_ren : Go.Shelf.Ren := ⟨fun | 5 => 222 | 8 => 251 | 7 => 250 | 19 => 274 | 20 => 275 | 10 => 265 | 11 => 266 | 12 => 267 | 13 => 268 | 14 => 269 | 15 => 270 | 16 => 271 | 17 => 272 | 18 => 273 | 30 => 288 | 31 => 289 | 32 => 290 | 33 => 291 | 34 => 292 | 35 => 293 | 40 => 301 | n => n, fun | 23 => 207 | 25 => 3 | 3 => 3 | 32 => 305 | 22 => 207 | 0 => 0 | 44 => 29 | 46 => 42 | 4 => 4 | 36 => 355 | 35 => 354 | 41 => 317 | 5 => 5 | 9 => 9 | 53 => 369 | 57 => 233 | 63 => 378 | 64 => 379 | n => n, fun | n => n⟩
theorem Tryz.sortA : Go.Proofs.SlLaysM.n5 Tryz.prog Tryz.sortA_ren := {
  mixed := by kernel_rfl
  f5 := ⟨Tryz.f222.name, by decide, Tryz.func222.trans (congrArg some (by kernel_rfl))⟩
  f7 := ⟨Tryz.f250.name, by decide, Tryz.func250.trans (congrArg some (by kernel_rfl))⟩
  f8 := Tryz.func251.trans (congrArg some (by kernel_rfl))
  f10 := ⟨Tryz.f265.name, by decide, Tryz.func265.trans (congrArg some (by kernel_rfl))⟩
  f11 := ⟨Tryz.f266.name, by decide, Tryz.func266.trans (congrArg some (by kernel_rfl))⟩
  f12 := ⟨Tryz.f267.name, by decide, Tryz.func267.trans (congrArg some (by kernel_rfl))⟩
  f13 := ⟨Tryz.f268.name, by decide, Tryz.func268.trans (congrArg some (by kernel_rfl))⟩
  f14 := ⟨Tryz.f269.name, by decide, Tryz.func269.trans (congrArg some (by kernel_rfl))⟩
  f15 := ⟨Tryz.f270.name, by decide, Tryz.func270.trans (congrArg some (by kernel_rfl))⟩
  f16 := ⟨Tryz.f271.name, by decide, Tryz.func271.trans (congrArg some (by kernel_rfl))⟩
  f17 := ⟨Tryz.f272.name, by decide, Tryz.func272.trans (congrArg some (by kernel_rfl))⟩
  f18 := ⟨Tryz.f273.name, by decide, Tryz.func273.trans (congrArg some (by kernel_rfl))⟩
  f19 := Tryz.func274.trans (congrArg some (by kernel_rfl))
  f20 := Tryz.func275.trans (congrArg some (by kernel_rfl))
  f30 := ⟨Tryz.f288.name, by decide, Tryz.func288.trans (congrArg some (by kernel_rfl))⟩
  f31 := Tryz.func289.trans (congrArg some (by kernel_rfl))
  f32 := Tryz.func290.trans (congrArg some (by kernel_rfl))
  f33 := ⟨Tryz.f291.name, by decide, Tryz.func291.trans (congrArg some (by kernel_rfl))⟩
  f34 := ⟨Tryz.f292.name, by decide, Tryz.func292.trans (congrArg some (by kernel_rfl))⟩
  f35 := ⟨Tryz.f293.name, by decide, Tryz.func293.trans (congrArg some (by kernel_rfl))⟩
  f40 := ⟨Tryz.f301.name, by decide, Tryz.func301.trans (congrArg some (by kernel_rfl))⟩
  t0 := Tryz.underlying0
  a0 := Tryz.isAgg0
  z0 := Tryz.sizeOf0
  v0 := Tryz.zeroValue0
  t3 := Tryz.underlying3
  a3 := Tryz.isAgg3
  z3 := Tryz.sizeOf3
  v3 := Tryz.zeroValue3
  t4 := Tryz.underlying4
  a4 := Tryz.isAgg4
  z4 := Tryz.sizeOf4
  v4 := Tryz.zeroValue4
  t5 := Tryz.underlying5
  a5 := Tryz.isAgg5
  z5 := Tryz.sizeOf5
  v5 := Tryz.zeroValue5
  t9 := Tryz.underlying9
  a9 := Tryz.isAgg9
  z9 := Tryz.sizeOf9
  v9 := Tryz.zeroValue9
  t22 := Tryz.underlying207
  a22 := Tryz.isAgg207
  z22 := Tryz.sizeOf207
  v22 := Tryz.zeroValue207
  t23 := Tryz.underlying207
  a23 := Tryz.isAgg207
  z23 := Tryz.sizeOf207
  v23 := Tryz.zeroValue207
  t25 := Tryz.underlying3
  a25 := Tryz.isAgg3
  z25 := Tryz.sizeOf3
  v25 := Tryz.zeroValue3
  t32 := Tryz.underlying305
  a32 := Tryz.isAgg305
  z32 := Tryz.sizeOf305
  v32 := Tryz.zeroValue305
  t35 := Tryz.underlying354
  a35 := Tryz.isAgg354
  z35 := Tryz.sizeOf354
  v35 := Tryz.zeroValue354
  t36 := Tryz.underlying355
  a36 := Tryz.isAgg355
  z36 := Tryz.sizeOf355
  v36 := Tryz.zeroValue355
  t41 := Tryz.underlying317
  a41 := Tryz.isAgg317
  z41 := Tryz.sizeOf317
  v41 := Tryz.zeroValue317
  t44 := Tryz.underlying29
  a44 := Tryz.isAgg29
  z44 := Tryz.sizeOf29
  v44 := Tryz.zeroValue29
  t46 := Tryz.underlying42
  a46 := Tryz.isAgg42
  z46 := Tryz.sizeOf42
  v46 := Tryz.zeroValue42
  t53 := Tryz.underlying369
  a53 := Tryz.isAgg369
  z53 := Tryz.sizeOf369
  v53 := Tryz.zeroValue369
  t57 := Tryz.underlying233
  a57 := Tryz.isAgg233
  z57 := Tryz.sizeOf233
  v57 := Tryz.zeroValue233
  t63 := Tryz.underlying378
  a63 := Tryz.isAgg378
  z63 := Tryz.sizeOf378
  v63 := Tryz.zeroValue378
  t64 := Tryz.underlying379
  a64 := Tryz.isAgg379
  z64 := Tryz.sizeOf379
  v64 := Tryz.zeroValue379 }
end Go.Proofs
namespace Go.Proofs.YtepdkbmnkjfcpaaGreatDoor
open Go.RowKit Go.BigFrame Lf
theorem pow_lt64 {k : Nat} (h : k < 64) : 2 ^ k < 18446744073709551616 := Nat.pow_lt_pow_right (n := 64) (by decide) h
theorem wrapu_pow {k : Nat} (h : k < 64) : IntKind.u64.wrap ((2 : Int) ^ k) = ((2 ^ k : Nat) : Int) := by
  have h1 := pow_lt64 h
  rw [show ((2 : Int) ^ k) = ((2 ^ k : Nat) : Int) by simp, IntKind.wrap_u64]
  generalize 2 ^ k = m at *
  omega
theorem has_bit (w k : Nat) (hw : w < 18446744073709551616) (hk : k < 64) : (bits BinOp.and IntKind.u64 ((w : Int) / 2 ^ k) 1 == 1) = bitOf w k := by
  have h1 : (w : Int) / 2 ^ k = ((w / 2 ^ k : Nat) : Int) := by simp
  have h2 : w / 2 ^ k < 18446744073709551616 := Nat.lt_of_le_of_lt (Nat.div_le_self _ _) hw
  rw [h1, show (1 : Int) = ((1 : Nat) : Int) from rfl, bits_and_u64_nat _ _ h2 (by decide)]
  unfold bitOf
  rw [decide_eq_true hk, Bool.true_and, Nat.testBit, Nat.shiftRight_eq_div_pow, Nat.and_one_is_mod, Nat.one_and_eq_mod_two]
  have := Nat.mod_two_eq_zero_or_one (w / 2 ^ k)
  generalize w / 2 ^ k % 2 = q at *
  rcases this with rfl | rfl <;> rfl
theorem bits_has (w k : Nat) (W : World) (hw : w < 18446744073709551616) (hk : k ≤ 1000) :
    Calls Tryz.prog 215 #[.int .u64 w, .int .i64 k] W fun e w' => e = .returned (.bool (bitOf w k)) ∧ W = w' := by
  by_cases h : k < 64
  · have hb := Lib.hid (has_bit w k hw h)
    go_enter Tryz.func215, Tryz.ntmps215
    go_wp2
    go_ret
    rw [← hb.out]
    exact ⟨rfl, rfl⟩
  · have hb : bitOf w k = false := by unfold bitOf; rw [decide_eq_false h]; rfl
    have hd : ¬ (k : Int) < 64 := by omega
    rw [hb]
    go_enter Tryz.func215, Tryz.ntmps215
    go_wp2
    go_ret
    exact ⟨rfl, rfl⟩
theorem bits_set (w k : Nat) (W : World) (hw : w < 18446744073709551616) (hk : k < 64) :
    Calls Tryz.prog 219 #[.int .u64 w, .int .i64 k] W fun e w' => e = .returned (.tuple #[.int .u64 (bitSet w k : Nat), .int .i64 0]) ∧ W = w' := by
  have hb : bits BinOp.or IntKind.u64 (w : Int) (IntKind.u64.wrap (2 ^ k)) = ((bitSet w k : Nat) : Int) := by
    rw [wrapu_pow hk, bits_or_u64_nat _ _ hw (pow_lt64 hk)]
    rfl
  have HB := Lib.hid hb
  clear hb
  go_enter Tryz.func219, Tryz.ntmps219
  go_wp2
  go_ret2
  rw [← HB.out]
  exact ⟨rfl, rfl⟩
theorem bits_clear (w k : Nat) (W : World) (hw : w < 18446744073709551616) (hk : k < 64) :
    Calls Tryz.prog 216 #[.int .u64 w, .int .i64 k] W fun e w' => e = .returned (.tuple #[.int .u64 (bitClear w k : Nat), .int .i64 0]) ∧ W = w' := by
  have hb : bits BinOp.andNot IntKind.u64 (w : Int) (IntKind.u64.wrap (2 ^ k)) = ((bitClear w k : Nat) : Int) := by
    rw [wrapu_pow hk, u64_andNot_nat _ _ hw (pow_lt64 hk)]
    rfl
  have HB := Lib.hid hb
  clear hb
  go_enter Tryz.func216, Tryz.ntmps216
  go_wp2
  go_ret2
  rw [← HB.out]
  exact ⟨rfl, rfl⟩
theorem bits_full (n : Nat) (W : World) (hk : n < 64) :
    Calls Tryz.prog 134 #[.int .i64 n] W fun e w' => e = .returned (.int .u64 (2 ^ n - 1 : Nat)) ∧ W = w' := by
  have hb : IntKind.u64.wrap (IntKind.u64.wrap (2 ^ n) - 1) = ((2 ^ n - 1 : Nat) : Int) := by
    have h1 := pow_lt64 hk
    have h2 : 0 < 2 ^ n := Nat.two_pow_pos n
    rw [wrapu_pow hk, IntKind.wrap_u64]
    generalize 2 ^ n = m at *
    omega
  have HB := Lib.hid hb
  clear hb
  go_enter Tryz.func134, Tryz.ntmps134
  go_wp2
  go_ret
  rw [← HB.out]
  exact ⟨rfl, rfl⟩
theorem bits_cut (n : Nat) (W : World) (hk : n < 64) :
    Calls Tryz.prog 247 #[.int .i64 n] W fun e w' => e = .returned (.func (.func 264) #[] #[PV W.heap.size]) ∧ w' = W.alloc (.cells #[.int .u64 (2 ^ n - 1 : Nat)] 42) := by
  have hf := bits_full n W hk
  generalize 2 ^ n - 1 = m at *
  have HF := Lib.hid hf
  clear hf
  go_enter Tryz.func247, Tryz.ntmps247
  go_wp2_with fail
  refine HF.out.mono ?_
  rintro e w1 ⟨rfl, rfl⟩
  go_wp2_with fail
  go_ret
  exact ⟨rfl, rfl⟩
theorem bits_cut1 (w m B : Nat) (W : World) (hw : w < 18446744073709551616) (hm : m < 18446744073709551616) (hB : W.cell? ⟨B, 0, none⟩ = some (.int .u64 m)) :
    Calls Tryz.prog 264 #[.int .u64 w, PV B] W fun e w' => e = .returned (.int .u64 (w &&& m : Nat)) ∧ W = w' := by
  have hb := bits_and_u64_nat w m hw hm
  have HB := Lib.hid hb
  clear hb
  go_enter Tryz.func264, Tryz.ntmps264
  go_wp2_with fail
  go_ret
  rw [← HB.out]
  exact ⟨rfl, rfl⟩
def Tab64 (w : World) : Prop := TabAt 1 Go.Lib.deBruijn64tab w
theorem Tab64.lt {w : World} (h : Tab64 w) : 1 < w.heap.size := by
  have := h 0 (by decide)
  unfold World.cell? at this
  simp only at this
  by_cases hl : 1 < w.heap.size
  · exact hl
  · rw [Array.getElem?_eq_none (by omega)] at this
    cases this
theorem Tab64.of_block {w w' : World} (h : Tab64 w) (hb : w'.heap[(1 : Nat)]? = w.heap[(1 : Nat)]?) : Tab64 w' := fun j hj => by
  rw [← h j hj]
  exact World.cell?_of_block hb
theorem Tab64.below {w w' : World} (h : Tab64 w) {n : Nat} (hb : Below n w w') (hn : w.heap.size ≤ n) : Tab64 w' := h.of_block (hb.block _ (Nat.lt_of_lt_of_le h.lt hn))
def freeI (w n : Nat) : Int := match bitFree w n with | some k => k | none => -1
theorem left_bit {w n j : Nat} (hw : w < 18446744073709551616) (hn : n < 64) : ((18446744073709551615 - w) &&& (2 ^ n - 1)).testBit j = (decide (j < n) && !w.testBit j) := by
  rw [Nat.testBit_and, Nat.testBit_two_pow_sub_one, show 18446744073709551615 - w = 2 ^ 64 - (w + 1) by omega, Nat.testBit_two_pow_sub_succ (by omega)]
  by_cases h : j < n
  · simp [h, show j < 64 by omega]
  · simp [h]
theorem free_none {w n : Nat} (hw : w < 18446744073709551616) (hn : n < 64) (h : (18446744073709551615 - w) &&& (2 ^ n - 1) = 0) : freeI w n = -1 := by
  have : bitFree w n = none := by
    unfold bitFree
    rw [List.find?_eq_none]
    intro j hj
    have hb := left_bit (w := w) (n := n) (j := j) hw hn
    rw [h, Nat.zero_testBit] at hb
    have hj' : j < n := by simpa using hj
    simpa [hj'] using hb
  unfold freeI
  rw [this]
theorem free_some {w n : Nat} (hw : w < 18446744073709551616) (hn : n < 64) (h : (18446744073709551615 - w) &&& (2 ^ n - 1) ≠ 0) : freeI w n = (Go.Lib.ctz 64 ((18446744073709551615 - w) &&& (2 ^ n - 1)) : Nat) := by
  obtain ⟨x, hx⟩ : ∃ x, (18446744073709551615 - w) &&& (2 ^ n - 1) = x := ⟨_, rfl⟩
  have hb := fun j => left_bit (w := w) (n := n) (j := j) hw hn
  rw [hx] at h hb ⊢
  have hlt : x < 2 ^ 64 := by rw [← hx]; exact Nat.and_lt_two_pow _ (Nat.lt_of_le_of_lt (Nat.sub_le _ _) (Nat.pow_lt_pow_right (by decide) hn))
  obtain ⟨m, hm, hc⟩ := Go.Lib.ctzFrom_spec 64 x (Nat.pos_of_ne_zero h) hlt
  have hcz : Go.Lib.ctz 64 x = Go.Lib.ctzFrom 64 x := by unfold Go.Lib.ctz; rw [if_neg h]
  rw [hcz]
  generalize Go.Lib.ctzFrom 64 x = c at *
  have b1 : x.testBit c = true := by
    rw [hm, Nat.testBit_two_pow_mul]
    simp
  have b2 : ∀ j, j < c → x.testBit j = false := fun j hj => by
    rw [hm, Nat.testBit_two_pow_mul]
    have : ¬ c ≤ j := by omega
    simp [this]
  rw [hb c] at b1
  simp at b1
  have : bitFree w n = some c := by
    unfold bitFree
    rw [List.find?_range_eq_some]
    refine ⟨by simp [b1.2], by simpa using b1.1, fun j hj => ?_⟩
    have := b2 j hj
    rw [hb j] at this
    have hjn : j < n := by omega
    simpa [hjn] using this
  unfold freeI
  rw [this]
theorem bits_free (w n : Nat) (W : World) (hw : w < 18446744073709551616) (hk : n < 64) (hT : Tab64 W) :
    Calls Tryz.prog 218 #[.int .u64 w, .int .i64 n] W fun e w' => e = .returned (.int .i64 (freeI w n)) ∧ Below W.heap.size W w' := by
  have hf := bits_cut n W hk
  have hm : 2 ^ n - 1 < 18446744073709551616 := by have := pow_lt64 hk; omega
  have h0 := fun h => free_none (w := w) (n := n) hw hk h
  have h1 := fun h => free_some (w := w) (n := n) hw hk h
  have hbw : Below W.heap.size W (W.alloc (.cells #[.int .u64 (2 ^ n - 1 : Nat)] 42)) := (Below.refl _ W).alloc (Nat.le_refl _) _
  have hc := bits_cut1 (18446744073709551615 - w) (2 ^ n - 1) W.heap.size (W.alloc (.cells #[.int .u64 (2 ^ n - 1 : Nat)] 42)) (by omega) hm (by simp)
  have hlt : (18446744073709551615 - w) &&& (2 ^ n - 1) < 18446744073709551616 := Nat.lt_of_le_of_lt Nat.and_le_left (by omega)
  have hz := Any7.bits_TrailingZeros64 Tryz.laysNm729 ((18446744073709551615 - w) &&& (2 ^ n - 1)) hlt (W.alloc (.cells #[.int .u64 (2 ^ n - 1 : Nat)] 42)) (fun _ => hT.below hbw (Nat.le_refl _))
  change Calls _ 248 _ _ _ at hz
  have hx : bits BinOp.xor IntKind.u64 IntKind.u64.max (w : Int) = ((18446744073709551615 - w : Nat) : Int) := by
    rw [show IntKind.u64.max = ((18446744073709551615 : Nat) : Int) from rfl, bits_xor_u64_nat _ _ (by decide) hw]
    congr 1
    refine Nat.eq_of_testBit_eq fun i => ?_
    rw [Nat.testBit_xor, show 18446744073709551615 - w = 2 ^ 64 - (w + 1) by omega, Nat.testBit_two_pow_sub_succ (by omega), show 18446744073709551615 = 2 ^ 64 - 1 from rfl, Nat.testBit_two_pow_sub_one]
    by_cases hi : i < 64
    · simp [hi]
    · have : w.testBit i = false := Nat.testBit_lt_two_pow (Nat.lt_of_lt_of_le hw (Nat.pow_le_pow_right (n := 2) (by decide) (show 64 ≤ i by omega)))
      simp [hi, this]
  generalize (18446744073709551615 - w) &&& (2 ^ n - 1) = x at *
  generalize freeI w n = fr at *
  generalize hv : 18446744073709551615 - w = v at *
  generalize 2 ^ n - 1 = m at *
  have HF := Lib.hid (And.intro hf (And.intro hc (And.intro hz hbw)))
  clear hf hc hz hbw hv
  by_cases hx0 : x = 0
  · subst hx0
    obtain rfl := h0 rfl
    clear h0 h1
    go_enter Tryz.func218, Tryz.ntmps218
    go_wp2_with fail
    refine HF.out.1.mono ?_
    rintro e w1 ⟨rfl, rfl⟩
    go_wp2_with fail
    refine HF.out.2.1.mono ?_
    rintro e w1 ⟨rfl, rfl⟩
    go_wp2_with fail
    go_ret
    exact ⟨rfl, HF.out.2.2.2⟩
  · obtain rfl := h1 hx0
    have hx1 : ((x : Int) == 0) = false := by simp; omega
    have hx2 : ¬ (x : Int) = 0 := by omega
    clear h0 h1 hx0
    go_enter Tryz.func218, Tryz.ntmps218
    go_wp2_with fail
    refine HF.out.1.mono ?_
    rintro e w1 ⟨rfl, rfl⟩
    go_wp2_with fail
    refine HF.out.2.1.mono ?_
    rintro e w1 ⟨rfl, rfl⟩
    go_wp2_with fail
    refine HF.out.2.2.1.mono ?_
    rintro e w1 ⟨rfl, rfl⟩
    go_wp2_with fail
    go_ret
    exact ⟨rfl, HF.out.2.2.2⟩
end Go.Proofs.YtepdkbmnkjfcpaaGreatDoor
namespace Go.Proofs.YtepdkbmnkjfcpaaGreatDoor
open Go.RowKit Go.BigFrame Go.Maps Go.WideMaps Lf
theorem keys_mem {s : Slab} {p : Nat} : p ∈ s.keys ↔ ∃ l, (p, l) ∈ s.pages := by
  unfold Slab.keys
  simp
theorem page_none {s : Slab} {p : Nat} (h : p ∉ s.keys) : s.page? p = none := by
  unfold Slab.page?
  rw [List.lookup_eq_none_iff]
  intro x hx
  have : x.1 ≠ p := fun e => h (by unfold Slab.keys; exact List.mem_map.2 ⟨x, hx, e⟩)
  simpa using fun e => this e.symm
theorem page_some {s : Slab} {p : Nat} (h : p ∈ s.keys) : ∃ l, s.page? p = some l ∧ (p, l) ∈ s.pages := by
  unfold Slab.keys at h
  unfold Slab.page?
  generalize s.pages = l at *
  induction l with
  | nil => simp at h
  | cons x r ih =>
    by_cases e : p = x.1
    · subst e
      exact ⟨x.2, by simp [List.lookup], by simp⟩
    · have h' : p ∈ r.map (·.1) := by
        simp only [List.map_cons, List.mem_cons] at h
        exact h.resolve_left e
      obtain ⟨l, h1, h2⟩ := ih h'
      exact ⟨l, by rw [List.lookup_cons, show (p == x.1) = false by simpa using e]; exact h1, List.mem_cons_of_mem _ h2⟩
theorem err_top {s : Slab} {a : Nat} (h : lastAddr < a) : s.err a = 2 := by unfold Slab.err; rw [if_pos h]
theorem err_none {s : Slab} {a : Nat} (h : a ≤ lastAddr) (hp : a / 64 ∉ s.keys) : s.err a = 5 := by unfold Slab.err; rw [if_neg (by omega), page_none hp]
theorem err_ok {s : Slab} {a : Nat} (h : a ≤ lastAddr) (hp : a / 64 ∈ s.keys) : s.err a = 0 := by
  obtain ⟨l, h1, _⟩ := page_some hp
  unfold Slab.err
  rw [if_neg (by omega), h1]
theorem rd_none {s : Slab} {a : Nat} (hp : a / 64 ∉ s.keys) : s.rd a = 0 := by unfold Slab.rd; rw [page_none hp]
theorem rd_some {s : Slab} {a : Nat} {l : Page} (h : s.page? (a / 64) = some l) : s.rd a = l.getD (a % 64) 0 := by unfold Slab.rd; rw [h]
theorem SlabOn.word {w : World} {pa pm : Nat} {s : Slab} {Y : Nat → Prop} {blk : Nat → Nat} (h : SlabOn w pa pm s Y blk) {a : Nat} (hp : a / 64 ∈ s.keys) :
    w.cell? ⟨blk (a / 64), a % 64, none⟩ = some (.int .u64 (s.rd a : Nat)) ∧ w.frozen? ⟨blk (a / 64), a % 64, none⟩ = false := by
  obtain ⟨l, h1, h2⟩ := page_some hp
  have hb := h.pg _ h2
  have hl := h.wf.len _ h2
  refine ⟨?_, frozen_of_block hb⟩
  rw [cell_of_block hb, rd_some h1]
  simp only at hl
  have hlt : a % 64 < l.length := by omega
  simp [List.getElem?_eq_getElem hlt]
theorem SlabOn.rd_lt {w : World} {pa pm : Nat} {s : Slab} {Y : Nat → Prop} {blk : Nat → Nat} (h : SlabOn w pa pm s Y blk) (a : Nat) : s.rd a < 18446744073709551616 := by
  by_cases hp : a / 64 ∈ s.keys
  · obtain ⟨l, h1, h2⟩ := page_some hp
    rw [rd_some h1]
    have hl := h.wf.len _ h2
    simp only at hl
    have hlt : a % 64 < l.length := by omega
    rw [List.getD_eq_getElem?_getD, List.getElem?_eq_getElem hlt]
    exact h.wf.word _ h2 _ (List.getElem_mem hlt)
  · rw [rd_none hp]; decide
theorem slab_none {w : World} {pa pm : Nat} {s : Slab} {Y : Nat → Prop} {blk : Nat → Nat} (h : SlabOn w pa pm s Y blk) :
    Calls Tryz.prog 179 #[PV pa] w fun e w' => e = .returned (.bool false) ∧ w = w' := by
  have c1 := h.cells.2
  have hm := run_eql_map_nil (P := Tryz.prog) w 151 3 258 (some pm) Tryz.underlying151
  clear h
  go_enter Tryz.func179, Tryz.ntmps179
  go_wp2
  go_ret
  exact ⟨rfl, rfl⟩
theorem slab_at_no {w : World} {pa pm : Nat} {s : Slab} {Y : Nat → Prop} {blk : Nat → Nat} (h : SlabOn w pa pm s Y blk) (a : Nat) (ha : a ≤ 4611686018427387904) (hp : a / 64 ∉ s.keys ∨ lastAddr < a) :
    Calls Tryz.prog 130 #[PV pa, .int .i64 a] w fun e w' => e = .returned (.tuple #[.pointer none, .int .i64 (s.err a : Nat)]) ∧ w = w' := by
  have c1 := h.cells.2
  have hn := Lib.hid (slab_none h)
  have hl := h.look (a / 64) (by omega)
  rw [show ((a / 64 : Nat) : Int) = (a : Int) / 64 from by simp] at hl
  by_cases ht : lastAddr < a
  · have he := err_top (s := s) ht
    generalize s.err a = er at *
    subst he
    unfold lastAddr at ht
    clear hl hp h
    go_enter Tryz.func130, Tryz.ntmps130
    go_wp2_with fail
    refine hn.out.mono ?_
    rintro e w' ⟨rfl, rfl⟩
    go_wp2_with fail
    go_ret2
    exact ⟨rfl, rfl⟩
  · have hp' : a / 64 ∉ s.keys := hp.resolve_right ht
    have he := err_none (s := s) (by omega) hp'
    generalize s.err a = er at *
    subst he
    unfold lastAddr at ht
    have hv : pgV s.keys blk (a / 64) = .pointer none := by unfold pgV; rw [if_neg hp']
    rw [hv] at hl
    clear hv hp hp' h
    go_enter Tryz.func130, Tryz.ntmps130
    go_wp2_with fail
    refine hn.out.mono ?_
    rintro e w' ⟨rfl, rfl⟩
    go_wp2_with fail
    go_ret2
    exact ⟨rfl, rfl⟩
theorem slab_at_ok {w : World} {pa pm : Nat} {s : Slab} {Y : Nat → Prop} {blk : Nat → Nat} (h : SlabOn w pa pm s Y blk) (a : Nat) (ha : a ≤ lastAddr) (hp : a / 64 ∈ s.keys) :
    Calls Tryz.prog 130 #[PV pa, .int .i64 a] w fun e w' => e = .returned (.tuple #[.pointer (some ⟨blk (a / 64), a % 64, none⟩), .int .i64 0]) ∧ w = w' := by
  unfold lastAddr at ha
  have c1 := h.cells.2
  have hn := Lib.hid (slab_none h)
  have hl := h.look (a / 64) (by omega)
  rw [show ((a / 64 : Nat) : Int) = (a : Int) / 64 from by simp] at hl
  have hv : pgV s.keys blk (a / 64) = PV (blk (a / 64)) := by unfold pgV; rw [if_pos hp]
  rw [hv] at hl
  have hq2 : ((a : Int) % 64).toNat = a % 64 := by omega
  have hq3 : (a : Int) % 64 < 64 := by omega
  have hq4 : 0 ≤ (a : Int) % 64 := by omega
  clear hv hp h
  generalize blk (a / 64) = b at *
  go_enter Tryz.func130, Tryz.ntmps130
  go_wp2_with fail
  refine hn.out.mono ?_
  rintro e w' ⟨rfl, rfl⟩
  go_wp2_with fail
  go_ret2
  exact ⟨rfl, rfl⟩
end Go.Proofs.YtepdkbmnkjfcpaaGreatDoor
