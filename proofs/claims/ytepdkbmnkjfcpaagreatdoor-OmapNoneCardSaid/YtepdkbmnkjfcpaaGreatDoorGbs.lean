/- Maps: without a map nothing is told: the walk. -/
import Derived.Test.YtepdkbmnkjfcpaaGreatDoorGbr
import Derived.Test.YtepdkbmnkjfcpaaGreatDoorGbn
import Derived.Test.YtepdkbmnkjfcpaaGreatDoorGbo
namespace Go.Proofs.YtepdkbmnkjfcpaaGreatDoor
open Go.RowKit Go.BigFrame Go.Maps Go.WideMaps Lf

/-- a world of the walk: the call's own block stands, the unmade map's too, and v is no map -/
structure NoAt (w : World) (d kk : Int) (a b : List UInt8) (pz : Nat) (v : Value) (W : World) : Prop where
  bl : Below w.heap.size w W
  op : W.heap[w.heap.size]? = some (.cells #[.int .i64 d, .int .i64 kk, SV a, SV b] 64)
  z : W.heap[pz]? = some (.cells #[.pointer none, .pointer none, .int .i64 0] 66)
  no : NoM W v
theorem NoAt.below {w : World} {d kk : Int} {a b : List UInt8} {pz : Nat} {v : Value} {W W' : World} (h : NoAt w d kk a b pz v W) (hb : Below W.heap.size W W') : NoAt w d kk a b pz v W' :=
  ⟨h.bl.trans (hb.mono h.bl.size), (hb.block _ (Array.getElem?_eq_some_iff.1 h.op).1).trans h.op, (hb.block _ (Array.getElem?_eq_some_iff.1 h.z).1).trans h.z, h.no.below hb⟩
theorem NoAt.cell {w : World} {d kk : Int} {a b : List UInt8} {pz : Nat} {v : Value} {W : World} (h : NoAt w d kk a b pz v W) (j : Nat) {u : Value} (hu : [.int .i64 d, .int .i64 kk, SV a, SV b][j]? = some u) : W.cell? ⟨w.heap.size, j, none⟩ = some u := by
  rw [cell_of_block h.op]; simpa using hu
theorem NoAt.alloc {w : World} {d kk : Int} {a b : List UInt8} {pz : Nat} {v : Value} {W : World} (h : NoAt w d kk a b pz v W) (o : Obj) : NoAt w d kk a b pz v (W.alloc o) := h.below ((Below.refl _ W).alloc (Nat.le_refl _) o)
theorem none_inv : Inv ⟨⟨640, []⟩, ⟨9, 9, []⟩⟩ := invB_ok (by decide +kernel)
theorem nc_row (j : Nat) (hj : j < 12) : (#[.int .i64 1, .int .i64 1, .int .i64 1, .int .i64 1, .int .i64 1, .int .i64 1, .int .i64 1, .int .i64 1, .int .i64 1, .int .i64 1, .int .i64 1, .int .i64 1] : Array Value)[j]? = some (.int .i64 1) := by
  have h : (#[.int .i64 1, .int .i64 1, .int .i64 1, .int .i64 1, .int .i64 1, .int .i64 1, .int .i64 1, .int .i64 1, .int .i64 1, .int .i64 1, .int .i64 1, .int .i64 1] : Array Value) = (List.replicate 12 (Value.int .i64 1)).toArray := rfl
  rw [h, List.getElem?_toArray, List.getElem?_replicate, if_pos hj]
theorem nc_long (n : Nat) (h : 2000 < n) : (2000 < (n : Int)) = True := eq_true (by omega)
theorem nc_short (n : Nat) (h : ¬ 2000 < n) : (2000 < (n : Int)) = False := eq_false (by omega)

set_option maxRecDepth 100000 in
set_option maxHeartbeats 12800000 in
theorem omapNone_walk (kind t limit d kk : Int) (a b : List UInt8) {w : World} (ht : Tab64 w) :
    Calls Tryz.prog 5 #[.int .i64 kind, .int .i64 t, .int .i64 limit, .agg #[.int .i64 d, .int .i64 kk, SV a, SV b]] w fun e w' => e = .returned (.bool true) ∧ Below w.heap.size w w' := by
  have haw := fun W (hW : Below w.heap.size w W) => awake20 (ht.of_block (hW.block _ ht.lt))
  have hsn := fun W (hW : Below w.heap.size w W) => store_new (ht.of_block (hW.block _ ht.lt)) 640 9 9 (by omega) (by omega) (by omega)
  have B0 := (Below.refl w.heap.size w).alloc (Nat.le_refl _) (.cells #[.int .i64 d, .int .i64 kk, SV a, SV b] 64)
  have HG := Lib.hid (And.intro haw (And.intro hsn B0))
  clear haw hsn B0 ht
  by_cases h1 : 2000 < a.length
  ·
    have q1 := nc_long _ h1
    go_enter Tryz.func5, Tryz.ntmps5
    go_wp2_with fail
    refine (HG.out.1 _ HG.out.2.2).mono ?_
    rintro e w1 ⟨rfl, hb1⟩
    have H1 := Lib.hid (HG.out.2.2.trans (hb1.mono HG.out.2.2.size))
    clear hb1
    go_wp2_with fail
    go_ret
    exact ⟨rfl, H1.out⟩
  have q1 := nc_short _ h1
  by_cases h2 : 2000 < b.length
  ·
    have q2 := nc_long _ h2
    go_enter Tryz.func5, Tryz.ntmps5
    go_wp2_with fail
    refine (HG.out.1 _ HG.out.2.2).mono ?_
    rintro e w1 ⟨rfl, hb1⟩
    have H1 := Lib.hid (HG.out.2.2.trans (hb1.mono HG.out.2.2.size))
    clear hb1
    go_wp2_with fail
    go_ret
    exact ⟨rfl, H1.out⟩
  have q2 := nc_short _ h2
  go_enter Tryz.func5, Tryz.ntmps5
  go_wp2_with fail
  have N0 : ∀ v, v = .pointer none ∨ v = PV (w.heap.size + 1) → NoAt w d kk a b (w.heap.size + 1) v ((w.alloc (.cells #[.int .i64 d, .int .i64 kk, SV a, SV b] 64)).alloc (.cells #[.pointer none, .pointer none, .int .i64 0] 66)) := fun v hv =>
    have q := heap_alloc_new (w.alloc (.cells #[.int .i64 d, .int .i64 kk, SV a, SV b] 64)) (.cells #[.pointer none, .pointer none, .int .i64 0] 66)
    have B1 := (Below.refl (w.heap.size + 1) (w.alloc (.cells #[.int .i64 d, .int .i64 kk, SV a, SV b] 64))).alloc (by simp) (.cells #[.pointer none, .pointer none, .int .i64 0] 66)
    have q' : _ = _ := by simpa using q
    ⟨HG.out.2.2.trans (B1.mono (by omega)), (B1.block _ (by omega)).trans (heap_alloc_new _ _), q', hv.imp id fun e => ⟨_, e, q'⟩⟩
  have HN0 := Lib.hid N0
  clear N0
  generalize (w.alloc (.cells #[.int .i64 d, .int .i64 kk, SV a, SV b] 64)).alloc (.cells #[.pointer none, .pointer none, .int .i64 0] 66) = W0 at *
  go_loopw [9, 11, 12, 13, 14, 15, 16, 17, 18, 19, 20, 21, 22, 23, 24, 25, 26, 27, 28, 29, 30, 31, 32, 33, 34] (fun m i _ _ _ _ _ _ _ _ _ _ _ _ _ _ _ _ _ _ _ _ _ _ _ wr => ((i = .int .i64 0 ∧ m = .pointer none) ∨ (i = .int .i64 1 ∧ m = .pointer none) ∨ (i = .int .i64 2 ∧ m = PV (w.heap.size + 1))) ∧ NoAt w d kk a b (w.heap.size + 1) m wr) (fun _ i _ _ _ _ _ _ _ _ _ _ _ _ _ _ _ _ _ _ _ _ _ _ _ _ => 2 - (intOf i).toNat)
  case atStart => exact ⟨Or.inl ⟨rfl, rfl⟩, HN0.out _ (Or.inl rfl)⟩
  case round =>
    obtain ⟨hr, hN⟩ := hrel
    rcases hr with ⟨rfl, rfl⟩ | ⟨rfl, rfl⟩ | ⟨rfl, rfl⟩
    ·
      have hN1 := hN
      have HN := Lib.hid hN1
      clear hN hN1
      have c1 : (wr).cell? ⟨w.heap.size, 1, none⟩ = _ := HN.out.cell 1 rfl
      have c2 : (wr).cell? ⟨w.heap.size, 2, none⟩ = _ := HN.out.cell 2 rfl
      have c3 : (wr).cell? ⟨w.heap.size, 3, none⟩ = _ := HN.out.cell 3 rfl
      go_wp2_with fail
      refine (no_put HN.out.no a b).mono ?_
      rintro e wx ⟨rfl, rfl⟩
      go_wp2_with fail
      refine (no_get HN.out.no a).mono ?_
      rintro e wx ⟨rfl, rfl⟩
      go_wp2_with fail
      refine (no_delete HN.out.no a).mono ?_
      rintro e wx ⟨rfl, rfl⟩
      go_wp2_with fail
      refine (no_min HN.out.no ).mono ?_
      rintro e w3 ⟨rfl, hb⟩
      have hN1 := (HN.out.below hb).alloc (.cells #[.string ⟨#[]⟩, .string ⟨#[]⟩] 38)
      clear hb HN c1 c2 c3
      have HN := Lib.hid hN1
      clear hN1
      have c3_1 : (w3.alloc (.cells #[.string ⟨#[]⟩, .string ⟨#[]⟩] 38)).cell? ⟨w.heap.size, 1, none⟩ = _ := HN.out.cell 1 rfl
      have c3_2 : (w3.alloc (.cells #[.string ⟨#[]⟩, .string ⟨#[]⟩] 38)).cell? ⟨w.heap.size, 2, none⟩ = _ := HN.out.cell 2 rfl
      have c3_3 : (w3.alloc (.cells #[.string ⟨#[]⟩, .string ⟨#[]⟩] 38)).cell? ⟨w.heap.size, 3, none⟩ = _ := HN.out.cell 3 rfl
      go_wp2_with fail
      refine (no_max HN.out.no ).mono ?_
      rintro e w4 ⟨rfl, hb⟩
      have hN1 := (HN.out.below hb).alloc (.cells #[.string ⟨#[]⟩, .string ⟨#[]⟩] 38)
      clear hb HN c3_1 c3_2 c3_3
      have HN := Lib.hid hN1
      clear hN1
      have c4_1 : (w4.alloc (.cells #[.string ⟨#[]⟩, .string ⟨#[]⟩] 38)).cell? ⟨w.heap.size, 1, none⟩ = _ := HN.out.cell 1 rfl
      have c4_2 : (w4.alloc (.cells #[.string ⟨#[]⟩, .string ⟨#[]⟩] 38)).cell? ⟨w.heap.size, 2, none⟩ = _ := HN.out.cell 2 rfl
      have c4_3 : (w4.alloc (.cells #[.string ⟨#[]⟩, .string ⟨#[]⟩] 38)).cell? ⟨w.heap.size, 3, none⟩ = _ := HN.out.cell 3 rfl
      go_wp2_with fail
      refine (no_floor HN.out.no a).mono ?_
      rintro e w5 ⟨rfl, hb⟩
      have hN1 := (HN.out.below hb).alloc (.cells #[.string ⟨#[]⟩, .string ⟨#[]⟩] 38)
      clear hb HN c4_1 c4_2 c4_3
      have HN := Lib.hid hN1
      clear hN1
      have c5_1 : (w5.alloc (.cells #[.string ⟨#[]⟩, .string ⟨#[]⟩] 38)).cell? ⟨w.heap.size, 1, none⟩ = _ := HN.out.cell 1 rfl
      have c5_2 : (w5.alloc (.cells #[.string ⟨#[]⟩, .string ⟨#[]⟩] 38)).cell? ⟨w.heap.size, 2, none⟩ = _ := HN.out.cell 2 rfl
      have c5_3 : (w5.alloc (.cells #[.string ⟨#[]⟩, .string ⟨#[]⟩] 38)).cell? ⟨w.heap.size, 3, none⟩ = _ := HN.out.cell 3 rfl
      go_wp2_with fail
      refine (no_ceiling HN.out.no a).mono ?_
      rintro e w6 ⟨rfl, hb⟩
      have hN1 := (HN.out.below hb).alloc (.cells #[.string ⟨#[]⟩, .string ⟨#[]⟩] 38)
      clear hb HN c5_1 c5_2 c5_3
      have HN := Lib.hid hN1
      clear hN1
      have c6_1 : (w6.alloc (.cells #[.string ⟨#[]⟩, .string ⟨#[]⟩] 38)).cell? ⟨w.heap.size, 1, none⟩ = _ := HN.out.cell 1 rfl
      have c6_2 : (w6.alloc (.cells #[.string ⟨#[]⟩, .string ⟨#[]⟩] 38)).cell? ⟨w.heap.size, 2, none⟩ = _ := HN.out.cell 2 rfl
      have c6_3 : (w6.alloc (.cells #[.string ⟨#[]⟩, .string ⟨#[]⟩] 38)).cell? ⟨w.heap.size, 3, none⟩ = _ := HN.out.cell 3 rfl
      go_wp2_with fail
      refine (no_select HN.out.no kk).mono ?_
      rintro e w7 ⟨rfl, hb⟩
      have hN1 := (HN.out.below hb).alloc (.cells #[.string ⟨#[]⟩, .string ⟨#[]⟩] 38)
      clear hb HN c6_1 c6_2 c6_3
      have HN := Lib.hid hN1
      clear hN1
      have c7_1 : (w7.alloc (.cells #[.string ⟨#[]⟩, .string ⟨#[]⟩] 38)).cell? ⟨w.heap.size, 1, none⟩ = _ := HN.out.cell 1 rfl
      have c7_2 : (w7.alloc (.cells #[.string ⟨#[]⟩, .string ⟨#[]⟩] 38)).cell? ⟨w.heap.size, 2, none⟩ = _ := HN.out.cell 2 rfl
      have c7_3 : (w7.alloc (.cells #[.string ⟨#[]⟩, .string ⟨#[]⟩] 38)).cell? ⟨w.heap.size, 3, none⟩ = _ := HN.out.cell 3 rfl
      go_wp2_with fail
      refine (no_popmin HN.out.no ).mono ?_
      rintro e w8 ⟨rfl, hb⟩
      have hN1 := (HN.out.below hb).alloc (.cells #[.string ⟨#[]⟩, .string ⟨#[]⟩] 38)
      clear hb HN c7_1 c7_2 c7_3
      have HN := Lib.hid hN1
      clear hN1
      have c8_1 : (w8.alloc (.cells #[.string ⟨#[]⟩, .string ⟨#[]⟩] 38)).cell? ⟨w.heap.size, 1, none⟩ = _ := HN.out.cell 1 rfl
      have c8_2 : (w8.alloc (.cells #[.string ⟨#[]⟩, .string ⟨#[]⟩] 38)).cell? ⟨w.heap.size, 2, none⟩ = _ := HN.out.cell 2 rfl
      have c8_3 : (w8.alloc (.cells #[.string ⟨#[]⟩, .string ⟨#[]⟩] 38)).cell? ⟨w.heap.size, 3, none⟩ = _ := HN.out.cell 3 rfl
      go_wp2_with fail
      refine (no_popmax HN.out.no ).mono ?_
      rintro e w9 ⟨rfl, hb⟩
      have hN1 := (HN.out.below hb).alloc (.cells #[.string ⟨#[]⟩, .string ⟨#[]⟩] 38)
      clear hb HN c8_1 c8_2 c8_3
      have HN := Lib.hid hN1
      clear hN1
      have c9_1 : (w9.alloc (.cells #[.string ⟨#[]⟩, .string ⟨#[]⟩] 38)).cell? ⟨w.heap.size, 1, none⟩ = _ := HN.out.cell 1 rfl
      have c9_2 : (w9.alloc (.cells #[.string ⟨#[]⟩, .string ⟨#[]⟩] 38)).cell? ⟨w.heap.size, 2, none⟩ = _ := HN.out.cell 2 rfl
      have c9_3 : (w9.alloc (.cells #[.string ⟨#[]⟩, .string ⟨#[]⟩] 38)).cell? ⟨w.heap.size, 3, none⟩ = _ := HN.out.cell 3 rfl
      go_wp2_with fail
      refine (no_absent HN.out.no a b).mono ?_
      rintro e wx ⟨rfl, rfl⟩
      go_wp2_with fail
      refine (no_clear HN.out.no ).mono ?_
      rintro e wx ⟨rfl, rfl⟩
      go_wp2_with fail
      have e12 : ∀ j, j < 12 → ((w9.alloc (.cells #[.string ⟨#[]⟩, .string ⟨#[]⟩] 38)).alloc (.cells #[.int .i64 1, .int .i64 1, .int .i64 1, .int .i64 1, .int .i64 1, .int .i64 1, .int .i64 1, .int .i64 1, .int .i64 1, .int .i64 1, .int .i64 1, .int .i64 1] 26)).cell? ⟨w9.heap.size + 1, j, none⟩ = some (.int .i64 1) := fun j hj => by
        have q := heap_alloc_new (w9.alloc (.cells #[.string ⟨#[]⟩, .string ⟨#[]⟩] 38)) (.cells #[.int .i64 1, .int .i64 1, .int .i64 1, .int .i64 1, .int .i64 1, .int .i64 1, .int .i64 1, .int .i64 1, .int .i64 1, .int .i64 1, .int .i64 1, .int .i64 1] 26)
        rw [show (w9.alloc (.cells #[.string ⟨#[]⟩, .string ⟨#[]⟩] 38)).heap.size = w9.heap.size + 1 by simp] at q
        rw [cell_of_block q]
        exact nc_row j hj
      have N12 := HN.out.alloc (.cells #[.int .i64 1, .int .i64 1, .int .i64 1, .int .i64 1, .int .i64 1, .int .i64 1, .int .i64 1, .int .i64 1, .int .i64 1, .int .i64 1, .int .i64 1, .int .i64 1] 26)
      have HM := Lib.hid (And.intro N12 e12)
      clear N12 e12 HN c9_1 c9_2 c9_3
      generalize (w9.alloc (.cells #[.string ⟨#[]⟩, .string ⟨#[]⟩] 38)).alloc (.cells #[.int .i64 1, .int .i64 1, .int .i64 1, .int .i64 1, .int .i64 1, .int .i64 1, .int .i64 1, .int .i64 1, .int .i64 1, .int .i64 1, .int .i64 1, .int .i64 1] 26) = W12 at *
      go_loopw [34] (fun n wx => ∃ k : Nat, k ≤ 12 ∧ n = .int .i64 k ∧ wx = W12) (fun n _ => 12 - (intOf n).toNat)
      case atStart => exact ⟨0, by omega, rfl, rfl⟩
      case round =>
        obtain ⟨k, hk, rfl, rfl⟩ := hrel
        by_cases hlt : k < 12
        · have hlt1 : (k : Int) < 12 := by omega
          have ck := HM.out.2 k hlt
          go_wp2_with fail
          go_roundw
          case rel => exact ⟨k + 1, by omega, by simp, by first | rfl | trivial⟩
          case measure => simp [intOf]; omega
        · obtain rfl : k = 12 := by omega
          have c2 := HM.out.1.cell 2 rfl
          go_wp2_with fail
          refine (no_rank HM.out.1.no a).mono ?_
          rintro e wx ⟨rfl, rfl⟩
          go_wp2_with fail
          refine (no_len HM.out.1.no ).mono ?_
          rintro e wx ⟨rfl, rfl⟩
          go_wp2_with fail
          refine (no_limit HM.out.1.no ).mono ?_
          rintro e wx ⟨rfl, rfl⟩
          go_wp2_with fail
          refine (no_tree HM.out.1.no ).mono ?_
          rintro e wx ⟨rfl, rfl⟩
          go_wp2_with fail
          refine (no_store HM.out.1.no ).mono ?_
          rintro e wx ⟨rfl, rfl⟩
          go_wp2_with fail
          go_roundw
          case rel => exact ⟨Or.inr (Or.inl ⟨rfl, by first | rfl | trivial⟩), HM.out.1⟩
          case measure => simp [intOf]
    ·
      have hN1 : NoAt w d kk a b (w.heap.size + 1) (PV (w.heap.size + 1)) wr := ⟨hN.bl, hN.op, hN.z, Or.inr ⟨_, rfl, hN.z⟩⟩
      have HN := Lib.hid hN1
      clear hN hN1
      have c1 : (wr).cell? ⟨w.heap.size, 1, none⟩ = _ := HN.out.cell 1 rfl
      have c2 : (wr).cell? ⟨w.heap.size, 2, none⟩ = _ := HN.out.cell 2 rfl
      have c3 : (wr).cell? ⟨w.heap.size, 3, none⟩ = _ := HN.out.cell 3 rfl
      go_wp2_with fail
      refine (no_put HN.out.no a b).mono ?_
      rintro e wx ⟨rfl, rfl⟩
      go_wp2_with fail
      refine (no_get HN.out.no a).mono ?_
      rintro e wx ⟨rfl, rfl⟩
      go_wp2_with fail
      refine (no_delete HN.out.no a).mono ?_
      rintro e wx ⟨rfl, rfl⟩
      go_wp2_with fail
      refine (no_min HN.out.no ).mono ?_
      rintro e w3 ⟨rfl, hb⟩
      have hN1 := (HN.out.below hb).alloc (.cells #[.string ⟨#[]⟩, .string ⟨#[]⟩] 38)
      clear hb HN c1 c2 c3
      have HN := Lib.hid hN1
      clear hN1
      have c3_1 : (w3.alloc (.cells #[.string ⟨#[]⟩, .string ⟨#[]⟩] 38)).cell? ⟨w.heap.size, 1, none⟩ = _ := HN.out.cell 1 rfl
      have c3_2 : (w3.alloc (.cells #[.string ⟨#[]⟩, .string ⟨#[]⟩] 38)).cell? ⟨w.heap.size, 2, none⟩ = _ := HN.out.cell 2 rfl
      have c3_3 : (w3.alloc (.cells #[.string ⟨#[]⟩, .string ⟨#[]⟩] 38)).cell? ⟨w.heap.size, 3, none⟩ = _ := HN.out.cell 3 rfl
      go_wp2_with fail
      refine (no_max HN.out.no ).mono ?_
      rintro e w4 ⟨rfl, hb⟩
      have hN1 := (HN.out.below hb).alloc (.cells #[.string ⟨#[]⟩, .string ⟨#[]⟩] 38)
      clear hb HN c3_1 c3_2 c3_3
      have HN := Lib.hid hN1
      clear hN1
      have c4_1 : (w4.alloc (.cells #[.string ⟨#[]⟩, .string ⟨#[]⟩] 38)).cell? ⟨w.heap.size, 1, none⟩ = _ := HN.out.cell 1 rfl
      have c4_2 : (w4.alloc (.cells #[.string ⟨#[]⟩, .string ⟨#[]⟩] 38)).cell? ⟨w.heap.size, 2, none⟩ = _ := HN.out.cell 2 rfl
      have c4_3 : (w4.alloc (.cells #[.string ⟨#[]⟩, .string ⟨#[]⟩] 38)).cell? ⟨w.heap.size, 3, none⟩ = _ := HN.out.cell 3 rfl
      go_wp2_with fail
      refine (no_floor HN.out.no a).mono ?_
      rintro e w5 ⟨rfl, hb⟩
      have hN1 := (HN.out.below hb).alloc (.cells #[.string ⟨#[]⟩, .string ⟨#[]⟩] 38)
      clear hb HN c4_1 c4_2 c4_3
      have HN := Lib.hid hN1
      clear hN1
      have c5_1 : (w5.alloc (.cells #[.string ⟨#[]⟩, .string ⟨#[]⟩] 38)).cell? ⟨w.heap.size, 1, none⟩ = _ := HN.out.cell 1 rfl
      have c5_2 : (w5.alloc (.cells #[.string ⟨#[]⟩, .string ⟨#[]⟩] 38)).cell? ⟨w.heap.size, 2, none⟩ = _ := HN.out.cell 2 rfl
      have c5_3 : (w5.alloc (.cells #[.string ⟨#[]⟩, .string ⟨#[]⟩] 38)).cell? ⟨w.heap.size, 3, none⟩ = _ := HN.out.cell 3 rfl
      go_wp2_with fail
      refine (no_ceiling HN.out.no a).mono ?_
      rintro e w6 ⟨rfl, hb⟩
      have hN1 := (HN.out.below hb).alloc (.cells #[.string ⟨#[]⟩, .string ⟨#[]⟩] 38)
      clear hb HN c5_1 c5_2 c5_3
      have HN := Lib.hid hN1
      clear hN1
      have c6_1 : (w6.alloc (.cells #[.string ⟨#[]⟩, .string ⟨#[]⟩] 38)).cell? ⟨w.heap.size, 1, none⟩ = _ := HN.out.cell 1 rfl
      have c6_2 : (w6.alloc (.cells #[.string ⟨#[]⟩, .string ⟨#[]⟩] 38)).cell? ⟨w.heap.size, 2, none⟩ = _ := HN.out.cell 2 rfl
      have c6_3 : (w6.alloc (.cells #[.string ⟨#[]⟩, .string ⟨#[]⟩] 38)).cell? ⟨w.heap.size, 3, none⟩ = _ := HN.out.cell 3 rfl
      go_wp2_with fail
      refine (no_select HN.out.no kk).mono ?_
      rintro e w7 ⟨rfl, hb⟩
      have hN1 := (HN.out.below hb).alloc (.cells #[.string ⟨#[]⟩, .string ⟨#[]⟩] 38)
      clear hb HN c6_1 c6_2 c6_3
      have HN := Lib.hid hN1
      clear hN1
      have c7_1 : (w7.alloc (.cells #[.string ⟨#[]⟩, .string ⟨#[]⟩] 38)).cell? ⟨w.heap.size, 1, none⟩ = _ := HN.out.cell 1 rfl
      have c7_2 : (w7.alloc (.cells #[.string ⟨#[]⟩, .string ⟨#[]⟩] 38)).cell? ⟨w.heap.size, 2, none⟩ = _ := HN.out.cell 2 rfl
      have c7_3 : (w7.alloc (.cells #[.string ⟨#[]⟩, .string ⟨#[]⟩] 38)).cell? ⟨w.heap.size, 3, none⟩ = _ := HN.out.cell 3 rfl
      go_wp2_with fail
      refine (no_popmin HN.out.no ).mono ?_
      rintro e w8 ⟨rfl, hb⟩
      have hN1 := (HN.out.below hb).alloc (.cells #[.string ⟨#[]⟩, .string ⟨#[]⟩] 38)
      clear hb HN c7_1 c7_2 c7_3
      have HN := Lib.hid hN1
      clear hN1
      have c8_1 : (w8.alloc (.cells #[.string ⟨#[]⟩, .string ⟨#[]⟩] 38)).cell? ⟨w.heap.size, 1, none⟩ = _ := HN.out.cell 1 rfl
      have c8_2 : (w8.alloc (.cells #[.string ⟨#[]⟩, .string ⟨#[]⟩] 38)).cell? ⟨w.heap.size, 2, none⟩ = _ := HN.out.cell 2 rfl
      have c8_3 : (w8.alloc (.cells #[.string ⟨#[]⟩, .string ⟨#[]⟩] 38)).cell? ⟨w.heap.size, 3, none⟩ = _ := HN.out.cell 3 rfl
      go_wp2_with fail
      refine (no_popmax HN.out.no ).mono ?_
      rintro e w9 ⟨rfl, hb⟩
      have hN1 := (HN.out.below hb).alloc (.cells #[.string ⟨#[]⟩, .string ⟨#[]⟩] 38)
      clear hb HN c8_1 c8_2 c8_3
      have HN := Lib.hid hN1
      clear hN1
      have c9_1 : (w9.alloc (.cells #[.string ⟨#[]⟩, .string ⟨#[]⟩] 38)).cell? ⟨w.heap.size, 1, none⟩ = _ := HN.out.cell 1 rfl
      have c9_2 : (w9.alloc (.cells #[.string ⟨#[]⟩, .string ⟨#[]⟩] 38)).cell? ⟨w.heap.size, 2, none⟩ = _ := HN.out.cell 2 rfl
      have c9_3 : (w9.alloc (.cells #[.string ⟨#[]⟩, .string ⟨#[]⟩] 38)).cell? ⟨w.heap.size, 3, none⟩ = _ := HN.out.cell 3 rfl
      go_wp2_with fail
      refine (no_absent HN.out.no a b).mono ?_
      rintro e wx ⟨rfl, rfl⟩
      go_wp2_with fail
      refine (no_clear HN.out.no ).mono ?_
      rintro e wx ⟨rfl, rfl⟩
      go_wp2_with fail
      have e12 : ∀ j, j < 12 → ((w9.alloc (.cells #[.string ⟨#[]⟩, .string ⟨#[]⟩] 38)).alloc (.cells #[.int .i64 1, .int .i64 1, .int .i64 1, .int .i64 1, .int .i64 1, .int .i64 1, .int .i64 1, .int .i64 1, .int .i64 1, .int .i64 1, .int .i64 1, .int .i64 1] 26)).cell? ⟨w9.heap.size + 1, j, none⟩ = some (.int .i64 1) := fun j hj => by
        have q := heap_alloc_new (w9.alloc (.cells #[.string ⟨#[]⟩, .string ⟨#[]⟩] 38)) (.cells #[.int .i64 1, .int .i64 1, .int .i64 1, .int .i64 1, .int .i64 1, .int .i64 1, .int .i64 1, .int .i64 1, .int .i64 1, .int .i64 1, .int .i64 1, .int .i64 1] 26)
        rw [show (w9.alloc (.cells #[.string ⟨#[]⟩, .string ⟨#[]⟩] 38)).heap.size = w9.heap.size + 1 by simp] at q
        rw [cell_of_block q]
        exact nc_row j hj
      have N12 := HN.out.alloc (.cells #[.int .i64 1, .int .i64 1, .int .i64 1, .int .i64 1, .int .i64 1, .int .i64 1, .int .i64 1, .int .i64 1, .int .i64 1, .int .i64 1, .int .i64 1, .int .i64 1] 26)
      have HM := Lib.hid (And.intro N12 e12)
      clear N12 e12 HN c9_1 c9_2 c9_3
      generalize (w9.alloc (.cells #[.string ⟨#[]⟩, .string ⟨#[]⟩] 38)).alloc (.cells #[.int .i64 1, .int .i64 1, .int .i64 1, .int .i64 1, .int .i64 1, .int .i64 1, .int .i64 1, .int .i64 1, .int .i64 1, .int .i64 1, .int .i64 1, .int .i64 1] 26) = W12 at *
      go_loopw [34] (fun n wx => ∃ k : Nat, k ≤ 12 ∧ n = .int .i64 k ∧ wx = W12) (fun n _ => 12 - (intOf n).toNat)
      case atStart => exact ⟨0, by omega, rfl, rfl⟩
      case round =>
        obtain ⟨k, hk, rfl, rfl⟩ := hrel
        by_cases hlt : k < 12
        · have hlt1 : (k : Int) < 12 := by omega
          have ck := HM.out.2 k hlt
          go_wp2_with fail
          go_roundw
          case rel => exact ⟨k + 1, by omega, by simp, by first | rfl | trivial⟩
          case measure => simp [intOf]; omega
        · obtain rfl : k = 12 := by omega
          have c2 := HM.out.1.cell 2 rfl
          go_wp2_with fail
          refine (no_rank HM.out.1.no a).mono ?_
          rintro e wx ⟨rfl, rfl⟩
          go_wp2_with fail
          refine (no_len HM.out.1.no ).mono ?_
          rintro e wx ⟨rfl, rfl⟩
          go_wp2_with fail
          refine (no_limit HM.out.1.no ).mono ?_
          rintro e wx ⟨rfl, rfl⟩
          go_wp2_with fail
          refine (no_tree HM.out.1.no ).mono ?_
          rintro e wx ⟨rfl, rfl⟩
          go_wp2_with fail
          refine (no_store HM.out.1.no ).mono ?_
          rintro e wx ⟨rfl, rfl⟩
          go_wp2_with fail
          go_roundw
          case rel => exact ⟨Or.inr (Or.inr ⟨rfl, by first | rfl | trivial⟩), HM.out.1⟩
          case measure => simp [intOf]
    · have hN1 := hN
      have HN := Lib.hid hN1
      clear hN hN1
      go_wp2_with fail
      refine (HG.out.2.1 _ HN.out.bl).mono ?_
      rintro e w1 ⟨ps, rfl, hs1, hb1⟩
      have H1 := Lib.hid (And.intro hs1 (HN.out.bl.trans (hb1.mono HN.out.bl.size)))
      clear hs1 hb1
      go_wp2_with fail
      refine (nil_map_new kind t limit _).mono ?_
      rintro e wx ⟨rfl, rfl⟩
      go_wp2_with fail
      refine (map_of_nil H1.out.1 none_inv limit).mono ?_
      rintro e wx ⟨rfl, rfl⟩
      go_wp2_with fail
      refine (HG.out.1 _ H1.out.2).mono ?_
      rintro e w2 ⟨rfl, hb2⟩
      have H2 := Lib.hid (H1.out.2.trans (hb2.mono H1.out.2.size))
      clear hb2
      go_wp2_with fail
      go_ret
      exact ⟨rfl, H2.out⟩
end Go.Proofs.YtepdkbmnkjfcpaaGreatDoor
