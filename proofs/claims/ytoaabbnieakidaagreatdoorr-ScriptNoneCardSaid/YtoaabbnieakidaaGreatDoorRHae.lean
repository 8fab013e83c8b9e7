/- Scripts: without a world nothing is done: the walk. -/
import Derived.Test.YtoaabbnieakidaaGreatDoorRHaa
import Derived.Test.YtoaabbnieakidaaGreatDoorRHad
namespace Go.Proofs.YtoaabbnieakidaaGreatDoorR
open Go.RowKit Go.BigFrame Go.Maps Go.WideMaps Lf

/-- a world of the walk: the call's own block stands, the unmade world's too, and v is no world -/
structure NwAt (w : World) (d n : Int) (a b : List UInt8) (pz : Nat) (v : Value) (W : World) : Prop where
  bl : Below w.heap.size w W
  ac : W.heap[w.heap.size]? = some (.cells #[.int .i64 d, .int .i64 n, SV a, SV b] 23)
  z : W.heap[pz]? = some (.cells #[.pointer none, .pointer none, .pointer none, .pointer none, .pointer none] 30)
  no : NoW W v
theorem NwAt.below {w : World} {d n : Int} {a b : List UInt8} {pz : Nat} {v : Value} {W W' : World} (h : NwAt w d n a b pz v W) (hb : Below W.heap.size W W') : NwAt w d n a b pz v W' :=
  ⟨h.bl.trans (hb.mono h.bl.size), (hb.block _ (Array.getElem?_eq_some_iff.1 h.ac).1).trans h.ac, (hb.block _ (Array.getElem?_eq_some_iff.1 h.z).1).trans h.z, h.no.below hb⟩
theorem ans1_row {W : World} {g : Nat} (h : W.heap[g]? = some (.cells #[.int .i64 1, .int .i64 0, .slice none 0 0] 35)) : ARow W (.slice (some ⟨g, 0, none⟩) 1 1) [⟨1, 0, []⟩] :=
  ⟨_, 1, rfl, fun i hi => by
    obtain rfl : i = 0 := by simpa using hi
    exact ⟨g, 0, .slice none 0 0, rfl, by rw [cell_of_block h]; rfl, by rw [cell_of_block h]; rfl, by rw [cell_of_block h]; rfl, PRow.nil _⟩⟩

set_option maxRecDepth 100000 in
set_option maxHeartbeats 3200000 in
theorem scriptNone_walk (d n : Int) (a b : List UInt8) {w : World} (ht : Tab64 w) :
    Calls Tryz.prog 3 #[.agg #[.int .i64 d, .int .i64 n, SV a, SV b]] w fun e w' => e = .returned (.bool true) ∧ Below w.heap.size w w' := by
  have haw := fun W (hW : Below w.heap.size w W) => awake28 (ht.of_block (hW.block _ ht.lt))
  have B0 := (Below.refl w.heap.size w).alloc (Nat.le_refl _) (.cells #[.int .i64 d, .int .i64 n, SV a, SV b] 23)
  have q0 := heap_alloc_new w (.cells #[.int .i64 d, .int .i64 n, SV a, SV b] 23)
  have c0 : ((w.alloc (.cells #[.int .i64 d, .int .i64 n, SV a, SV b] 23))).cell? ⟨w.heap.size, 0, none⟩ = some (.int .i64 d) := by rw [cell_of_block q0]; rfl
  have c1 : ((w.alloc (.cells #[.int .i64 d, .int .i64 n, SV a, SV b] 23))).cell? ⟨w.heap.size, 1, none⟩ = some (.int .i64 n) := by rw [cell_of_block q0]; rfl
  have c2 : ((w.alloc (.cells #[.int .i64 d, .int .i64 n, SV a, SV b] 23))).cell? ⟨w.heap.size, 2, none⟩ = some (SV a) := by rw [cell_of_block q0]; rfl
  have c3 : ((w.alloc (.cells #[.int .i64 d, .int .i64 n, SV a, SV b] 23))).cell? ⟨w.heap.size, 3, none⟩ = some (SV b) := by rw [cell_of_block q0]; rfl
  have HG := Lib.hid (And.intro haw (And.intro B0 q0))
  clear haw B0 q0 ht
  by_cases h1 : 2000 < a.length
  ·
    have q1 : (2000 : Int) < a.length := by omega
    go_enter Tryz.func3, Tryz.ntmps3
    go_wp2_with fail
    refine (HG.out.1 _ HG.out.2.1).mono ?_
    rintro e w1 ⟨rfl, hb1⟩
    have H1 := Lib.hid (HG.out.2.1.trans (hb1.mono HG.out.2.1.size))
    clear hb1
    go_wp2_with fail
    go_ret
    exact ⟨rfl, H1.out⟩
  have q1 : ¬ (2000 : Int) < a.length := by omega
  by_cases h2 : 2000 < b.length
  ·
    have q2 : (2000 : Int) < b.length := by omega
    go_enter Tryz.func3, Tryz.ntmps3
    go_wp2_with fail
    refine (HG.out.1 _ HG.out.2.1).mono ?_
    rintro e w1 ⟨rfl, hb1⟩
    have H1 := Lib.hid (HG.out.2.1.trans (hb1.mono HG.out.2.1.size))
    clear hb1
    go_wp2_with fail
    go_ret
    exact ⟨rfl, H1.out⟩
  have q2 : ¬ (2000 : Int) < b.length := by omega
  go_enter Tryz.func3, Tryz.ntmps3
  go_wp2_with fail
  have N0 : ∀ v, v = .pointer none ∨ v = PV (w.heap.size + 1) → NwAt w d n a b (w.heap.size + 1) v ((w.alloc (.cells #[.int .i64 d, .int .i64 n, SV a, SV b] 23)).alloc (.cells #[.pointer none, .pointer none, .pointer none, .pointer none, .pointer none] 30)) := fun v hv =>
    have q := heap_alloc_new (w.alloc (.cells #[.int .i64 d, .int .i64 n, SV a, SV b] 23)) (.cells #[.pointer none, .pointer none, .pointer none, .pointer none, .pointer none] 30)
    have B1 := (Below.refl (w.heap.size + 1) (w.alloc (.cells #[.int .i64 d, .int .i64 n, SV a, SV b] 23))).alloc (by simp) (.cells #[.pointer none, .pointer none, .pointer none, .pointer none, .pointer none] 30)
    have q' : _ = _ := by simpa using q
    ⟨HG.out.2.1.trans (B1.mono (by omega)), (B1.block _ (by omega)).trans (heap_alloc_new _ _), q', hv.imp id fun e => ⟨_, e, q'⟩⟩
  have HN0 := Lib.hid N0
  clear N0 c0 c1 c2 c3
  generalize (w.alloc (.cells #[.int .i64 d, .int .i64 n, SV a, SV b] 23)).alloc (.cells #[.pointer none, .pointer none, .pointer none, .pointer none, .pointer none] 30) = W0 at *
  go_loopw [3, 5] (fun m i wr => ((i = .int .i64 0 ∧ m = .pointer none) ∨ (i = .int .i64 1 ∧ m = .pointer none) ∨ (i = .int .i64 2 ∧ m = PV (w.heap.size + 1))) ∧ NwAt w d n a b (w.heap.size + 1) m wr) (fun _ i _ => 2 - (intOf i).toNat)
  case atStart => exact ⟨Or.inl ⟨rfl, rfl⟩, HN0.out _ (Or.inl rfl)⟩
  case round =>
    obtain ⟨hr, hN⟩ := hrel
    rcases hr with ⟨rfl, rfl⟩ | ⟨rfl, rfl⟩ | ⟨rfl, rfl⟩
    ·
      have hN1 := hN
      have HN := Lib.hid hN1
      have qa := hN1.ac
      have c0 : (wr).cell? ⟨w.heap.size, 0, none⟩ = some (.int .i64 d) := by rw [cell_of_block qa]; rfl
      have c1 : (wr).cell? ⟨w.heap.size, 1, none⟩ = some (.int .i64 n) := by rw [cell_of_block qa]; rfl
      have c2 : (wr).cell? ⟨w.heap.size, 2, none⟩ = some (SV a) := by rw [cell_of_block qa]; rfl
      have c3 : (wr).cell? ⟨w.heap.size, 3, none⟩ = some (SV b) := by rw [cell_of_block qa]; rfl
      clear hN hN1 qa
      go_wp2_with fail
      refine (now_do HN.out.no d n a b).mono ?_
      rintro e w3 ⟨rfl, hb⟩
      have A1 := (Below.refl _ w3).alloc (Nat.le_refl _) (.cells #[.int .i64 1, .int .i64 0, .slice none 0 0] 35)
      have z1 : (w3.alloc (.cells #[.int .i64 1, .int .i64 0, .slice none 0 0] 35)).heap.size = w3.heap.size + 1 := by simp
      have A2 := (Below.refl _ (w3.alloc (.cells #[.int .i64 1, .int .i64 0, .slice none 0 0] 35))).alloc (Nat.le_refl _) (.cells #[.int .i64 1, .int .i64 0, .slice none 0 0] 35)
      have r1 := (A2.block w3.heap.size (by omega)).trans (heap_alloc_new w3 (.cells #[.int .i64 1, .int .i64 0, .slice none 0 0] 35))
      have r2 := heap_alloc_new (w3.alloc (.cells #[.int .i64 1, .int .i64 0, .slice none 0 0] 35)) (.cells #[.int .i64 1, .int .i64 0, .slice none 0 0] 35)
      rw [z1] at r2
      have hs := same_walk (ans1_row r1) (ans1_row r2) (by decide) (by decide)
      have H3 := Lib.hid (And.intro hs ((HN.out.below hb).below (A1.trans (A2.mono (by simp)))))
      clear hb A1 z1 A2 r1 r2 hs c0 c1 c2 c3
      go_wp2_with fail
      refine H3.out.1.mono ?_
      rintro e w4 ⟨rfl, hb⟩
      have H4 := Lib.hid (H3.out.2.below hb)
      clear hb
      go_wp2_with fail
      refine (now_map H4.out.no).mono ?_
      rintro e wx ⟨rfl, rfl⟩
      go_wp2_with fail
      refine (now_cursors H4.out.no).mono ?_
      rintro e wx ⟨rfl, rfl⟩
      go_wp2_with fail
      go_roundw
      case rel => exact ⟨Or.inr (Or.inl ⟨by simp, rfl⟩), H4.out⟩
      case measure => simp [intOf]
    ·
      have hN1 : NwAt w d n a b (w.heap.size + 1) (PV (w.heap.size + 1)) wr := ⟨hN.bl, hN.ac, hN.z, Or.inr ⟨_, rfl, hN.z⟩⟩
      have HN := Lib.hid hN1
      have qa := hN1.ac
      have c0 : (wr).cell? ⟨w.heap.size, 0, none⟩ = some (.int .i64 d) := by rw [cell_of_block qa]; rfl
      have c1 : (wr).cell? ⟨w.heap.size, 1, none⟩ = some (.int .i64 n) := by rw [cell_of_block qa]; rfl
      have c2 : (wr).cell? ⟨w.heap.size, 2, none⟩ = some (SV a) := by rw [cell_of_block qa]; rfl
      have c3 : (wr).cell? ⟨w.heap.size, 3, none⟩ = some (SV b) := by rw [cell_of_block qa]; rfl
      clear hN hN1 qa
      go_wp2_with fail
      refine (now_do HN.out.no d n a b).mono ?_
      rintro e w3 ⟨rfl, hb⟩
      have A1 := (Below.refl _ w3).alloc (Nat.le_refl _) (.cells #[.int .i64 1, .int .i64 0, .slice none 0 0] 35)
      have z1 : (w3.alloc (.cells #[.int .i64 1, .int .i64 0, .slice none 0 0] 35)).heap.size = w3.heap.size + 1 := by simp
      have A2 := (Below.refl _ (w3.alloc (.cells #[.int .i64 1, .int .i64 0, .slice none 0 0] 35))).alloc (Nat.le_refl _) (.cells #[.int .i64 1, .int .i64 0, .slice none 0 0] 35)
      have r1 := (A2.block w3.heap.size (by omega)).trans (heap_alloc_new w3 (.cells #[.int .i64 1, .int .i64 0, .slice none 0 0] 35))
      have r2 := heap_alloc_new (w3.alloc (.cells #[.int .i64 1, .int .i64 0, .slice none 0 0] 35)) (.cells #[.int .i64 1, .int .i64 0, .slice none 0 0] 35)
      rw [z1] at r2
      have hs := same_walk (ans1_row r1) (ans1_row r2) (by decide) (by decide)
      have H3 := Lib.hid (And.intro hs ((HN.out.below hb).below (A1.trans (A2.mono (by simp)))))
      clear hb A1 z1 A2 r1 r2 hs c0 c1 c2 c3
      go_wp2_with fail
      refine H3.out.1.mono ?_
      rintro e w4 ⟨rfl, hb⟩
      have H4 := Lib.hid (H3.out.2.below hb)
      clear hb
      go_wp2_with fail
      refine (now_map H4.out.no).mono ?_
      rintro e wx ⟨rfl, rfl⟩
      go_wp2_with fail
      refine (now_cursors H4.out.no).mono ?_
      rintro e wx ⟨rfl, rfl⟩
      go_wp2_with fail
      go_roundw
      case rel => exact ⟨Or.inr (Or.inr ⟨by simp, rfl⟩), H4.out⟩
      case measure => simp [intOf]
    ·
      have HN := Lib.hid hN
      clear hN
      go_wp2_with fail
      refine (HG.out.1 _ HN.out.bl).mono ?_
      rintro e w9 ⟨rfl, hb9⟩
      have H9 := Lib.hid (HN.out.bl.trans (hb9.mono HN.out.bl.size))
      clear hb9
      go_wp2_with fail
      go_ret
      exact ⟨rfl, H9.out⟩
end Go.Proofs.YtoaabbnieakidaaGreatDoorR
