/- Trees that are not there, or that nobody made: the walks. BackendNone: the walk. From a walk that ends in 'true' and 'Below' to a law's row: of whatever program; this program's own closed facts; the table that a row lists, in memory. -/
import Derived.Test.YtepdkbmnkjfcpaaGreatDoorVam
import Derived.Test.YtepdkbmnkjfcpaaGreatDoorVbl
import Derived.Deep.QuietTactic
import Derived.BigQuiet
import Derived.Test.YtepdkbmnkjfcpaaGreatDoorRows
import Derived.ProofKit
import Derived.Below
import Derived.ChangeSame
import Derived.Lib.LaidTab
import Derived.Lib.SmallJoins
import Derived.Lay
import Derived.MakeChecks
import Derived.Test.YtepdkbmnkjfcpaaGreatDoorVab
set_option maxRecDepth 100000
set_option maxHeartbeats 6400000
namespace Go.Proofs.YtepdkbmnkjfcpaaGreatDoor
open Go.RowKit Go.BigFrame Go.Maps Go.WideMaps Lf
def NoT (w : World) (v : Value) : Prop := v = .pointer none ∨ ∃ px, v = PV px ∧ w.heap[px]? = some (.cells #[.pointer none, .int .i64 0, .int .i64 0, .nilIface, .int .u64 0] 45)
theorem NoT.below {w w' : World} {v : Value} (h : NoT w v) (hb : Below w.heap.size w w') : NoT w' v := h.imp id fun ⟨pm, e, hp⟩ => ⟨pm, e, (hb.block pm (Array.getElem?_eq_some_iff.1 hp).1).trans hp⟩
theorem not_none {w : World} {v : Value} (h : NoT w v) :
    Calls Tryz.prog 70 #[v] w fun e w' => e = .returned (.bool true) ∧ w = w' := by
  rcases h with rfl | ⟨px, rfl, hC⟩
  · exact tree_none_nil w
  ·
    have c0 : (w).cell? ⟨px, 0, none⟩ = some (.pointer none) := by rw [cell_of_block hC]; rfl
    have c1 : (w).cell? ⟨px, 1, none⟩ = some (.int .i64 0) := by rw [cell_of_block hC]; rfl
    have c2 : (w).cell? ⟨px, 2, none⟩ = some (.int .i64 0) := by rw [cell_of_block hC]; rfl
    have c3 : (w).cell? ⟨px, 3, none⟩ = some (.nilIface) := by rw [cell_of_block hC]; rfl
    have c4 : (w).cell? ⟨px, 4, none⟩ = some (.int .u64 0) := by rw [cell_of_block hC]; rfl
    clear hC
    go_enter Tryz.func70, Tryz.ntmps70
    go_wp2_with fail
    go_ret
    exact ⟨rfl, rfl⟩
theorem not_get {w : World} {v : Value} (h : NoT w v) (a : List UInt8) :
    Calls Tryz.prog 18 #[v, SV a] w fun e w' => e = .returned (.tuple #[.string ⟨#[]⟩, .bool false]) ∧ w = w' := by
  have HG := Lib.hid (not_none h)
  clear h
  go_enter Tryz.func18, Tryz.ntmps18
  go_wp2_with fail
  refine HG.out.mono ?_
  rintro e w1 ⟨rfl, rfl⟩
  go_wp2_with fail
  go_ret2
  exact ⟨rfl, rfl⟩
theorem not_delete {w : World} {v : Value} (h : NoT w v) (a : List UInt8) :
    Calls Tryz.prog 17 #[v, SV a] w fun e w' => e = .returned (.tuple #[.string ⟨#[]⟩, .bool false, .int .i64 1]) ∧ w = w' := by
  have HG := Lib.hid (not_none h)
  clear h
  go_enter Tryz.func17, Tryz.ntmps17
  go_wp2_with fail
  refine HG.out.mono ?_
  rintro e w1 ⟨rfl, rfl⟩
  go_wp2_with fail
  go_ret3
  exact ⟨rfl, rfl⟩
theorem not_rank {w : World} {v : Value} (h : NoT w v) (a : List UInt8) :
    Calls Tryz.prog 25 #[v, SV a] w fun e w' => e = .returned (.int .i64 0) ∧ w = w' := by
  have HG := Lib.hid (not_none h)
  clear h
  go_enter Tryz.func25, Tryz.ntmps25
  go_wp2_with fail
  refine HG.out.mono ?_
  rintro e w1 ⟨rfl, rfl⟩
  go_wp2_with fail
  go_ret
  exact ⟨rfl, rfl⟩
theorem not_fill {w : World} {v : Value} (h : NoT w v) :
    Calls Tryz.prog 20 #[v, .slice none 0 0] w fun e w' => e = .returned (.int .i64 1) ∧ w = w' := by
  have HG := Lib.hid (not_none h)
  clear h
  go_enter Tryz.func20, Tryz.ntmps20
  go_wp2_with fail
  refine HG.out.mono ?_
  rintro e w1 ⟨rfl, rfl⟩
  go_wp2_with fail
  go_ret
  exact ⟨rfl, rfl⟩
theorem not_free {w : World} {v : Value} (h : NoT w v) :
    Calls Tryz.prog 21 #[v] w fun e w' => e = .returned (.int .i64 1) ∧ w = w' := by
  have HG := Lib.hid (not_none h)
  clear h
  go_enter Tryz.func21, Tryz.ntmps21
  go_wp2_with fail
  refine HG.out.mono ?_
  rintro e w1 ⟨rfl, rfl⟩
  go_wp2_with fail
  go_ret
  exact ⟨rfl, rfl⟩
theorem not_check {w : World} {v : Value} (h : NoT w v) :
    Calls Tryz.prog 22 #[v] w fun e w' => e = .returned (.int .i64 1) ∧ w = w' := by
  have HG := Lib.hid (not_none h)
  clear h
  go_enter Tryz.func22, Tryz.ntmps22
  go_wp2_with fail
  refine HG.out.mono ?_
  rintro e w1 ⟨rfl, rfl⟩
  go_wp2_with fail
  go_ret
  exact ⟨rfl, rfl⟩
theorem not_root {w : World} {v : Value} (h : NoT w v) :
    Calls Tryz.prog 23 #[v] w fun e w' => e = .returned (.int .u64 0) ∧ w = w' := by
  have HG := Lib.hid (not_none h)
  clear h
  go_enter Tryz.func23, Tryz.ntmps23
  go_wp2_with fail
  refine HG.out.mono ?_
  rintro e w1 ⟨rfl, rfl⟩
  go_wp2_with fail
  go_ret
  exact ⟨rfl, rfl⟩
theorem not_len {w : World} {v : Value} (h : NoT w v) :
    Calls Tryz.prog 24 #[v] w fun e w' => e = .returned (.int .i64 0) ∧ w = w' := by
  have HG := Lib.hid (not_none h)
  clear h
  go_enter Tryz.func24, Tryz.ntmps24
  go_wp2_with fail
  refine HG.out.mono ?_
  rintro e w1 ⟨rfl, rfl⟩
  go_wp2_with fail
  go_ret
  exact ⟨rfl, rfl⟩
theorem not_list {w : World} {v : Value} (h : NoT w v) :
    Calls Tryz.prog 26 #[v] w fun e w' => e = .returned (.slice none 0 0) ∧ w = w' := by
  have HG := Lib.hid (not_none h)
  clear h
  go_enter Tryz.func26, Tryz.ntmps26
  go_wp2_with fail
  refine HG.out.mono ?_
  rintro e w1 ⟨rfl, rfl⟩
  go_wp2_with fail
  go_ret
  exact ⟨rfl, rfl⟩
theorem not_put {w : World} {v : Value} (h : NoT w v) (a b : List UInt8) :
    Calls Tryz.prog 16 #[v, .agg #[SV a, SV b]] w fun e w' => e = .returned (.tuple #[.string ⟨#[]⟩, .bool false, .int .i64 1]) ∧ Below w.heap.size w w' := by
  have B0 := (Below.refl w.heap.size w).alloc (Nat.le_refl _) (.cells #[SV a, SV b] 38)
  have HG := Lib.hid (And.intro (not_none (h.below B0)) B0)
  clear h B0
  go_enter Tryz.func16, Tryz.ntmps16
  go_wp2_with fail
  refine HG.out.1.mono ?_
  rintro e w1 ⟨rfl, rfl⟩
  go_wp2_with fail
  go_ret3
  exact ⟨rfl, HG.out.2⟩
theorem not_at {w : World} {v : Value} (h : NoT w v) (k : Int) :
    Calls Tryz.prog 19 #[v, .int .i64 k] w fun e w' => e = .returned (.tuple #[.agg #[.string ⟨#[]⟩, .string ⟨#[]⟩], .int .i64 1]) ∧ Below w.heap.size w w' := by
  have B0 := (Below.refl w.heap.size w).alloc (Nat.le_refl _) (.cells #[.string ⟨#[]⟩, .string ⟨#[]⟩] 38)
  have q0 := heap_alloc_new w (.cells #[.string ⟨#[]⟩, .string ⟨#[]⟩] 38)
  have c0 : ((w.alloc (.cells #[.string ⟨#[]⟩, .string ⟨#[]⟩] 38))).cell? ⟨w.heap.size, 0, none⟩ = some (.string ⟨#[]⟩) := by rw [cell_of_block q0]; rfl
  have c1 : ((w.alloc (.cells #[.string ⟨#[]⟩, .string ⟨#[]⟩] 38))).cell? ⟨w.heap.size, 1, none⟩ = some (.string ⟨#[]⟩) := by rw [cell_of_block q0]; rfl
  have f0 : ((w.alloc (.cells #[.string ⟨#[]⟩, .string ⟨#[]⟩] 38))).frozen? ⟨w.heap.size, 0, none⟩ = false := frozen_of_block q0
  have f1 : ((w.alloc (.cells #[.string ⟨#[]⟩, .string ⟨#[]⟩] 38))).frozen? ⟨w.heap.size, 1, none⟩ = false := frozen_of_block q0
  have HG := Lib.hid (And.intro (not_none (h.below B0)) B0)
  clear h B0 q0
  go_enter Tryz.func19, Tryz.ntmps19
  go_wp2_with fail
  refine HG.out.1.mono ?_
  rintro e w1 ⟨rfl, rfl⟩
  go_wp2_with fail
  exact bodyPost_ret (v := .tuple #[.agg #[.string ⟨#[]⟩, .string ⟨#[]⟩], .int .i64 1]) (by simp [results, Tryz.f19, go_sem, c0, c1]) rfl ⟨rfl, HG.out.2⟩
end Go.Proofs.YtepdkbmnkjfcpaaGreatDoor
namespace Go.Proofs.YtepdkbmnkjfcpaaGreatDoor
open Go.RowKit Go.BigFrame Go.Maps Go.WideMaps Lf Tr
structure TrAt (w W : World) (ps px t root : Nat) (S : St) (Y : Nat → Prop) (L : List (List UInt8 × List UInt8)) : Prop where
  st : StOn W ps S Y
  hold : ∃ o R, Bt.Holds S o t root L R
  on : ManyOn W px ps t root
  bl : Below w.heap.size w W
  own : ∀ k, k < w.heap.size → Y k
  yx : Y px
  pxl : w.heap.size ≤ px
theorem TrAt.below {w W W' : World} {ps px t root : Nat} {S : St} {Y : Nat → Prop} {L : List (List UInt8 × List UInt8)} (h : TrAt w W ps px t root S Y L) (hb : Below W.heap.size W W') : TrAt w W' ps px t root S Y L :=
  ⟨h.st.below hb, h.hold, h.on.below hb, h.bl.trans (hb.mono h.bl.size), h.own, h.yx, h.pxl⟩
theorem TrAt.put {w W : World} {ps px t root p q : Nat} {S : St} {Y : Nat → Prop} {L : List (List UInt8 × List UInt8)} (h : TrAt w W ps px t root S Y L) (hs : Space S (20 + p) (9 + q)) (a b : List UInt8) (ha : a.length ≤ 1000) (hb : b.length ≤ 1000) (hc : L.length < 126) (hins : Bt.getL L a = none → L ≠ [] → ∀ d, InsAt d) :
    Calls Tryz.prog 16 #[PV px, prV (a, b)] W fun e w' => ∃ (x : Nat) (S3 : St), e = .returned (.tuple #[SV ((Bt.getL L a).getD []), .bool (Bt.getL L a).isSome, .int .i64 0]) ∧ TrAt w w' ps px t x S3 Y (putL L a b) ∧ Space S3 p q := by
  obtain ⟨o, R, hH⟩ := h.hold
  refine (many_tree_put hins h.st hH h.on h.yx b ha hb hc (hs.mono (by omega) (by omega))).mono ?_
  rintro e w' ⟨x, S3, rfl, h1, h2, h3, h4⟩
  obtain ⟨o3, R3, h5, _⟩ := h4.holds
  exact ⟨x, S3, rfl, ⟨h1, ⟨o3, R3, h5⟩, h3, h.bl.trans (Keep.below (h2.mono fun k hk => ⟨h.own k hk, fun q => by have := h.pxl; omega⟩)), h.own, h.yx, h.pxl⟩, Space.grew hs h4.grew⟩
theorem pr_eql_ay (W : World) : (binOp .eql 38 (.agg #[SV [97], SV [121]]) (.agg #[SV [97], SV [121]])).run Tryz.prog W = .ok (.bool true) W := by kernel_rfl
theorem awake19 {w : World} (ht : Tab64 w) :
    Calls Tryz.prog 15 #[] w fun e w' => e = .returned (.bool true) ∧ Below w.heap.size w w' := by
  have hsn := store_new ht 262144 1000 4294967295 (by omega) (by omega) (by omega)
  have hfe := fit_empty 262144 1000 4294967295 (by omega) (by omega) (by omega)
  have hmn := fun W ps Y (hW : StOn W ps ⟨⟨262144, []⟩, ⟨1000, 4294967295, []⟩⟩ Y) => many_new hW hfe.inv (t := 2) (by omega) (by omega)
  have hsp : Space ⟨⟨262144, []⟩, ⟨1000, 4294967295, []⟩⟩ (20 + 20) (9 + 9) := ⟨by decide, by decide⟩
  have HG := Lib.hid (And.intro hsn (And.intro hmn (And.intro hfe hsp)))
  clear hsn hmn hfe hsp ht
  go_enter Tryz.func15, Tryz.ntmps15
  go_wp2_with fail
  refine HG.out.1.mono ?_
  rintro e w1 ⟨ps, rfl, hs1, hb1⟩
  have H1 := Lib.hid (And.intro hs1 hb1)
  clear hs1 hb1
  go_wp2_with fail
  refine (HG.out.2.1 _ _ _ H1.out.1).mono ?_
  rintro e w2 ⟨px, rfl, hT, hb2, lx⟩
  have hm0 : TrAt w w2 ps px 2 0 ⟨⟨262144, []⟩, ⟨1000, 4294967295, []⟩⟩ (fun k => k < w.heap.size ∨ (w1.heap.size ≤ k ∧ k < w2.heap.size)) [] :=
    ⟨H1.out.1.wide hb2, ⟨_, [], Or.inl ⟨⟨HG.out.2.2.1, by omega, by omega⟩, rfl, rfl, rfl⟩⟩, hT, H1.out.2.trans (hb2.mono H1.out.2.size), fun k hk => Or.inl hk, Or.inr ⟨lx, (Array.getElem?_eq_some_iff.1 hT).1⟩, Nat.le_trans H1.out.2.size lx⟩
  have HM := Lib.hid hm0
  clear hT hb2 lx hm0
  generalize (fun k => k < w.heap.size ∨ (w1.heap.size ≤ k ∧ k < w2.heap.size)) = Y at HM
  have hp1 := HM.out.put HG.out.2.2.2 [97] [120] (by decide) (by decide) (by decide) (fun _ q => absurd rfl q)
  simp only [prV] at hp1
  have HP1 := Lib.hid hp1
  clear hp1
  go_wp2_with fail
  refine HP1.out.mono ?_
  rintro e w3 ⟨x1, S1, rfl, hm3, hs3⟩
  have H3 := Lib.hid (And.intro hm3 hs3)
  have hp2 := hm3.put (p := 0) (q := 0) hs3 [97] [121] (by decide) (by decide) (by decide) (fun q => absurd q (by decide))
  simp only [prV] at hp2
  have HP2 := Lib.hid hp2
  clear hm3 hs3 hp2
  go_wp2_with fail
  refine HP2.out.mono ?_
  rintro e w4 ⟨x2, S2, rfl, hm4, hs4⟩
  have hat := fun {W : World} (hW : Below w4.heap.size w4 W) => many_tree_at (hm4.below hW).st (hm4.below hW).hold.choose_spec.choose_spec (hm4.below hW).on 0 (p := ([97], [121])) (by decide)
  have hln := fun {W : World} (hW : Below w4.heap.size w4 W) => many_tree_len (hm4.below hW).st (hm4.below hW).hold.choose_spec.choose_spec (hm4.below hW).on
  have hrk := fun {W : World} (hW : Below w4.heap.size w4 W) => many_tree_rank (hm4.below hW).st (hm4.below hW).hold.choose_spec.choose_spec (hm4.below hW).on [98]
  have H4 := Lib.hid (And.intro hm4 (And.intro @hat (And.intro @hln @hrk)))
  clear hm4 hs4 hat hln hrk
  go_wp2_with fail
  refine (H4.out.2.1 (Below.refl _ _)).mono ?_
  rintro e w5 ⟨rfl, hb5⟩
  have A5 := hb5.trans (((Below.refl w5.heap.size w5).alloc (Nat.le_refl _) (.cells #[SV [97], SV [121]] 38)).mono hb5.size)
  have q5 := heap_alloc_new w5 (.cells #[SV [97], SV [121]] 38)
  have H5 := Lib.hid (And.intro A5 q5)
  clear hb5 A5 q5
  simp only [prV]
  go_wp2_with fail
  refine (H4.out.2.2.1 H5.out.1).mono ?_
  rintro e w6 ⟨rfl, hb6⟩
  have q6 := (hb6.block w5.heap.size (by simp)).trans H5.out.2
  have H6 := Lib.hid (And.intro (H5.out.1.trans (hb6.mono H5.out.1.size)) q6)
  clear hb6 q6
  go_wp2_with fail
  refine (H4.out.2.2.2 H6.out.1).mono ?_
  rintro e w7 ⟨rfl, hb7⟩
  have q7 := (hb7.block w5.heap.size (Array.getElem?_eq_some_iff.1 H6.out.2).1).trans H6.out.2
  have c0 : (w7).cell? ⟨w5.heap.size, 0, none⟩ = some (SV [97]) := by rw [cell_of_block q7]; rfl
  have c1 : (w7).cell? ⟨w5.heap.size, 1, none⟩ = some (SV [121]) := by rw [cell_of_block q7]; rfl
  have H7 := Lib.hid (H6.out.1.trans (hb7.mono H6.out.1.size))
  clear hb7 q7
  have ea := pr_eql_ay
  go_wp2_with fail
  go_ret
  exact ⟨rfl, H4.out.1.bl.trans (H7.out.mono H4.out.1.bl.size)⟩
structure NbAt (w : World) (a b : List UInt8) (pz : Nat) (v : Value) (W : World) : Prop where
  bl : Below w.heap.size w W
  op : W.heap[w.heap.size]? = some (.cells #[SV a, SV b] 38)
  z : W.heap[pz]? = some (.cells #[.pointer none, .int .i64 0, .int .i64 0, .nilIface, .int .u64 0] 45)
  no : NoT W v
theorem NbAt.below {w : World} {a b : List UInt8} {pz : Nat} {v : Value} {W W' : World} (h : NbAt w a b pz v W) (hb : Below W.heap.size W W') : NbAt w a b pz v W' :=
  ⟨h.bl.trans (hb.mono h.bl.size), (hb.block _ (Array.getElem?_eq_some_iff.1 h.op).1).trans h.op, (hb.block _ (Array.getElem?_eq_some_iff.1 h.z).1).trans h.z, h.no.below hb⟩
theorem cat_nil : (({ data := #[] } : ByteArray) ++ { data := #[] } ++ { data := #[] }).toList = [] := by kernel_rfl
theorem quiet_eq {P : Program} {f : FuncId} {args : Array Value} {w : World} {n : Nat} {v : Value} (h : Calls P f args (w.drewN n) fun e w' => e = .returned v ∧ w.drewN n = w') : Calls P f args (w.drewN n) fun e w'' => e = .returned v ∧ ∃ m, w'' = w.drewN m :=
  h.mono fun _ _ ⟨he, hm⟩ => ⟨he, n, hm.symm⟩
theorem nb_long (n : Nat) (h : 2000 < n) : (2000 < (n : Int)) = True := eq_true (by omega)
theorem nb_short (n : Nat) (h : ¬ 2000 < n) : (2000 < (n : Int)) = False := eq_false (by omega)
theorem backendNone_walk (kind t : Int) (a b : List UInt8) (kk : Int) {w : World} (ht : Tab64 w) :
    Calls Tryz.prog 4 #[.int .i64 kind, .int .i64 t, .agg #[SV a, SV b], .int .i64 kk] w fun e w' => e = .returned (.bool true) ∧ Below w.heap.size w w' := by
  have haw := fun W (hW : Below w.heap.size w W) => awake19 (ht.of_block (hW.block _ ht.lt))
  have B0 := (Below.refl w.heap.size w).alloc (Nat.le_refl _) (.cells #[SV a, SV b] 38)
  have HG := Lib.hid (And.intro haw B0)
  clear haw B0 ht
  by_cases h1 : 2000 < a.length
  · have q1 := nb_long _ h1
    go_enter Tryz.func4, Tryz.ntmps4
    go_wp2_with fail
    refine (HG.out.1 _ HG.out.2).mono ?_
    rintro e w1 ⟨rfl, hb1⟩
    have H1 := Lib.hid (HG.out.2.trans (hb1.mono HG.out.2.size))
    clear hb1
    go_wp2_with fail
    go_ret
    exact ⟨rfl, H1.out⟩
  have q1 := nb_short _ h1
  by_cases h2 : 2000 < b.length
  · have q2 := nb_long _ h2
    go_enter Tryz.func4, Tryz.ntmps4
    go_wp2_with fail
    refine (HG.out.1 _ HG.out.2).mono ?_
    rintro e w1 ⟨rfl, hb1⟩
    have H1 := Lib.hid (HG.out.2.trans (hb1.mono HG.out.2.size))
    clear hb1
    go_wp2_with fail
    go_ret
    exact ⟨rfl, H1.out⟩
  have q2 := nb_short _ h2
  go_enter Tryz.func4, Tryz.ntmps4
  go_wp2_with fail
  have N0 : NbAt w a b (w.heap.size + 1) (.pointer none) ((w.alloc (.cells #[SV a, SV b] 38)).alloc (.cells #[.pointer none, .int .i64 0, .int .i64 0, .nilIface, .int .u64 0] 45)) :=
    have q := heap_alloc_new (w.alloc (.cells #[SV a, SV b] 38)) (.cells #[.pointer none, .int .i64 0, .int .i64 0, .nilIface, .int .u64 0] 45)
    have B1 := (Below.refl (w.heap.size + 1) (w.alloc (.cells #[SV a, SV b] 38))).alloc (by simp) (.cells #[.pointer none, .int .i64 0, .int .i64 0, .nilIface, .int .u64 0] 45)
    have q' : _ = _ := by simpa using q
    ⟨HG.out.2.trans (B1.mono (by omega)), (B1.block _ (by omega)).trans (heap_alloc_new _ _), q', Or.inl rfl⟩
  have HN0 := Lib.hid N0
  clear N0
  generalize (w.alloc (.cells #[SV a, SV b] 38)).alloc (.cells #[.pointer none, .int .i64 0, .int .i64 0, .nilIface, .int .u64 0] 45) = W0 at *
  go_loopw [9, 11, 12, 13, 14, 15, 16, 17, 18, 19, 20, 21] (fun m i _ _ _ _ _ _ _ _ _ _ wr => ((i = .int .i64 0 ∧ m = .pointer none) ∨ (i = .int .i64 1 ∧ m = .pointer none) ∨ (i = .int .i64 2 ∧ m = PV (w.heap.size + 1))) ∧ NbAt w a b (w.heap.size + 1) m wr) (fun _ i _ _ _ _ _ _ _ _ _ _ _ => 2 - (intOf i).toNat)
  case atStart => exact ⟨Or.inl ⟨rfl, rfl⟩, HN0.out⟩
  case round =>
    obtain ⟨hr, hN⟩ := hrel
    rcases hr with ⟨rfl, rfl⟩ | ⟨rfl, rfl⟩ | ⟨rfl, rfl⟩
    · have HN := Lib.hid hN
      have hcat := cat_nil
      clear hN
      have op0 := HN.out.op
      have c0 : (wr).cell? ⟨w.heap.size, 0, none⟩ = some (SV a) := by rw [cell_of_block op0]; rfl
      have c1 : (wr).cell? ⟨w.heap.size, 1, none⟩ = some (SV b) := by rw [cell_of_block op0]; rfl
      clear op0
      go_wp2_with fail
      refine (not_put HN.out.no a b).mono ?_
      rintro e w3 ⟨rfl, hb⟩
      have H3 := Lib.hid (HN.out.below hb)
      have op0 := H3.out.op
      clear hb HN c0 c1
      have c0 : (w3).cell? ⟨w.heap.size, 0, none⟩ = some (SV a) := by rw [cell_of_block op0]; rfl
      have c1 : (w3).cell? ⟨w.heap.size, 1, none⟩ = some (SV b) := by rw [cell_of_block op0]; rfl
      clear op0
      go_wp2_with fail
      refine (not_delete H3.out.no a).mono ?_
      rintro e wx ⟨rfl, rfl⟩
      go_wp2_with fail
      refine (not_get H3.out.no a).mono ?_
      rintro e wx ⟨rfl, rfl⟩
      go_wp2_with fail
      refine (not_at H3.out.no kk).mono ?_
      rintro e w4 ⟨rfl, hb⟩
      have B4 := hb.trans (((Below.refl w4.heap.size w4).alloc (Nat.le_refl _) (.cells #[.string ⟨#[]⟩, .string ⟨#[]⟩] 38)).mono hb.size)
      have q4 := heap_alloc_new w4 (.cells #[.string ⟨#[]⟩, .string ⟨#[]⟩] 38)
      have H4 := Lib.hid (H3.out.below B4)
      have op0 := H4.out.op
      clear hb H3 c0 c1 B4
      have c0 : ((w4.alloc (.cells #[.string ⟨#[]⟩, .string ⟨#[]⟩] 38))).cell? ⟨w.heap.size, 0, none⟩ = some (SV a) := by rw [cell_of_block op0]; rfl
      have c1 : ((w4.alloc (.cells #[.string ⟨#[]⟩, .string ⟨#[]⟩] 38))).cell? ⟨w.heap.size, 1, none⟩ = some (SV b) := by rw [cell_of_block op0]; rfl
      have d0 : ((w4.alloc (.cells #[.string ⟨#[]⟩, .string ⟨#[]⟩] 38))).cell? ⟨w4.heap.size, 0, none⟩ = some (.string ⟨#[]⟩) := by rw [cell_of_block q4]; rfl
      have d1 : ((w4.alloc (.cells #[.string ⟨#[]⟩, .string ⟨#[]⟩] 38))).cell? ⟨w4.heap.size, 1, none⟩ = some (.string ⟨#[]⟩) := by rw [cell_of_block q4]; rfl
      clear op0 q4
      go_wp2_with fail
      refine (not_fill H4.out.no).mono ?_
      rintro e wx ⟨rfl, rfl⟩
      go_wp2_with fail
      refine (not_free H4.out.no).mono ?_
      rintro e wx ⟨rfl, rfl⟩
      go_wp2_with fail
      refine (not_check H4.out.no).mono ?_
      rintro e wx ⟨rfl, rfl⟩
      have n1 := fun n => not_root (w := (w4.alloc (.cells #[.string ⟨#[]⟩, .string ⟨#[]⟩] 38)).drewN n) H4.out.no
      have n2 := fun n => not_len (w := (w4.alloc (.cells #[.string ⟨#[]⟩, .string ⟨#[]⟩] 38)).drewN n) H4.out.no
      have n3 := fun n => not_rank (w := (w4.alloc (.cells #[.string ⟨#[]⟩, .string ⟨#[]⟩] 38)).drewN n) H4.out.no a
      have n4 := fun n => not_list (w := (w4.alloc (.cells #[.string ⟨#[]⟩, .string ⟨#[]⟩] 38)).drewN n) H4.out.no
      go_wp2_with fail
      go_quiet (first | exact quiet_eq (n1 _) | exact quiet_eq (n2 _) | exact quiet_eq (n3 _) | exact quiet_eq (n4 _))
      go_wp2_with fail
      go_roundw
      case rel => exact ⟨Or.inr (Or.inl ⟨rfl, rfl⟩), H4.out.below ⟨rfl, rfl, rfl, Nat.le_refl _, fun _ _ => rfl⟩⟩
      case measure => simp [intOf]
    · have hN1 : NbAt w a b (w.heap.size + 1) (PV (w.heap.size + 1)) wr := ⟨hN.bl, hN.op, hN.z, Or.inr ⟨_, rfl, hN.z⟩⟩
      have HN := Lib.hid hN1
      have hcat := cat_nil
      clear hN hN1
      have op0 := HN.out.op
      have c0 : (wr).cell? ⟨w.heap.size, 0, none⟩ = some (SV a) := by rw [cell_of_block op0]; rfl
      have c1 : (wr).cell? ⟨w.heap.size, 1, none⟩ = some (SV b) := by rw [cell_of_block op0]; rfl
      clear op0
      go_wp2_with fail
      refine (not_put HN.out.no a b).mono ?_
      rintro e w3 ⟨rfl, hb⟩
      have H3 := Lib.hid (HN.out.below hb)
      have op0 := H3.out.op
      clear hb HN c0 c1
      have c0 : (w3).cell? ⟨w.heap.size, 0, none⟩ = some (SV a) := by rw [cell_of_block op0]; rfl
      have c1 : (w3).cell? ⟨w.heap.size, 1, none⟩ = some (SV b) := by rw [cell_of_block op0]; rfl
      clear op0
      go_wp2_with fail
      refine (not_delete H3.out.no a).mono ?_
      rintro e wx ⟨rfl, rfl⟩
      go_wp2_with fail
      refine (not_get H3.out.no a).mono ?_
      rintro e wx ⟨rfl, rfl⟩
      go_wp2_with fail
      refine (not_at H3.out.no kk).mono ?_
      rintro e w4 ⟨rfl, hb⟩
      have B4 := hb.trans (((Below.refl w4.heap.size w4).alloc (Nat.le_refl _) (.cells #[.string ⟨#[]⟩, .string ⟨#[]⟩] 38)).mono hb.size)
      have q4 := heap_alloc_new w4 (.cells #[.string ⟨#[]⟩, .string ⟨#[]⟩] 38)
      have H4 := Lib.hid (H3.out.below B4)
      have op0 := H4.out.op
      clear hb H3 c0 c1 B4
      have c0 : ((w4.alloc (.cells #[.string ⟨#[]⟩, .string ⟨#[]⟩] 38))).cell? ⟨w.heap.size, 0, none⟩ = some (SV a) := by rw [cell_of_block op0]; rfl
      have c1 : ((w4.alloc (.cells #[.string ⟨#[]⟩, .string ⟨#[]⟩] 38))).cell? ⟨w.heap.size, 1, none⟩ = some (SV b) := by rw [cell_of_block op0]; rfl
      have d0 : ((w4.alloc (.cells #[.string ⟨#[]⟩, .string ⟨#[]⟩] 38))).cell? ⟨w4.heap.size, 0, none⟩ = some (.string ⟨#[]⟩) := by rw [cell_of_block q4]; rfl
      have d1 : ((w4.alloc (.cells #[.string ⟨#[]⟩, .string ⟨#[]⟩] 38))).cell? ⟨w4.heap.size, 1, none⟩ = some (.string ⟨#[]⟩) := by rw [cell_of_block q4]; rfl
      clear op0 q4
      go_wp2_with fail
      refine (not_fill H4.out.no).mono ?_
      rintro e wx ⟨rfl, rfl⟩
      go_wp2_with fail
      refine (not_free H4.out.no).mono ?_
      rintro e wx ⟨rfl, rfl⟩
      go_wp2_with fail
      refine (not_check H4.out.no).mono ?_
      rintro e wx ⟨rfl, rfl⟩
      have n1 := fun n => not_root (w := (w4.alloc (.cells #[.string ⟨#[]⟩, .string ⟨#[]⟩] 38)).drewN n) H4.out.no
      have n2 := fun n => not_len (w := (w4.alloc (.cells #[.string ⟨#[]⟩, .string ⟨#[]⟩] 38)).drewN n) H4.out.no
      have n3 := fun n => not_rank (w := (w4.alloc (.cells #[.string ⟨#[]⟩, .string ⟨#[]⟩] 38)).drewN n) H4.out.no a
      have n4 := fun n => not_list (w := (w4.alloc (.cells #[.string ⟨#[]⟩, .string ⟨#[]⟩] 38)).drewN n) H4.out.no
      go_wp2_with fail
      go_quiet (first | exact quiet_eq (n1 _) | exact quiet_eq (n2 _) | exact quiet_eq (n3 _) | exact quiet_eq (n4 _))
      go_wp2_with fail
      go_roundw
      case rel => exact ⟨Or.inr (Or.inr ⟨rfl, rfl⟩), H4.out.below ⟨rfl, rfl, rfl, Nat.le_refl _, fun _ _ => rfl⟩⟩
      case measure => simp [intOf]
    · have HN := Lib.hid hN
      clear hN
      go_wp2_with fail
      refine (nil_new kind t wr).mono ?_
      rintro e wx ⟨rfl, rfl⟩
      go_wp2_with fail
      refine (nil_open kind t 0 wr).mono ?_
      rintro e wx ⟨rfl, rfl⟩
      go_wp2_with fail
      refine (HG.out.1 _ HN.out.bl).mono ?_
      rintro e w9 ⟨rfl, hb9⟩
      have H9 := Lib.hid (HN.out.bl.trans (hb9.mono HN.out.bl.size))
      clear hb9
      go_wp2_with fail
      go_ret
      exact ⟨rfl, H9.out⟩
end Go.Proofs.YtepdkbmnkjfcpaaGreatDoor
namespace Go.Proofs.YtepdkbmnkjfcpaaGreatDoor
open Go.ChangeShapes Go.WideShapes Go.ChangeAt Go.RowKit
section
variable {H : Type} {enc : TypeId × Value → H} {P : Program}
theorem trodAll_below (hl : laidOutB P = true) {W W' : World} (hb : Below W.heap.size W W') {sp' : Nat → Bool} : ∀ (ts : List TypeId) {vs : List Value} {ds : List (DataW H)} {ps : List MemPlace},
    (∀ t ∈ ts, P.readableRec t = true ∧ t < P.types.size) → DataW.TrodAll enc P W 0 (fun _ => true) true ts vs ds ps → (∀ x ∈ ps, x.block < W.heap.size) → (∀ x ∈ ps, sp' x.block = true) →
    DataW.TrodAll enc P W' 0 sp' true ts vs ds ps
  | [], _, _, _, _, h, _, _ => by
    obtain ⟨rfl, rfl, rfl⟩ := trodAll_nil h
    exact trodAll_mk0
  | t :: ts, _, _, _, hr, h, hlt, hs => by
    obtain ⟨v, vs, d, ds, p, q, rfl, rfl, rfl, h1, h2⟩ := trodAll_cons h
    have ht := hr t (by simp)
    refine ⟨p, q, ?_, trodAll_below hl hb ts (fun x hx => hr x (by simp [hx])) h2 (fun x hx => hlt x (by simp [hx])) (fun x hx => hs x (by simp [hx])), rfl⟩
    exact WideElems.Trod_stays hl ht.1 ht.2 h1 (fun x hx => hb.same (hlt x (by simp [hx]))) (fun x hx => hs x (by simp [hx]))
theorem law_post {f : Func} {s : ChangeSpec} {apart fresh handsOn again : Bool} {W W' : World} {args : Array Value} {ds gs : List (DataW H)} {before : List MemPlace} {tb : TypeId}
    (hl : laidOutB P = true) (hvars : s.vars = []) (hts : ∀ t ∈ f.params.toList, P.readableRec t = true ∧ t < P.types.size) (hres : f.resultTypes = #[tb]) (htb : P.underlying tb = some .bool)
    (hW : DataW.Whole enc P f.params.toList s.vars apart W args.toList ds gs before)
    (hfn : s.fn H (ds ++ gs) = { results := [.lit (.bool true)], args := ds })
    (hb : Below W.heap.size W W') : s.post enc P f apart fresh handsOn again W args (.bool true) W' := by
  have hlt : ∀ p ∈ before, p.block < W.heap.size := fun p hp => hW.lt p hp
  have hW' := hW
  obtain ⟨p, q, hA, hV, rfl, hz, hn⟩ := hW
  rw [hvars] at hV
  obtain ⟨rfl, rfl⟩ := trodVars_none hV
  rw [List.append_nil] at *
  have hargs : ∀ sp' : Nat → Bool, (∀ x ∈ p, sp' x.block = true) → DataW.TrodAll enc P W' 0 sp' true f.params.toList args.toList ds p := fun sp' hs => trodAll_below hl hb _ hts hA hlt hs
  have hold : ∀ x ∈ p, (fun b => decide (b < W.heap.size)) x.block = true := fun x hx => by simpa using hlt x hx
  have hbool : ∀ (b : Nat) (sp : Nat → Bool) (hd : Bool), DataW.TrodAll enc P W' b sp hd f.resultTypes.toList ((Value.bool true).resultList f.resultTypes.size) [.lit (.bool true)] [] := fun b sp hd => by
    rw [hres]
    exact trodAll_mk1 (shut_bool htb true)
  refine ⟨ds, [], p, [], p, [], hW', ?_, ?_, ?_, World.keptBut_mono (fun x hx => ⟨hx, .inr (.inl hx)⟩) (hb.frame (· ∈ p)), fun _ => ?_⟩
  · rw [List.append_nil, hfn]; exact hbool _ _ _
  · rw [List.append_nil, hfn]; exact hargs _ hold
  · rw [List.append_nil, hfn, hvars]; rfl
  · refine ⟨?_, [.lit (.bool true)] ++ ds, [], ([] ++ p) ++ [], ⟨[] ++ p, [], ?_, by rw [hvars]; rfl, rfl, ?_, ?_⟩, ?_⟩
    · intro j t r hj hr
      rw [hres] at hj hr
      match j, hj, hr with
      | 0, hj, hr =>
        simp [Value.resultList] at hj hr
        subst hj; subst hr
        exact okWide_bool_mk htb true
    · exact trodAll_append (hargs (fun _ => true) (fun _ _ => rfl)) (hbool _ _ _)
    · intro b off hp
      have hin : MemPlace.cell b off ∈ p := by simpa using hp
      rw [hb.frozen (hlt _ hin)]
      exact hz b off hin
    · intro ha
      have := hn ha
      simpa using this
    · intro x hx _
      simpa using hx
end
theorem Tryz.own : ownKnob Tryz.prog.godebug = none := by kernel_rfl
theorem Tryz.laidOut : laidOutB Tryz.prog = true := by kernel_rfl
def laidTab : List (String × DataW Unit) := [("math/bits.deBruijn64tab", Rows.laid_math_bits_deBruijn64tab)]
theorem laidTab_eq : laidTab = [("math/bits.deBruijn64tab", Lib.tabData .u8 (Go.Lib.deBruijn64tab.map Int.ofNat))] := by kernel_rfl
theorem tab_of_laid {W : World} (h : laidMetH Tryz.prog laidTab W) : Tab64 W := by
  rw [MakeChecks.laidMetH_plain _ _ _ (by kernel_rfl), laidTab_eq] at h
  have hT := Lib.tabIs_of_head (g := 1) (t := 352) (e := 5) (n := 64) (by kernel_rfl) (by kernel_rfl) Tryz.underlying352 Tryz.underlying5 (by kernel_rfl) (by kernel_rfl) h
  intro j hj
  have := hT.cell (g := 1) (by kernel_rfl) j (by simpa using hj)
  rw [this]
  simp [List.getD_eq_getElem?_getD, hj]
end Go.Proofs.YtepdkbmnkjfcpaaGreatDoor
