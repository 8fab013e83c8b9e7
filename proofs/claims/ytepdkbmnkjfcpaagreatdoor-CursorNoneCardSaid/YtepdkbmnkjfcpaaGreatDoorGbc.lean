/- Trees taken apart and put together: Insert: the walk. Walks of no tree: Check, in, List: the walks. Checks and lists of no tree: avl, parts, bulk: the walks. -/
import Derived.Test.YtepdkbmnkjfcpaaGreatDoorGbb
import Derived.OwnWalk
namespace Go.Proofs.YtepdkbmnkjfcpaaGreatDoor
open Go.RowKit Go.BigFrame Go.Maps Go.WideMaps Lf

/-- Insert where it is not refused -/
def Lf.insertOkM (jn : Jn) (S : St) (root m : Nat) : Option ((Nat × Nat) × St) :=
  if isT S root = false ∨ isT S m = false ∨ m = 0 ∨ (getBlob S (getNode S m).1.key).2 ≠ 0 then none
  else match splitM jn (getBlob S (getNode S m).1.key).1 200 S root with
    | none => none
    | some ((l, old, r), S1) => (cjoinM jn S1 l m r).map fun x => ((x.1, old), x.2)

set_option maxRecDepth 100000 in
set_option maxHeartbeats 3200000 in
theorem parts_insert {w : World} {ps : Nat} {S S' : St} {Y : Nat → Prop} (h : StOn w ps S Y) (hi : Inv S) {kind : Nat} {j c : FuncId} {jn : Jn} (hjn : JoinsAs j jn) (hk : WayOk kind j c) (root m : Nat) (hl : root < 18446744073709551616) (hm : m < 18446744073709551616) {R : Nat × Nat} (hR : insertOkM jn S root m = some (R, S')) :
    (Calls Tryz.prog 330 #[PV ps, .int .i64 kind, .int .u64 root, .int .u64 m] w fun e w' => e = .returned (.tuple #[.int .u64 R.1, .int .u64 R.2, .int .i64 0]) ∧ StOn w' ps S' Y ∧ Keep Y w w') ∧ Inv S' ∧ R.1 < 18446744073709551616 ∧ R.2 < 18446744073709551616 := by
  unfold insertOkM at hR
  split at hR
  · cases hR
  rename_i hc
  simp only [not_or, Bool.not_eq_false, Decidable.not_not] at hc
  obtain ⟨t1, t2, m0, hg0⟩ := hc
  split at hR
  · cases hR
  rename_i l old r S1 hs
  obtain ⟨⟨x, S2⟩, hj1, he⟩ := Option.map_eq_some_iff.1 hR
  injection he with e1 e2
  simp only at e1 e2 hj1
  subst e1 e2
  have hlt := getNode_lt h m
  obtain ⟨-, hi1, hl1, hold, hr1⟩ := cut_split (c := c) hjn _ 200 0 rfl h hi hl hs
  have hsp := fun W Z (hW : StOn W ps S Z) => (cut_split (c := c) hjn _ 200 0 rfl hW hi hl hs).1
  have hjs := cjoinM_some hjn hj1
  have hjo := fun W Z (hW : StOn W ps S1 Z) => cut_join (c := c) hW hi1 hjn l m r hl1 hm hr1 hj1
  refine ⟨?_, hjn.inv hi1 hjs, by rcases hjn.mem hi1 hjs with e | e | e <;> simp only at e <;> first | (rw [e]; exact hm) | (rw [e]; exact hl1) | (rw [e]; exact hr1), hold⟩
  have hg := fun W (hW : Below w.heap.size w W) => node_get (h.below hW) hi m hm
  have hb := fun W (hW : Below w.heap.size w W) => blob_get (h.below hW) hi (getNode S m).1.key hlt.key (by rw [hg0]; decide)
  have hw := fun W (hW : Below w.heap.size w W) rb t fr hrb => asked_two (t := t) (fr := fr) (h.below hW) hi hk root m hl hm t1 t2 rb hrb
  rw [hg0] at hb
  generalize (getBlob S (getNode S m).1.key).1 = key at *
  obtain ⟨⟨⟨k0, k1, k2, k3, k4, k5⟩, er⟩, hE⟩ : ∃ q, getNode S m = q := ⟨_, rfl⟩
  rw [hE] at hg hb
  simp only [cutV, fnV, ndV] at hg hb hw hsp hjo ⊢
  have hmq : ((m : Int) == 0) = false := by simp; omega
  have HG := Lib.hid (And.intro hg (And.intro hb (And.intro hw (And.intro hsp (And.intro hjo h)))))
  clear hg hb hw hsp hjo h hi hE hjn hk hR t1 t2 m0 hg0 hs hj1 hlt hi1 hl1 hold hr1 hjs
  go_enter Tryz.func330, Tryz.ntmps330
  go_wp2_with fail
  refine (HG.out.2.2.1 _ ((Below.refl _ w).alloc (Nat.le_refl _) _) _ _ _ (heap_alloc_new w _)).mono ?_
  rintro e w1 ⟨rfl, hb1⟩
  have B1 := ((Below.refl w.heap.size w).alloc (Nat.le_refl _) (.cells #[.int .u64 root, .int .u64 m] 43)).trans (hb1.mono (by simp))
  have q1 := heap_alloc_new w1 (.cells #[PV ps, .func (.func j) #[] #[], .func (.func c) #[] #[]] 229)
  have B1' := B1.alloc B1.size (.cells #[PV ps, .func (.func j) #[] #[], .func (.func c) #[] #[]] 229)
  have z1 := B1.size
  clear hb1 B1
  go_wp2_with fail
  generalize w1.alloc (.cells #[PV ps, .func (.func j) #[] #[], .func (.func c) #[] #[]] 229) = W1 at *
  generalize w1.heap.size = b11 at *
  refine (HG.out.1 _ B1').mono ?_
  rintro e w2 ⟨rfl, hb2⟩
  have hal := hb2.alloc hb2.size (.cells #[.int .u64 k0, .int .u64 k1, .int .u64 k2, .int .u64 k3, .int .u64 k4, .int .u64 k5] 183)
  have q2 := heap_alloc_new w2 (.cells #[.int .u64 k0, .int .u64 k1, .int .u64 k2, .int .u64 k3, .int .u64 k4, .int .u64 k5] 183)
  have r2 := (hal.block b11 (Array.getElem?_eq_some_iff.1 q1).1).trans q1
  have B2 := B1'.trans (hal.mono B1'.size)
  have d0 : ((w2.alloc (.cells #[.int .u64 k0, .int .u64 k1, .int .u64 k2, .int .u64 k3, .int .u64 k4, .int .u64 k5] 183))).cell? ⟨w2.heap.size, 0, none⟩ = some (.int .u64 k0) := by rw [cell_of_block q2]; rfl
  have d1 : ((w2.alloc (.cells #[.int .u64 k0, .int .u64 k1, .int .u64 k2, .int .u64 k3, .int .u64 k4, .int .u64 k5] 183))).cell? ⟨w2.heap.size, 1, none⟩ = some (.int .u64 k1) := by rw [cell_of_block q2]; rfl
  have d2 : ((w2.alloc (.cells #[.int .u64 k0, .int .u64 k1, .int .u64 k2, .int .u64 k3, .int .u64 k4, .int .u64 k5] 183))).cell? ⟨w2.heap.size, 2, none⟩ = some (.int .u64 k2) := by rw [cell_of_block q2]; rfl
  have d3 : ((w2.alloc (.cells #[.int .u64 k0, .int .u64 k1, .int .u64 k2, .int .u64 k3, .int .u64 k4, .int .u64 k5] 183))).cell? ⟨w2.heap.size, 3, none⟩ = some (.int .u64 k3) := by rw [cell_of_block q2]; rfl
  have d4 : ((w2.alloc (.cells #[.int .u64 k0, .int .u64 k1, .int .u64 k2, .int .u64 k3, .int .u64 k4, .int .u64 k5] 183))).cell? ⟨w2.heap.size, 4, none⟩ = some (.int .u64 k4) := by rw [cell_of_block q2]; rfl
  have d5 : ((w2.alloc (.cells #[.int .u64 k0, .int .u64 k1, .int .u64 k2, .int .u64 k3, .int .u64 k4, .int .u64 k5] 183))).cell? ⟨w2.heap.size, 5, none⟩ = some (.int .u64 k5) := by rw [cell_of_block q2]; rfl
  have H2 := Lib.hid (And.intro B2 (And.intro r2 z1))
  clear hb2 hal q2 r2 B2 B1' q1 z1
  go_wp2_with fail
  refine (HG.out.2.1 _ H2.out.1).mono ?_
  rintro e w3 ⟨rfl, hb3⟩
  have r3 := (hb3.block b11 (Array.getElem?_eq_some_iff.1 H2.out.2.1).1).trans H2.out.2.1
  have e0 : (w3).cell? ⟨b11, 0, none⟩ = some (PV ps) := by rw [cell_of_block r3]; rfl
  have e1 : (w3).cell? ⟨b11, 1, none⟩ = some (.func (.func j) #[] #[]) := by rw [cell_of_block r3]; rfl
  have e2 : (w3).cell? ⟨b11, 2, none⟩ = some (.func (.func c) #[] #[]) := by rw [cell_of_block r3]; rfl
  have l11 := (Array.getElem?_eq_some_iff.1 r3).1
  have H3 := Lib.hid (And.intro (H2.out.1.trans (hb3.mono H2.out.1.size)) r3)
  clear hb3 r3 d0 d1 d2 d3 d4 d5
  go_wp2_with fail
  refine (HG.out.2.2.2.1 _ _ (HG.out.2.2.2.2.2.wide H3.out.1)).mono ?_
  rintro e w4 ⟨rfl, h4, k4'⟩
  have r4 := (k4'.block b11 (Or.inr ⟨H2.out.2.2, l11⟩)).trans H3.out.2
  have f0 : (w4).cell? ⟨b11, 0, none⟩ = some (PV ps) := by rw [cell_of_block r4]; rfl
  have f1 : (w4).cell? ⟨b11, 1, none⟩ = some (.func (.func j) #[] #[]) := by rw [cell_of_block r4]; rfl
  have f2 : (w4).cell? ⟨b11, 2, none⟩ = some (.func (.func c) #[] #[]) := by rw [cell_of_block r4]; rfl
  have H4 := Lib.hid (And.intro h4 k4')
  clear h4 k4' r4 e0 e1 e2
  go_wp2_with fail
  refine (HG.out.2.2.2.2.1 _ _ H4.out.1).mono ?_
  rintro e w5 ⟨rfl, h5, k5'⟩
  have H5 := Lib.hid (And.intro (h5.mono (Z := Y) fun k hk => Or.inl hk) ((Keep.of_below H3.out.1 HG.out.2.2.2.2.2.yl).trans ((H4.out.2.trans k5').mono fun k hk => Or.inl hk)))
  clear h5 k5' f0 f1 f2
  go_wp2_with fail
  go_ret3
  exact ⟨rfl, H5.out⟩
end Go.Proofs.YtepdkbmnkjfcpaaGreatDoor

namespace Go.Proofs.YtepdkbmnkjfcpaaGreatDoor
open Go.RowKit Go.BigFrame Go.Maps Go.WideMaps Lf
open Go.Shelf
attribute [local go_sem] Oper.semAt_some

set_option maxRecDepth 100000 in
set_option maxHeartbeats 800000 in
theorem walk_check0 {w : World} {ps : Nat} {S : St} {Y : Nat → Prop} (h : StOn w ps S Y) (hi : Inv S) :
    Calls Tryz.prog 151 #[PV ps, .int .u64 0] w fun e w' => e = .returned (.int .i64 0) ∧ Below w.heap.size w w' := by
  have B0 := (Below.refl w.heap.size w).alloc (Nat.le_refl _) (.cells #[PV ps] 25)
  have B1 := B0.alloc B0.size (.cells #[.int .i64 0] 26)
  have hlen := st_len (h.below B1) hi 0 (by omega)
  rw [len_zero] at hlen
  have HG := Lib.hid (And.intro hlen B1)
  clear hlen h hi B0 B1
  go_enter Tryz.func151, Tryz.ntmps151
  go_wp2_with fail
  refine HG.out.1.mono ?_
  rintro e w1 ⟨rfl, rfl⟩
  go_wp2_with fail
  exact bodyPost_ret (v := .int .i64 0) (by simp [results, Tryz.f151, go_sem]) rfl ⟨rfl, HG.out.2⟩

set_option maxRecDepth 100000 in
set_option maxHeartbeats 400000 in
theorem walk_in0 (ps root : Nat) (w : World) :
    Calls Tryz.prog 162 #[PV ps, .int .u64 root] w fun e w' => e = .returned (.func (.func 212) #[] #[PV w.heap.size, PV (w.heap.size + 1)]) ∧ w' = (w.alloc (.cells #[PV ps] 25)).alloc (.cells #[.int .u64 root] 43) := by
  go_enter Tryz.func162, Tryz.ntmps162
  go_wp2
  go_ret
  exact ⟨rfl, rfl⟩

def encE (x : Empty) : Array Value := nomatch x
set_option maxRecDepth 100000 in
set_option maxHeartbeats 1600000 in
theorem in_empty {w : World} {ps : Nat} {S : St} {Y : Nat → Prop} (h : StOn w ps S Y) (Bs Br : Nat) (hBs : Bs < w.heap.size ∧ w.cell? ⟨Bs, 0, none⟩ = some (PV ps)) (hBr : Br < w.heap.size ∧ w.cell? ⟨Br, 0, none⟩ = some (.int .u64 0)) :
    SeqStopsK Fence.wide 6 Tryz.prog 212 #[PV Bs, PV Br] encE (Below w.heap.size) (fun xs => xs = []) (fun _ => True) 0 w := fun l J Jx W hW hJ hJx hY h0 => by
  have hfL : Fence.wide.fn 213 := trivial
  have hlim : CallsIn Fence.wide 5 Tryz.prog 213 #[PV ps] W _ := callsIn_wide.2 (walk_limit (h.below hW))
  have hL : 1 ≤ limit S ∧ limit S ≤ 40000 := by have := words_le h; unfold limit; omega
  generalize limit S = L at *
  have cs := (hW.cell (p := ⟨Bs, 0, none⟩) hBs.1).trans hBs.2
  have cr := (hW.cell (p := ⟨Br, 0, none⟩) hBr.1).trans hBr.2
  have HL := Lib.hid hlim
  have HJ := Lib.hid (And.intro hJ (And.intro h0 (And.intro hW (And.intro hBs hBr))))
  have hW0 := Lib.hid hW
  clear hlim hW hJ hJx hY h0 hBs hBr h
  refine callsIn_of_wp Tryz.func212 rfl trivial ?_ rfl
  simp only [Tryz.ntmps212, List.size_toArray, List.length_cons, List.length_nil, Nat.reduceAdd, Nat.reduceSub, Array.replicate_succ, Array.replicate_zero, List.push_toArray, List.append_toArray, List.nil_append, List.cons_append]
  gi_wp2_with fail
  refine HL.out.mono ?_
  rintro e w1 ⟨rfl, hb1⟩
  have j1 := HJ.out.1 _ _ _ none HJ.out.2.1 (grown_of_below hb1) (fun r e => by cases e)
  have cs := (hb1.cell (p := ⟨Bs, 0, none⟩) (Nat.lt_of_lt_of_le HJ.out.2.2.2.1.1 hW0.out.size)).trans cs
  have cr := (hb1.cell (p := ⟨Br, 0, none⟩) (Nat.lt_of_lt_of_le HJ.out.2.2.2.2.1 hW0.out.size)).trans cr
  have H1 := Lib.hid j1
  clear HL hb1 j1
  have hL0 : (0 : Int) < L := by omega
  gi_wp2_with fail
  gi_loopw [4, 6, 7, 8, 9, 10, 11] (fun l0 k _ _ _ _ _ wr => l0 = .slice none 0 0 ∧ k = .int .i64 0 ∧ wr = w1) (fun _ _ _ _ _ _ _ _ => 0)
  case atStart => exact ⟨rfl, rfl, rfl⟩
  case round =>
    obtain ⟨rfl, rfl, rfl⟩ := hrel
    gi_wp2_with fail
    gi_loopw [4, 6, 7, 8] (fun l0 k _ _ wr' => l0 = .slice none 0 0 ∧ k = .int .i64 0 ∧ wr' = wr) (fun _ _ _ _ _ => 0)
    case atStart => exact ⟨rfl, rfl, rfl⟩
    case round =>
      obtain ⟨rfl, rfl, rfl⟩ := hrel
      gi_wp2_with fail
      refine bodyPost_ret (results_none rfl _ _ _) rfl ?_
      exact ⟨⟨_, rfl⟩, .inl ⟨[], rfl, H1.out⟩⟩

set_option maxRecDepth 100000 in
set_option maxHeartbeats 1600000 in
theorem walk_list0_in {w : World} {ps : Nat} {S : St} {Y : Nat → Prop} (h : StOn w ps S Y) :
    CallsIn Fence.wide 7 Tryz.prog 115 #[PV ps, .int .u64 0] w fun e w' => e = .returned (.slice none 0 0) ∧ Below w.heap.size w w' := by
  have h1 : 1 ≤ 7 := by omega
  have hfI : Fence.wide.fn 162 := trivial
  have hin : ∀ W, CallsIn Fence.wide 6 Tryz.prog 162 #[PV ps, .int .u64 0] W _ := fun W => callsIn_wide.2 (walk_in0 ps 0 W)
  have HR := Lib.hid h
  clear h
  refine callsIn_of_wp_marks Tryz.func115 rfl trivial ?_ rfl
  simp only [Tryz.ntmps115, List.size_toArray, List.length_cons, List.length_nil, Nat.reduceAdd, Nat.reduceSub, Array.replicate_succ, Array.replicate_zero, List.push_toArray, List.append_toArray, List.nil_append, List.cons_append]
  gi_wp2_with fail
  refine (hin _).mono ?_
  rintro e w4 ⟨rfl, rfl⟩
  gi_wp2_with fail
  have k0 := ((Bx.new w (.slice none 0 0) 170).alloc (.cells #[PV ps] 25)).alloc (.cells #[.int .u64 0] 43)
  have k1 := (Bx.new (w.alloc (.cells #[.slice none 0 0] 170)) (PV ps) 25).alloc (.cells #[.int .u64 0] 43)
  have k2 := Bx.new ((w.alloc (.cells #[.slice none 0 0] 170)).alloc (.cells #[PV ps] 25)) (.int .u64 0) 43
  have hb := (((Below.refl w.heap.size w).alloc (Nat.le_refl _) (.cells #[.slice none 0 0] 170)).alloc (by simp) (.cells #[PV ps] 25)).alloc (by simp; omega) (.cells #[.int .u64 0] 43)
  simp only [World.size_alloc] at k0 k1 k2
  generalize (((w.alloc (.cells #[.slice none 0 0] 170)).alloc (.cells #[PV ps] 25)).alloc (.cells #[.int .u64 0] 43)) = W0 at *
  refine wpIn_rangeFunc_ownH rfl h1 (gf := 212) (lb := #[PV (w.heap.size + 1), PV (w.heap.size + 1 + 1)]) rfl trivial (enters_of Tryz.func212 (by kernel_rfl) rfl)
    (in_empty (HR.out.below hb) _ _ ⟨Cx.lt (show Cx W0 _ 0 _ from k1), k1.1⟩ ⟨Cx.lt (show Cx W0 _ 0 _ from k2), k2.1⟩) (fun h k => h.trans k) (fun W l o o' h1 h2 h3 h4 => below_put W l o o' (by omega) h2 h3 h4) (Below.refl _ _) (fun x => nomatch x)
    (fun _ W => Bx W w.heap.size (.slice none 0 0) ∧ Below w.heap.size w W)
    (fun _ _ _ => False)
    (OwnFrom.and (Own.from (fun s A B row hs hg hr => hs.kept hg hr) _) (ownFrom_below (Nat.le_refl _) hb.size))
    (fun cd => Own.from (fun s A B row hs hg hr => hs) _)
    ⟨k0, hb⟩
    (fun x _ _ => nomatch x)
    (fun x => nomatch x)
    ?assign ?body ?done ?stop
  case assign => exact fun l pre x => nomatch x
  case body => exact fun l pre x => nomatch x
  case done =>
    rintro D ys W hD _ ⟨k0, hB⟩ hK
    obtain ⟨c1, f1⟩ := id k0
    have hwD : w.heap.size ≤ D := Nat.le_trans hb.size hD
    have HI := Lib.hid (And.intro hB k0)
    clear hB k0 k1 k2 hb
    gi_wp2
    refine ⟨by simp, .inl ⟨_, _, rfl, run_takeDeferred hK, ?_⟩⟩
    refine ⟨.slice none 0 0, by simp [results, Tryz.f115, go_sem], rfl, HI.out.1.trans (below_put W D _ _ hwD hK rfl rfl)⟩
  case stop =>
    rintro D cd pre W hD hpre hF
    exact hF.elim
theorem walk_list0 {w : World} {ps : Nat} {S : St} {Y : Nat → Prop} (h : StOn w ps S Y) :
    Calls Tryz.prog 115 #[PV ps, .int .u64 0] w fun e w' => e = .returned (.slice none 0 0) ∧ Below w.heap.size w w' := callsIn_wide.1 (walk_list0_in h)
end Go.Proofs.YtepdkbmnkjfcpaaGreatDoor

namespace Go.Proofs.YtepdkbmnkjfcpaaGreatDoor
open Go.RowKit Go.BigFrame Go.Maps Go.WideMaps Lf

set_option maxRecDepth 100000 in
set_option maxHeartbeats 800000 in
theorem avl_check0 {w : World} {ps : Nat} {S : St} {Y : Nat → Prop} (h : StOn w ps S Y) (hi : Inv S) :
    Calls Tryz.prog 243 #[PV ps, .int .u64 0] w fun e w' => e = .returned (.int .i64 0) ∧ Below w.heap.size w w' := by
  have hc := walk_check0 h hi
  have hl := fun W (hW : Below w.heap.size w W) => walk_list0 (h.below hW)
  have HG := Lib.hid (And.intro hc hl)
  clear hc hl h hi
  go_enter Tryz.func243, Tryz.ntmps243
  go_wp2_with fail
  refine HG.out.1.mono ?_
  rintro e w1 ⟨rfl, hb1⟩
  have H1 := Lib.hid hb1
  clear hb1
  go_wp2_with fail
  refine (HG.out.2 _ H1.out).mono ?_
  rintro e w2 ⟨rfl, hb2⟩
  have H2 := Lib.hid (H1.out.trans (hb2.mono H1.out.size))
  clear hb2
  go_wp2_with fail
  go_loopw [7, 8, 9, 10, 21] (fun _ _ _ _ k wr => k = .int .i64 0 ∧ wr = w2) (fun _ _ _ _ _ _ => 0)
  case atStart => exact ⟨rfl, rfl⟩
  case round =>
    obtain ⟨rfl, rfl⟩ := hrel
    go_wp2_with fail
    go_ret
    exact ⟨rfl, H2.out⟩

/-- what a kind's Check says of no tree -/
structure ChecksAs (c : FuncId) : Prop where
  enter : ∀ (args : Array Value) (w : World), (callFunc c args).run Tryz.prog w = .ok (.enter c args) w
  call : ∀ {w : World} {ps : Nat} {S : St} {Y : Nat → Prop}, StOn w ps S Y → Inv S → Calls Tryz.prog c #[PV ps, .int .u64 0] w fun e w' => e = .returned (.int .i64 0) ∧ Below w.heap.size w w'
theorem checks_avl : ChecksAs 243 where
  enter args w := by go_simp
  call h hi := avl_check0 h hi

set_option maxRecDepth 100000 in
set_option maxHeartbeats 800000 in
theorem parts_check0 {w : World} {ps : Nat} {S : St} {Y : Nat → Prop} (h : StOn w ps S Y) (hi : Inv S) {kind : Nat} {j c : FuncId} (hk : WayOk kind j c) (hc : ChecksAs c) :
    Calls Tryz.prog 113 #[PV ps, .int .i64 kind, .int .u64 0] w fun e w' => e = .returned (.int .i64 0) ∧ Below w.heap.size w w' := by
  have ha := asked_nil h hi hk
  have hen := hc.enter
  have hcc := fun W (hW : Below w.heap.size w W) => hc.call (h.below hW) hi
  simp only [cutV, fnV] at ha
  have HG := Lib.hid (And.intro ha hcc)
  clear ha hcc h hi hk hc
  go_enter Tryz.func113, Tryz.ntmps113
  go_wp2_with fail
  refine HG.out.1.mono ?_
  rintro e w1 ⟨rfl, hb1⟩
  have H1 := Lib.hid (hb1.alloc hb1.size (.cells #[PV ps, .func (.func j) #[] #[], .func (.func c) #[] #[]] 229))
  clear hb1
  go_wp2_with fail
  refine (HG.out.2 _ H1.out).mono ?_
  rintro e w2 ⟨rfl, hb2⟩
  have H2 := Lib.hid (H1.out.trans (hb2.mono H1.out.size))
  clear hb2
  go_wp2_with fail
  go_ret
  exact ⟨rfl, H2.out⟩

set_option maxRecDepth 100000 in
set_option maxHeartbeats 800000 in
theorem bulk_asked {w : World} {ps : Nat} {S : St} {Y : Nat → Prop} (h : StOn w ps S Y) (hi : Inv S) {kind : Nat} (hk : kind = 1 ∨ kind = 2) (t : Int) :
    Calls Tryz.prog 106 #[PV ps, .int .i64 kind, .int .i64 t] w fun e w' => e = .returned (.int .i64 0) ∧ w = w' := by
  have hlen := st_len h hi 0 (by omega)
  rw [len_zero] at hlen
  have HG := Lib.hid hlen
  clear hlen h hi
  rcases hk with rfl | rfl
  all_goals
    go_enter Tryz.func106, Tryz.ntmps106
    go_wp2_with fail
    refine HG.out.mono ?_
    rintro e w1 ⟨rfl, rfl⟩
    go_wp2_with fail
    go_ret
    exact ⟨rfl, rfl⟩

/-- all that a kind of binary trees is told by -/
structure KindOk (kind : Nat) (j c : FuncId) (jn : Jn) : Prop where
  is : kind = 1 ∨ kind = 2
  way : WayOk kind j c
  joins : JoinsAs j jn
  checks : ChecksAs c
theorem kind_avl : KindOk 1 148 243 avlOkM := ⟨Or.inl rfl, way_avl, joins_avl, checks_avl⟩

set_option maxRecDepth 100000 in
set_option maxHeartbeats 800000 in
theorem bulk_check0 {w : World} {ps : Nat} {S : St} {Y : Nat → Prop} (h : StOn w ps S Y) (hi : Inv S) {kind : Nat} {j c : FuncId} {jn : Jn} (hk : KindOk kind j c jn) (t : Int) :
    Calls Tryz.prog 76 #[PV ps, .int .i64 kind, .int .i64 t, .int .u64 0] w fun e w' => e = .returned (.int .i64 0) ∧ Below w.heap.size w w' := by
  have ha := bulk_asked h hi hk.is t
  have hc := parts_check0 h hi hk.way hk.checks
  have hq : ((kind : Int) == 3) = false := by have := hk.is; simp; omega
  have HG := Lib.hid (And.intro ha hc)
  clear ha hc h hi hk
  go_enter Tryz.func76, Tryz.ntmps76
  go_wp2_with fail
  refine HG.out.1.mono ?_
  rintro e w1 ⟨rfl, rfl⟩
  go_wp2_with fail
  refine HG.out.2.mono ?_
  rintro e w2 ⟨rfl, hb2⟩
  have H2 := Lib.hid hb2
  clear hb2
  go_wp2_with fail
  go_ret
  exact ⟨rfl, H2.out⟩

set_option maxRecDepth 100000 in
set_option maxHeartbeats 800000 in
theorem bulk_list0 {w : World} {ps : Nat} {S : St} {Y : Nat → Prop} (h : StOn w ps S Y) (hi : Inv S) {kind : Nat} {j c : FuncId} {jn : Jn} (hk : KindOk kind j c jn) (t : Int) :
    Calls Tryz.prog 77 #[PV ps, .int .i64 kind, .int .i64 t, .int .u64 0] w fun e w' => e = .returned (.tuple #[.slice none 0 0, .int .i64 0]) ∧ Below w.heap.size w w' := by
  have hc := bulk_check0 h hi hk t
  have hl := fun W (hW : Below w.heap.size w W) => walk_list0 (h.below hW)
  have hq : ((kind : Int) == 3) = false := by have := hk.is; simp; omega
  have HG := Lib.hid (And.intro hc hl)
  clear hc hl h hi hk
  go_enter Tryz.func77, Tryz.ntmps77
  go_wp2_with fail
  refine HG.out.1.mono ?_
  rintro e w1 ⟨rfl, hb1⟩
  have H1 := Lib.hid hb1
  clear hb1
  go_wp2_with fail
  refine (HG.out.2 _ H1.out).mono ?_
  rintro e w2 ⟨rfl, hb2⟩
  have H2 := Lib.hid (H1.out.trans (hb2.mono H1.out.size))
  clear hb2
  go_wp2_with fail
  go_loopw [11, 13, 14, 15, 41] (fun l0 _ _ _ k wr => l0 = .slice none 0 0 ∧ k = .int .i64 0 ∧ wr = w2) (fun _ _ _ _ _ _ => 0)
  case atStart => exact ⟨rfl, rfl, rfl⟩
  case round =>
    obtain ⟨rfl, rfl, rfl⟩ := hrel
    go_wp2_with fail
    go_loopw [16, 18, 19, 20, 21, 22, 62] (fun l1 _ _ _ _ _ k wr' => l1 = .slice none 0 0 ∧ k = .int .i64 0 ∧ wr' = wr) (fun _ _ _ _ _ _ _ _ => 0)
    case atStart => exact ⟨rfl, rfl, rfl⟩
    case round =>
      obtain ⟨rfl, rfl, rfl⟩ := hrel
      go_wp2_with fail
      go_ret2
      exact ⟨rfl, H2.out⟩
end Go.Proofs.YtepdkbmnkjfcpaaGreatDoor
