/- Walks of no tree: Check, in, List: the walks. Checks and lists of no tree: avl, parts, bulk: the walks. Walks: At: the walk. A region that draws its order, walked in a told order: an operation that only reads what all others leave as it was is taken ahead of those that could come with it; of the others there must be one alone that may come. -/
import Derived.Test.YtoaabbnieakidaaGreatDoorRGau
import Derived.Test.YtoaabbnieakidaaGreatDoorRGaq
import Derived.Test.YtoaabbnieakidaaGreatDoorRGar
namespace Go.Proofs.YtoaabbnieakidaaGreatDoorR
open Go.RowKit Go.BigFrame Go.Maps Go.WideMaps Lf
open Go.Shelf
attribute [local go_sem] Oper.semAt_some

set_option maxRecDepth 100000 in
set_option maxHeartbeats 800000 in
theorem walk_check0 {w : World} {ps : Nat} {S : St} {Y : Nat → Prop} (h : StOn w ps S Y) (hi : Inv S) :
    Calls Tryz.prog 176 #[PV ps, .int .u64 0] w fun e w' => e = .returned (.int .i64 0) ∧ Below w.heap.size w w' := by
  have B0 := (Below.refl w.heap.size w).alloc (Nat.le_refl _) (.cells #[PV ps] 77)
  have B1 := B0.alloc B0.size (.cells #[.int .i64 0] 32)
  have hlen := st_len (h.below B1) hi 0 (by omega)
  rw [len_zero] at hlen
  have HG := Lib.hid (And.intro hlen B1)
  clear hlen h hi B0 B1
  go_enter Tryz.func176, Tryz.ntmps176
  go_wp2_with fail
  refine HG.out.1.mono ?_
  rintro e w1 ⟨rfl, rfl⟩
  go_wp2_with fail
  exact bodyPost_ret (v := .int .i64 0) (by simp [results, Tryz.f176, go_sem]) rfl ⟨rfl, HG.out.2⟩

set_option maxRecDepth 100000 in
set_option maxHeartbeats 400000 in
theorem walk_in0 (ps root : Nat) (w : World) :
    Calls Tryz.prog 227 #[PV ps, .int .u64 root] w fun e w' => e = .returned (.func (.func 253) #[] #[PV w.heap.size, PV (w.heap.size + 1)]) ∧ w' = (w.alloc (.cells #[PV ps] 77)).alloc (.cells #[.int .u64 root] 61) := by
  go_enter Tryz.func227, Tryz.ntmps227
  go_wp2
  go_ret
  exact ⟨rfl, rfl⟩

def encE (x : Empty) : Array Value := nomatch x
set_option maxRecDepth 100000 in
set_option maxHeartbeats 1600000 in
theorem in_empty {w : World} {ps : Nat} {S : St} {Y : Nat → Prop} (h : StOn w ps S Y) (Bs Br : Nat) (hBs : Bs < w.heap.size ∧ w.cell? ⟨Bs, 0, none⟩ = some (PV ps)) (hBr : Br < w.heap.size ∧ w.cell? ⟨Br, 0, none⟩ = some (.int .u64 0)) :
    SeqStopsK Fence.wide 6 Tryz.prog 253 #[PV Bs, PV Br] encE (Below w.heap.size) (fun xs => xs = []) (fun _ => True) 0 w := fun l J Jx W hW hJ hJx hY h0 => by
  have hfL : Fence.wide.fn 254 := trivial
  have hlim : CallsIn Fence.wide 5 Tryz.prog 254 #[PV ps] W _ := callsIn_wide.2 (walk_limit (h.below hW))
  have hL : 1 ≤ limit S ∧ limit S ≤ 40000 := by have := words_le h; unfold limit; omega
  generalize limit S = L at *
  have cs := (hW.cell (p := ⟨Bs, 0, none⟩) hBs.1).trans hBs.2
  have cr := (hW.cell (p := ⟨Br, 0, none⟩) hBr.1).trans hBr.2
  have HL := Lib.hid hlim
  have HJ := Lib.hid (And.intro hJ (And.intro h0 (And.intro hW (And.intro hBs hBr))))
  have hW0 := Lib.hid hW
  clear hlim hW hJ hJx hY h0 hBs hBr h
  refine callsIn_of_wp Tryz.func253 rfl trivial ?_ rfl
  simp only [Tryz.ntmps253, List.size_toArray, List.length_cons, List.length_nil, Nat.reduceAdd, Nat.reduceSub, Array.replicate_succ, Array.replicate_zero, List.push_toArray, List.append_toArray, List.nil_append, List.cons_append]
  gi_wp2_with fail
  refine HL.out.mono ?_
  rintro e w1 ⟨rfl, hb1⟩
  have j1 := HJ.out.1 _ _ _ none HJ.out.2.1 (grown_of_below hb1) (fun r e => by cases e)
  have cs := (hb1.cell (p := ⟨Bs, 0, none⟩) (Nat.lt_of_lt_of_le HJ.out.2.2.2.1.1 hW0.out.size)).trans cs
  have cr := (hb1.cell (p := ⟨Br, 0, none⟩) (Nat.lt_of_lt_of_le HJ.out.2.2.2.2.1 hW0.out.size)).trans cr
  have H1 := Lib.hid j1
  clear HL hb1 j1
  have hL0 : (0 : Int) < L := by omega
  gi_wp2_with fail
  gi_loopw [4, 6, 7, 8, 9, 10, 11] (fun l0 k _ _ _ _ _ wr => l0 = .slice none 0 0 ∧ k = .int .i64 0 ∧ wr = w1) (fun _ _ _ _ _ _ _ _ => 0)
  case atStart => exact ⟨rfl, rfl, rfl⟩
  case round =>
    obtain ⟨rfl, rfl, rfl⟩ := hrel
    gi_wp2_with fail
    gi_loopw [4, 6, 7, 8] (fun l0 k _ _ wr' => l0 = .slice none 0 0 ∧ k = .int .i64 0 ∧ wr' = wr) (fun _ _ _ _ _ => 0)
    case atStart => exact ⟨rfl, rfl, rfl⟩
    case round =>
      obtain ⟨rfl, rfl, rfl⟩ := hrel
      gi_wp2_with fail
      refine bodyPost_ret (results_none rfl _ _ _) rfl ?_
      exact ⟨⟨_, rfl⟩, .inl ⟨[], rfl, H1.out⟩⟩

set_option maxRecDepth 100000 in
set_option maxHeartbeats 1600000 in
theorem walk_list0_in {w : World} {ps : Nat} {S : St} {Y : Nat → Prop} (h : StOn w ps S Y) :
    CallsIn Fence.wide 7 Tryz.prog 177 #[PV ps, .int .u64 0] w fun e w' => e = .returned (.slice none 0 0) ∧ Below w.heap.size w w' := by
  have h1 : 1 ≤ 7 := by omega
  have hfI : Fence.wide.fn 227 := trivial
  have hin : ∀ W, CallsIn Fence.wide 6 Tryz.prog 227 #[PV ps, .int .u64 0] W _ := fun W => callsIn_wide.2 (walk_in0 ps 0 W)
  have HR := Lib.hid h
  clear h
  refine callsIn_of_wp_marks Tryz.func177 rfl trivial ?_ rfl
  simp only [Tryz.ntmps177, List.size_toArray, List.length_cons, List.length_nil, Nat.reduceAdd, Nat.reduceSub, Array.replicate_succ, Array.replicate_zero, List.push_toArray, List.append_toArray, List.nil_append, List.cons_append]
  gi_wp2_with fail
  refine (hin _).mono ?_
  rintro e w4 ⟨rfl, rfl⟩
  gi_wp2_with fail
  have k0 := ((Bx.new w (.slice none 0 0) 253).alloc (.cells #[PV ps] 77)).alloc (.cells #[.int .u64 0] 61)
  have k1 := (Bx.new (w.alloc (.cells #[.slice none 0 0] 253)) (PV ps) 77).alloc (.cells #[.int .u64 0] 61)
  have k2 := Bx.new ((w.alloc (.cells #[.slice none 0 0] 253)).alloc (.cells #[PV ps] 77)) (.int .u64 0) 61
  have hb := (((Below.refl w.heap.size w).alloc (Nat.le_refl _) (.cells #[.slice none 0 0] 253)).alloc (by simp) (.cells #[PV ps] 77)).alloc (by simp; omega) (.cells #[.int .u64 0] 61)
  simp only [World.size_alloc] at k0 k1 k2
  generalize (((w.alloc (.cells #[.slice none 0 0] 253)).alloc (.cells #[PV ps] 77)).alloc (.cells #[.int .u64 0] 61)) = W0 at *
  refine wpIn_rangeFunc_ownH rfl h1 (gf := 253) (lb := #[PV (w.heap.size + 1), PV (w.heap.size + 1 + 1)]) rfl trivial (enters_of Tryz.func253 (by kernel_rfl) rfl)
    (in_empty (HR.out.below hb) _ _ ⟨Cx.lt (show Cx W0 _ 0 _ from k1), k1.1⟩ ⟨Cx.lt (show Cx W0 _ 0 _ from k2), k2.1⟩) (fun h k => h.trans k) (fun W l o o' h1 h2 h3 h4 => below_put W l o o' (by omega) h2 h3 h4) (Below.refl _ _) (fun x => nomatch x)
    (fun _ W => Bx W w.heap.size (.slice none 0 0) ∧ Below w.heap.size w W)
    (fun _ _ _ => False)
    (OwnFrom.and (Own.from (fun s A B row hs hg hr => hs.kept hg hr) _) (ownFrom_below (Nat.le_refl _) hb.size))
    (fun cd => Own.from (fun s A B row hs hg hr => hs) _)
    ⟨k0, hb⟩
    (fun x _ _ => nomatch x)
    (fun x => nomatch x)
    ?assign ?body ?done ?stop
  case assign => exact fun l pre x => nomatch x
  case body => exact fun l pre x => nomatch x
  case done =>
    rintro D ys W hD _ ⟨k0, hB⟩ hK
    obtain ⟨c1, f1⟩ := id k0
    have hwD : w.heap.size ≤ D := Nat.le_trans hb.size hD
    have HI := Lib.hid (And.intro hB k0)
    clear hB k0 k1 k2 hb
    gi_wp2
    refine ⟨by simp, .inl ⟨_, _, rfl, run_takeDeferred hK, ?_⟩⟩
    refine ⟨.slice none 0 0, by simp [results, Tryz.f177, go_sem], rfl, HI.out.1.trans (below_put W D _ _ hwD hK rfl rfl)⟩
  case stop =>
    rintro D cd pre W hD hpre hF
    exact hF.elim
theorem walk_list0 {w : World} {ps : Nat} {S : St} {Y : Nat → Prop} (h : StOn w ps S Y) :
    Calls Tryz.prog 177 #[PV ps, .int .u64 0] w fun e w' => e = .returned (.slice none 0 0) ∧ Below w.heap.size w w' := callsIn_wide.1 (walk_list0_in h)
end Go.Proofs.YtoaabbnieakidaaGreatDoorR

namespace Go.Proofs.YtoaabbnieakidaaGreatDoorR
open Go.RowKit Go.BigFrame Go.Maps Go.WideMaps Lf

set_option maxRecDepth 100000 in
set_option maxHeartbeats 800000 in
theorem avl_check0 {w : World} {ps : Nat} {S : St} {Y : Nat → Prop} (h : StOn w ps S Y) (hi : Inv S) :
    Calls Tryz.prog 283 #[PV ps, .int .u64 0] w fun e w' => e = .returned (.int .i64 0) ∧ Below w.heap.size w w' := by
  have hc := walk_check0 h hi
  have hl := fun W (hW : Below w.heap.size w W) => walk_list0 (h.below hW)
  have HG := Lib.hid (And.intro hc hl)
  clear hc hl h hi
  go_enter Tryz.func283, Tryz.ntmps283
  go_wp2_with fail
  refine HG.out.1.mono ?_
  rintro e w1 ⟨rfl, hb1⟩
  have H1 := Lib.hid hb1
  clear hb1
  go_wp2_with fail
  refine (HG.out.2 _ H1.out).mono ?_
  rintro e w2 ⟨rfl, hb2⟩
  have H2 := Lib.hid (H1.out.trans (hb2.mono H1.out.size))
  clear hb2
  go_wp2_with fail
  go_loopw [7, 8, 9, 10, 21] (fun _ _ _ _ k wr => k = .int .i64 0 ∧ wr = w2) (fun _ _ _ _ _ _ => 0)
  case atStart => exact ⟨rfl, rfl⟩
  case round =>
    obtain ⟨rfl, rfl⟩ := hrel
    go_wp2_with fail
    go_ret
    exact ⟨rfl, H2.out⟩

/-- what a kind's Check says of no tree -/
structure ChecksAs (c : FuncId) : Prop where
  enter : ∀ (args : Array Value) (w : World), (callFunc c args).run Tryz.prog w = .ok (.enter c args) w
  call : ∀ {w : World} {ps : Nat} {S : St} {Y : Nat → Prop}, StOn w ps S Y → Inv S → Calls Tryz.prog c #[PV ps, .int .u64 0] w fun e w' => e = .returned (.int .i64 0) ∧ Below w.heap.size w w'
theorem checks_avl : ChecksAs 283 where
  enter args w := by go_simp
  call h hi := avl_check0 h hi

set_option maxRecDepth 100000 in
set_option maxHeartbeats 800000 in
theorem parts_check0 {w : World} {ps : Nat} {S : St} {Y : Nat → Prop} (h : StOn w ps S Y) (hi : Inv S) {kind : Nat} {j c : FuncId} (hk : WayOk kind j c) (hc : ChecksAs c) :
    Calls Tryz.prog 209 #[PV ps, .int .i64 kind, .int .u64 0] w fun e w' => e = .returned (.int .i64 0) ∧ Below w.heap.size w w' := by
  have ha := asked_nil h hi hk
  have hen := hc.enter
  have hcc := fun W (hW : Below w.heap.size w W) => hc.call (h.below hW) hi
  simp only [cutV, fnV] at ha
  have HG := Lib.hid (And.intro ha hcc)
  clear ha hcc h hi hk hc
  go_enter Tryz.func209, Tryz.ntmps209
  go_wp2_with fail
  refine HG.out.1.mono ?_
  rintro e w1 ⟨rfl, hb1⟩
  have H1 := Lib.hid (hb1.alloc hb1.size (.cells #[PV ps, .func (.func j) #[] #[], .func (.func c) #[] #[]] 343))
  clear hb1
  go_wp2_with fail
  refine (HG.out.2 _ H1.out).mono ?_
  rintro e w2 ⟨rfl, hb2⟩
  have H2 := Lib.hid (H1.out.trans (hb2.mono H1.out.size))
  clear hb2
  go_wp2_with fail
  go_ret
  exact ⟨rfl, H2.out⟩

set_option maxRecDepth 100000 in
set_option maxHeartbeats 800000 in
theorem bulk_asked {w : World} {ps : Nat} {S : St} {Y : Nat → Prop} (h : StOn w ps S Y) (hi : Inv S) {kind : Nat} (hk : kind = 1 ∨ kind = 2) (t : Int) :
    Calls Tryz.prog 126 #[PV ps, .int .i64 kind, .int .i64 t] w fun e w' => e = .returned (.int .i64 0) ∧ w = w' := by
  have hlen := st_len h hi 0 (by omega)
  rw [len_zero] at hlen
  have HG := Lib.hid hlen
  clear hlen h hi
  rcases hk with rfl | rfl
  all_goals
    go_enter Tryz.func126, Tryz.ntmps126
    go_wp2_with fail
    refine HG.out.mono ?_
    rintro e w1 ⟨rfl, rfl⟩
    go_wp2_with fail
    go_ret
    exact ⟨rfl, rfl⟩

/-- all that a kind of binary trees is told by -/
structure KindOk (kind : Nat) (j c : FuncId) (jn : Jn) : Prop where
  is : kind = 1 ∨ kind = 2
  way : WayOk kind j c
  joins : JoinsAs j jn
  checks : ChecksAs c
theorem kind_avl : KindOk 1 282 283 avlOkM := ⟨Or.inl rfl, way_avl, joins_avl, checks_avl⟩

set_option maxRecDepth 100000 in
set_option maxHeartbeats 800000 in
theorem bulk_check0 {w : World} {ps : Nat} {S : St} {Y : Nat → Prop} (h : StOn w ps S Y) (hi : Inv S) {kind : Nat} {j c : FuncId} {jn : Jn} (hk : KindOk kind j c jn) (t : Int) :
    Calls Tryz.prog 157 #[PV ps, .int .i64 kind, .int .i64 t, .int .u64 0] w fun e w' => e = .returned (.int .i64 0) ∧ Below w.heap.size w w' := by
  have ha := bulk_asked h hi hk.is t
  have hc := parts_check0 h hi hk.way hk.checks
  have hq : ((kind : Int) == 3) = false := by have := hk.is; simp; omega
  have HG := Lib.hid (And.intro ha hc)
  clear ha hc h hi hk
  go_enter Tryz.func157, Tryz.ntmps157
  go_wp2_with fail
  refine HG.out.1.mono ?_
  rintro e w1 ⟨rfl, rfl⟩
  go_wp2_with fail
  refine HG.out.2.mono ?_
  rintro e w2 ⟨rfl, hb2⟩
  have H2 := Lib.hid hb2
  clear hb2
  go_wp2_with fail
  go_ret
  exact ⟨rfl, H2.out⟩

set_option maxRecDepth 100000 in
set_option maxHeartbeats 800000 in
theorem bulk_list0 {w : World} {ps : Nat} {S : St} {Y : Nat → Prop} (h : StOn w ps S Y) (hi : Inv S) {kind : Nat} {j c : FuncId} {jn : Jn} (hk : KindOk kind j c jn) (t : Int) :
    Calls Tryz.prog 167 #[PV ps, .int .i64 kind, .int .i64 t, .int .u64 0] w fun e w' => e = .returned (.tuple #[.slice none 0 0, .int .i64 0]) ∧ Below w.heap.size w w' := by
  have hc := bulk_check0 h hi hk t
  have hl := fun W (hW : Below w.heap.size w W) => walk_list0 (h.below hW)
  have hq : ((kind : Int) == 3) = false := by have := hk.is; simp; omega
  have HG := Lib.hid (And.intro hc hl)
  clear hc hl h hi hk
  go_enter Tryz.func167, Tryz.ntmps167
  go_wp2_with fail
  refine HG.out.1.mono ?_
  rintro e w1 ⟨rfl, hb1⟩
  have H1 := Lib.hid hb1
  clear hb1
  go_wp2_with fail
  refine (HG.out.2 _ H1.out).mono ?_
  rintro e w2 ⟨rfl, hb2⟩
  have H2 := Lib.hid (H1.out.trans (hb2.mono H1.out.size))
  clear hb2
  go_wp2_with fail
  go_loopw [11, 13, 14, 15, 41] (fun l0 _ _ _ k wr => l0 = .slice none 0 0 ∧ k = .int .i64 0 ∧ wr = w2) (fun _ _ _ _ _ _ => 0)
  case atStart => exact ⟨rfl, rfl, rfl⟩
  case round =>
    obtain ⟨rfl, rfl, rfl⟩ := hrel
    go_wp2_with fail
    go_loopw [16, 18, 19, 20, 21, 22, 62] (fun l1 _ _ _ _ _ k wr' => l1 = .slice none 0 0 ∧ k = .int .i64 0 ∧ wr' = wr) (fun _ _ _ _ _ _ _ _ => 0)
    case atStart => exact ⟨rfl, rfl, rfl⟩
    case round =>
      obtain ⟨rfl, rfl, rfl⟩ := hrel
      go_wp2_with fail
      go_ret2
      exact ⟨rfl, H2.out⟩
end Go.Proofs.YtoaabbnieakidaaGreatDoorR

namespace Go.Proofs.YtoaabbnieakidaaGreatDoorR
open Go.RowKit Go.BigFrame Go.Maps Go.WideMaps Lf

set_option maxRecDepth 100000 in
set_option maxHeartbeats 400000 in
theorem walk_at_neg {w : World} {ps : Nat} {S : St} {Y : Nat → Prop} (h : StOn w ps S Y) (hi : Inv S) (root : Nat) (k : Int) (hk : k < 0) :
    Calls Tryz.prog 362 #[PV ps, .int .u64 root, .int .i64 k] w fun e w' => e = .returned (.tuple #[.int .u64 0, .int .i64 2]) ∧ w = w' := by
  have hle := st_len h hi 0 (by omega)
  rw [len_zero] at hle
  have HG := Lib.hid hle
  clear hle h hi
  go_enter Tryz.func362, Tryz.ntmps362
  go_wp2_with fail
  refine HG.out.mono ?_
  rintro e w1 ⟨rfl, rfl⟩
  go_wp2_with fail
  go_ret2
  exact ⟨rfl, rfl⟩

set_option maxRecDepth 100000 in
set_option maxHeartbeats 3200000 in
theorem walk_at {w : World} {ps : Nat} {S : St} {Y : Nat → Prop} (h : StOn w ps S Y) (hi : Inv S) (root : Nat) (hl : root < 18446744073709551616) (k : Nat) (hk : k < 4611686018427387904) {R : Nat × Nat} (hR : walkAtM S root k = some R) :
    Calls Tryz.prog 362 #[PV ps, .int .u64 root, .int .i64 k] w fun e w' => e = .returned (.tuple #[.int .u64 R.1, .int .i64 R.2]) ∧ Below w.heap.size w w' := by
  have hlen := st_len h hi 0 (by omega)
  rw [len_zero] at hlen
  unfold walkAtM at hR
  cases hz : sizeM S root with
  | none => rw [hz] at hR; cases hR
  | some z =>
  rw [hz] at hR
  simp only at hR
  have hzl : z < 4611686018427387904 := by have := num_some hz; omega
  have hsz := walk_size h hi root hl hz
  by_cases hzk : z ≤ k
  · rw [if_pos hzk] at hR
    have hR := Option.some.inj hR
    have hzk' : (z : Int) ≤ k := by omega
    have HG := Lib.hid (And.intro hlen (And.intro hsz hR))
    clear hlen hsz hR h hi hz hzk
    go_enter Tryz.func362, Tryz.ntmps362
    go_wp2_with fail
    refine HG.out.1.mono ?_
    rintro e w1 ⟨rfl, rfl⟩
    go_wp2_with fail
    refine HG.out.2.1.mono ?_
    rintro e w1 ⟨rfl, hb⟩
    have HB := Lib.hid hb
    clear hb
    go_wp2_with fail
    go_ret2
    obtain rfl := HG.out.2.2
    exact ⟨rfl, HB.out⟩
  rw [if_neg hzk] at hR
  have hzk' : (k : Int) < z := by omega
  have hle := words_le h
  have hL : limit S ≤ 40000 := by unfold limit; omega
  obtain ⟨L, hLe⟩ : ∃ L, limit S = L := ⟨_, rfl⟩
  have hlm := fun W (hW : Below w.heap.size w W) => walk_limit (h.below hW)
  rw [hLe] at hlm hL hR
  have hnlt := fun hh => getNode_lt h hh
  have HG := Lib.hid (And.intro hlen (And.intro h (And.intro hi (And.intro hR (And.intro hnlt (And.intro hsz hlm))))))
  clear hlen h hi hR hle hLe hnlt hlm hsz hz hzk
  go_enter Tryz.func362, Tryz.ntmps362
  go_wp2_with fail
  refine HG.out.1.mono ?_
  rintro e w1 ⟨rfl, rfl⟩
  go_wp2_with fail
  refine HG.out.2.2.2.2.2.1.mono ?_
  rintro e w0 ⟨rfl, hb0⟩
  have HB0 := Lib.hid hb0
  clear hb0
  go_wp2_with fail
  refine (HG.out.2.2.2.2.2.2 _ HB0.out).mono ?_
  rintro e w1 ⟨rfl, hb1⟩
  have HB1 := Lib.hid (HB0.out.trans (hb1.mono HB0.out.size))
  clear hb1
  go_wp2_with fail
  go_loopw [1, 2, 11, 12, 13, 14] (fun r b i _ _ _ wr => ∃ f root kk ii : Nat, r = .int .u64 root ∧ b = .int .i64 kk ∧ i = .int .i64 ii ∧ f + ii = L ∧ root < 18446744073709551616 ∧ kk < 4611686018427387904 ∧ Hid (atM S f root kk = some R ∧ Below w.heap.size w wr)) (fun _ _ i _ _ _ _ => L - (intOf i).toNat)
  case atStart => exact ⟨L, root, k, 0, rfl, rfl, rfl, by omega, hl, hk, HG.out.2.2.2.1, HB1.out⟩
  case round =>
    obtain ⟨f, root, kk, ii, rfl, rfl, rfl, hf, hrl, hkl, hin⟩ := hrel
    have hi9 : ii ≤ 40000 := by omega
    cases f with
    | zero =>
      have hii : ii = L := by omega
      have hRe : R = (0, 2) := by have h9 := hin.out.1; rw [atM_zero] at h9; exact (Option.some.inj h9).symm
      have HE := Lib.hid (And.intro hRe hin.out.2)
      have hge : (L : Int) ≤ ii := by omega
      clear hRe hin
      go_wp2_with fail
      go_ret2
      obtain rfl := HE.out.1
      exact ⟨rfl, HE.out.2⟩
    | succ f =>
      have hlt : (ii : Int) < L := by omega
      have hd := hin.out.1
      rw [atM_succ] at hd
      have hSr := HG.out.2.1.below hin.out.2
      have hg := node_get hSr HG.out.2.2.1 root hrl
      have hng := HG.out.2.2.2.2.1 root
      obtain ⟨⟨nd, er⟩, hE⟩ : ∃ r, getNode S root = r := ⟨_, rfl⟩
      rw [hE] at hg hng hd
      simp only at hg hng hd
      obtain ⟨k0, k1, k2, k3, k4, k5⟩ := nd
      obtain ⟨n0, n1, n2, n3, n4, n5⟩ := hng
      simp only at n0 n1 n2 n3 n4 n5
      have hnd : ndV ⟨k0, k1, k2, k3, k4, k5⟩ = .agg #[.int .u64 k0, .int .u64 k1, .int .u64 k2, .int .u64 k3, .int .u64 k4, .int .u64 k5] := rfl
      rw [hnd] at hg
      cases er with
      | succ er =>
        rw [if_pos (by omega)] at hd
        have hd := Option.some.inj hd
        have hq1 : (((er + 1 : Nat) : Int) != 0) = true := by simp; omega
        obtain ⟨g1, hg1⟩ : ∃ g1, er + 1 = g1 := ⟨_, rfl⟩
        rw [hg1] at hg hq1
        have HE := Lib.hid (And.intro hg (And.intro hd hin.out.2))
        clear hg hd hin hSr hE hg1 hnd
        go_wp2_with fail
        refine HE.out.1.mono ?_
        rintro e w2 ⟨rfl, hb2⟩
        have HB2 := Lib.hid ((HE.out.2.2.trans (hb2.mono HE.out.2.2.size)).alloc (Nat.le_trans HE.out.2.2.size hb2.size) (.cells #[.int .u64 k0, .int .u64 k1, .int .u64 k2, .int .u64 k3, .int .u64 k4, .int .u64 k5] 274))
        clear hb2
        go_wp2_with fail
        go_ret2
        obtain rfl := HE.out.2.1
        exact ⟨rfl, HB2.out⟩
      | zero =>
        rw [if_neg (by omega)] at hd
        cases hz : sizeM S k2 with
        | none => rw [hz] at hd; cases hd
        | some z =>
          rw [hz] at hd
          simp only at hd
          have hzl : z < 4611686018427387904 := by have := num_some hz; omega
          have HE := Lib.hid (And.intro hg (And.intro hin.out.2 hz))
          clear hg hin hSr hE hz
          go_wp2_with fail
          refine HE.out.1.mono ?_
          rintro e w2 ⟨rfl, hb2⟩
          have hB2 := (HE.out.2.1.trans (hb2.mono HE.out.2.1.size)).alloc (Nat.le_trans HE.out.2.1.size hb2.size) (.cells #[.int .u64 k0, .int .u64 k1, .int .u64 k2, .int .u64 k3, .int .u64 k4, .int .u64 k5] 274)
          have hsz := walk_size (HG.out.2.1.below hB2) HG.out.2.2.1 k2 n2 HE.out.2.2
          have hx := heap_alloc_new w2 (.cells #[.int .u64 k0, .int .u64 k1, .int .u64 k2, .int .u64 k3, .int .u64 k4, .int .u64 k5] 274)
          have hlt2 : w2.heap.size < (w2.alloc (.cells #[.int .u64 k0, .int .u64 k1, .int .u64 k2, .int .u64 k3, .int .u64 k4, .int .u64 k5] 274)).heap.size := by simp
          have HK := Lib.hid (And.intro hsz (And.intro hB2 (And.intro hx hlt2)))
          clear hb2 hB2 hsz hx hlt2 hnd
          go_wp2_with fail
          refine HK.out.1.mono ?_
          rintro e w3 ⟨rfl, hb3⟩
          have hB3 := HK.out.2.1.trans (hb3.mono HK.out.2.1.size)
          have hx3 := (hb3.block _ HK.out.2.2.2).trans HK.out.2.2.1
          have a2 : w3.cell? ⟨w2.heap.size, 2, none⟩ = some (.int .u64 k2) := by rw [cell_of_block hx3]; rfl
          have a3 : w3.cell? ⟨w2.heap.size, 3, none⟩ = some (.int .u64 k3) := by rw [cell_of_block hx3]; rfl
          have HB3 := Lib.hid hB3
          clear hb3 hB3 hx3
          by_cases hc : kk < z
          · rw [if_pos hc] at hd
            have hc' : (kk : Int) < z := by omega
            have HD := Lib.hid hd
            clear hd
            go_wp2_with fail
            go_roundw
            case rel => exact ⟨f, k2, kk, ii + 1, rfl, rfl, by simp, by omega, n2, hkl, HD.out, HB3.out⟩
            case measure => simp [intOf]; omega
          · rw [if_neg hc] at hd
            by_cases hc2 : z < kk
            · rw [if_pos hc2] at hd
              have hc' : (z : Int) < kk := by omega
              have HD := Lib.hid hd
              clear hd
              go_wp2_with fail
              go_roundw
              case rel => exact ⟨f, k3, kk - (z + 1), ii + 1, rfl, by rw [show ((kk - (z + 1) : Nat) : Int) = (kk : Int) - ((z : Int) + 1) by omega], by simp, by omega, n3, by omega, HD.out, HB3.out⟩
              case measure => simp [intOf]; omega
            · rw [if_neg hc2] at hd
              obtain rfl : kk = z := by omega
              have hd := Option.some.inj hd
              have HD := Lib.hid hd
              clear hd
              go_wp2_with fail
              go_ret2
              obtain rfl := HD.out
              exact ⟨rfl, HB3.out⟩
end Go.Proofs.YtoaabbnieakidaaGreatDoorR

namespace Go.Proofs.YtoaabbnieakidaaGreatDoorR.Qv
open Go Go.RowKit
section
variable {P : Program} {l : List Oper} {md : Region.Mode} {S : World → Prop} {Q : Exit → Act → World → Prop}

def wpMix (P : Program) (l : List Oper) (Q : Exit → Act → World → Prop) (S : World → Prop) : List (Bool × Nat) → Act → World → Prop
  | [], a, w => Q .normal a w
  | (true, i) :: is, a, w => ∃ o, l[i]? = some o ∧ ∃ v, YieldsIf P l.toArray S o v a ∧ wpMix P l Q S is (a.put o.dst v) w
  | (false, i) :: is, a, w => ∃ o, l[i]? = some o ∧ Region.wanted o (yielded l.toArray a.tmps) = true ∧ o.wp P a w (fun a' w' => S w' ∧ wpMix P l Q S is a' w') Q
def mixB (md : Region.Mode) (ops : Array Oper) : List (Bool × Nat) → Array Bool → Bool
  | [], listed => (Region.ready md ops listed).isEmpty
  | (true, i) :: is, listed => (Region.ready md ops listed).contains i && Region.free md ops listed i && mixB md ops is (listed.setIfInBounds i true)
  | (false, i) :: is, listed => decide (Region.ready md ops listed = [i]) && mixB md ops is (listed.setIfInBounds i true)

theorem wpAnyH_mix (hsel : Region.noSelect l.toArray = true) (hQ : ∀ d v c a w, Q (.panic c) (Act.put a d v) w → Q (.panic c) a w) :
    ∀ (is : List (Bool × Nat)) (listed : Array Bool) (a : Act) (w : World), mixB md l.toArray is listed = true → S w → wpMix P l Q S is a w → wpAnyH P md l.toArray Q S is.length listed a w
  | [], _, _, _, hB, _, h => ⟨by simpa [mixB] using hB, h⟩
  | (true, i) :: is, listed, a, w, hB, hS, h => by
    simp only [mixB, Bool.and_eq_true] at hB
    obtain ⟨⟨hr, hf⟩, hB'⟩ := hB
    obtain ⟨o, h0, v, hy, hK⟩ := h
    have h0' : l.toArray[i]? = some o := by simpa using h0
    exact wpAnyH_take h0' hsel hf hr (fun c a w => hQ _ _ c a w) hy hS (wpAnyH_mix hsel hQ is _ _ _ hB' hS hK)
  | (false, j) :: is, listed, a, w, hB, hS, h => by
    simp only [mixB, Bool.and_eq_true, decide_eq_true_eq] at hB
    refine ⟨fun h1 => (by rw [hB.1] at h1; cases h1), fun i hi => ?_⟩
    rw [hB.1] at hi
    have hik : i = j := by simpa using hi
    subst hik
    have hrec := fun a' w' (hs : S w') (hq : wpMix P l Q S is a' w') => wpAnyH_mix hsel hQ is (listed.setIfInBounds i true) a' w' hB.2 hs hq
    obtain ⟨o, h0, hw, hh⟩ := h
    have h0' : l.toArray[i]? = some o := by simpa using h0
    unfold wpOp
    simp only [h0', hw, if_true]
    exact .inl (Oper.wp_mono (fun a' w' h' => ⟨h'.1, hrec a' w' h'.1 h'.2⟩) hh)

def lexMixB (md : Region.Mode) (ops : Array Oper) (is : List (Bool × Nat)) : Bool :=
  Region.noSelect ops && decide (is.length = ops.size) && mixB md ops is (Array.replicate ops.size false)
end
end Qv
open Qv

theorem wp_region_mix {P : Program} {id : Nat} {Q : Exit → Act → World → Prop} {a : Act} {w : World} {l : List Oper} (I : World → Prop) (is : List (Bool × Nat)) (hm : P.follows .mixedOrders = true) (hB : lexMixB .any l.toArray is = true)
    (hI : I w.drew) (h : wpMix P l (NoPanic Q) (InK I) is a w.drew) : (Code.region id l.toArray true).wp P Q a w := by
  simp only [lexMixB, Bool.and_eq_true, decide_eq_true_eq] at hB
  obtain ⟨⟨hsel, hn⟩, hlex⟩ := hB
  have hS : InK I w.drew := ⟨⟨_, hI⟩, rfl⟩
  refine wp_region_noPanic (wp_region_held_drew (S := InK I) hm hS (fun _ => ?_))
  have := wpAnyH_mix (md := .any) (Q := NoPanic Q) hsel (fun _ _ _ _ _ h => (h : False).elim) is _ a w.drew hlex hS h
  rw [hn] at this
  exact this
theorem mix_take {P : Program} {l : List Oper} {I : World → Prop} {Q : Exit → Act → World → Prop} {i : Nat} {is : List (Bool × Nat)} {a : Act} {w : World} (o : Oper) (ho : l[i]? = some o) (v : Value) (hw : Region.wanted o (yielded l.toArray a.tmps) = true) (hr : ∀ w, InK I w → (execOp a.eval o).run P w = .ok (.value v) w)
    (h : wpMix P l Q (InK I) is (a.put o.dst v) w) : wpMix P l Q (InK I) ((true, i) :: is) a w := ⟨o, ho, v, Or.inl ⟨hw, hr⟩, h⟩
theorem mix_skip {P : Program} {l : List Oper} {I : World → Prop} {Q : Exit → Act → World → Prop} {i : Nat} {is : List (Bool × Nat)} {a : Act} {w : World} (o : Oper) (ho : l[i]? = some o) (hw : Region.wanted o (yielded l.toArray a.tmps) = false)
    (h : wpMix P l Q (InK I) is (a.put o.dst undef) w) : wpMix P l Q (InK I) ((true, i) :: is) a w := ⟨o, ho, undef, Or.inr ⟨hw, rfl⟩, h⟩
theorem mix_do {P : Program} {l : List Oper} {Q : Exit → Act → World → Prop} {I : World → Prop} {i : Nat} {is : List (Bool × Nat)} {a : Act} {w : World} (o : Oper) (ho : l[i]? = some o) (hw : Region.wanted o (yielded l.toArray a.tmps) = true)
    (h : ∀ K' : Act → World → Prop, Shut (∀ a w, I w → wpMix P l Q (InK I) is a w → K' a w) → Oper.wp P o a w K' Q) : wpMix P l Q (InK I) ((false, i) :: is) a w :=
  ⟨o, ho, hw, h _ (fun _ _ hI hs => ⟨⟨⟨_, hI⟩, rfl⟩, hs⟩)⟩
theorem mix_nil {P : Program} {l : List Oper} {Q : Exit → Act → World → Prop} {S : World → Prop} {a : Act} {w : World} (h : Q .normal a w) : wpMix P l (NoPanic Q) S [] a w := h
end Go.Proofs.YtoaabbnieakidaaGreatDoorR
