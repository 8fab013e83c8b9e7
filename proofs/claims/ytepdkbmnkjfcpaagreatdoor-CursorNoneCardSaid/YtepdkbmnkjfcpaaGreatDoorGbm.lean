/- Trees balanced by two colours: Join of trees of one black height; Check of no node: the walks. The stores that a red-black map of two keys goes through, computed: plain Lean, no program in sight. -/
import Derived.Test.YtepdkbmnkjfcpaaGreatDoorGbl
import Derived.Test.YtepdkbmnkjfcpaaGreatDoorGbk
namespace Go.Proofs.YtepdkbmnkjfcpaaGreatDoor
open Go.RowKit Go.BigFrame Go.Maps Go.WideMaps Lf

/-- Join where it is not refused, and the black heights are the same -/
def Lf.redOkM (S : St) (l m r : Nat) : Option ((Nat × Nat) × St) :=
  if m = 0 ∨ isT S l = false ∨ isT S m = false ∨ isT S r = false ∨ blackT S l ≠ blackT S r then none
  else (putRM S m l r (!redT S l && !redT S r)).map fun S' => ((m, 0), S')
theorem redOkM_some {S S' : St} {l m r : Nat} {R : Nat × Nat} (h : redOkM S l m r = some (R, S')) :
    m ≠ 0 ∧ isT S l = true ∧ isT S m = true ∧ isT S r = true ∧ blackT S l = blackT S r ∧ putRM S m l r (!redT S l && !redT S r) = some S' ∧ R = (m, 0) := by
  unfold redOkM at h
  split at h
  · cases h
  · rename_i hc
    obtain ⟨S1, h1, h2⟩ := Option.map_eq_some_iff.1 h
    injection h2 with e1 e2
    subst e1 e2
    simp only [not_or, Bool.not_eq_false, Decidable.not_not] at hc
    exact ⟨hc.1, hc.2.1, hc.2.2.1, hc.2.2.2.1, hc.2.2.2.2, h1, rfl⟩

set_option maxRecDepth 100000 in
set_option maxHeartbeats 1600000 in
theorem rb_Join {w : World} {ps : Nat} {S S' : St} {Y : Nat → Prop} (h : StOn w ps S Y) (hi : Inv S) (l m r : Nat) (hl : l < 18446744073709551616) (hm : m < 18446744073709551616) (hr : r < 18446744073709551616) {R : Nat × Nat} (hR : redOkM S l m r = some (R, S')) :
    Calls Tryz.prog 149 #[PV ps, .int .u64 l, .int .u64 m, .int .u64 r] w fun e w' => e = .returned (.tuple #[.int .u64 R.1, .int .i64 R.2]) ∧ StOn w' ps S' Y ∧ Keep Y w w' := by
  obtain ⟨h0, h1, h2, h3, h4, h5, rfl⟩ := redOkM_some hR
  have hlen := st_len h hi 0 (by omega)
  rw [len_zero] at hlen
  have h1' := rb_is h hi l hl
  have h2' := fun W (hW : Below w.heap.size w W) => rb_is (h.below hW) hi m hm
  have h3' := fun W (hW : Below w.heap.size w W) => rb_is (h.below hW) hi r hr
  have hb1 := fun W (hW : Below w.heap.size w W) => rb_black (h.below hW) hi l hl
  have hb2 := fun W (hW : Below w.heap.size w W) => rb_black (h.below hW) hi r hr
  have hd1 := fun W (hW : Below w.heap.size w W) => rb_red (h.below hW) hi l hl
  have hd2 := fun W (hW : Below w.heap.size w W) => rb_red (h.below hW) hi r hr
  have hp := fun W (hW : Below w.heap.size w W) c (hc : (!redT S l && !redT S r) = c) => rb_put (S' := S') (h.below hW) hi m l r c hm hl hr (hc ▸ h5)
  rw [h1] at h1'
  rw [h2] at h2'
  rw [h3] at h3'
  rw [← h4] at hb2
  generalize blackT S l = bk at *
  have hq : ((m : Int) == 0) = false := by simp; omega
  have HG := Lib.hid (And.intro hlen (And.intro h1' (And.intro h2' (And.intro h3' (And.intro hb1 (And.intro hb2 (And.intro hd1 (And.intro hd2 (And.intro hp h)))))))))
  clear hlen h1' h2' h3' hb1 hb2 hd1 hd2 hp h hi h0 h1 h2 h3 h4 h5 hR
  generalize redT S l = c1 at *
  generalize redT S r = c2 at *
  go_enter Tryz.func149, Tryz.ntmps149
  go_wp2_with fail
  refine HG.out.1.mono ?_
  rintro e w1 ⟨rfl, rfl⟩
  go_wp2_with fail
  refine HG.out.2.1.mono ?_
  rintro e w1 ⟨rfl, hb1⟩
  have H1 := Lib.hid hb1
  clear hb1
  go_wp2_with fail
  refine (HG.out.2.2.1 _ H1.out).mono ?_
  rintro e w2 ⟨rfl, hb2⟩
  have H2 := Lib.hid (H1.out.trans (hb2.mono H1.out.size))
  clear hb2
  go_wp2_with fail
  refine (HG.out.2.2.2.1 _ H2.out).mono ?_
  rintro e w3 ⟨rfl, hb3⟩
  have H3 := Lib.hid (H2.out.trans (hb3.mono H2.out.size))
  clear hb3
  go_wp2_with fail
  refine (HG.out.2.2.2.2.1 _ H3.out).mono ?_
  rintro e w4 ⟨rfl, hb4⟩
  have H4 := Lib.hid (H3.out.trans (hb4.mono H3.out.size))
  clear hb4
  go_wp2_with fail
  refine (HG.out.2.2.2.2.2.1 _ H4.out).mono ?_
  rintro e w5 ⟨rfl, hb5⟩
  have H5 := Lib.hid (H4.out.trans (hb5.mono H4.out.size))
  clear hb5
  go_wp2_with fail
  refine (HG.out.2.2.2.2.2.2.1 _ H5.out).mono ?_
  rintro e w6 ⟨rfl, hb6⟩
  have H6 := Lib.hid (H5.out.trans (hb6.mono H5.out.size))
  clear hb6
  cases c1 with
  | true =>
    go_wp2_with fail
    refine (HG.out.2.2.2.2.2.2.2.2.1 _ H6.out false (by simp)).mono ?_
    rintro e w7 ⟨rfl, h7, k7⟩
    have H7 := Lib.hid (And.intro h7 ((HG.out.2.2.2.2.2.2.2.2.2.keep H6.out).trans k7))
    clear h7 k7
    go_wp2_with fail
    go_ret2
    exact ⟨rfl, H7.out⟩
  | false =>
    go_wp2_with fail
    refine (HG.out.2.2.2.2.2.2.2.1 _ H6.out).mono ?_
    rintro e w6' ⟨rfl, hb6⟩
    have H6' := Lib.hid (H6.out.trans (hb6.mono H6.out.size))
    clear hb6
    cases c2 with
    | true =>
      go_wp2_with fail
      refine (HG.out.2.2.2.2.2.2.2.2.1 _ H6'.out false (by simp)).mono ?_
      rintro e w7 ⟨rfl, h7, k7⟩
      have H7 := Lib.hid (And.intro h7 ((HG.out.2.2.2.2.2.2.2.2.2.keep H6'.out).trans k7))
      clear h7 k7
      go_wp2_with fail
      go_ret2
      exact ⟨rfl, H7.out⟩
    | false =>
      go_wp2_with fail
      refine (HG.out.2.2.2.2.2.2.2.2.1 _ H6'.out true (by simp)).mono ?_
      rintro e w7 ⟨rfl, h7, k7⟩
      have H7 := Lib.hid (And.intro h7 ((HG.out.2.2.2.2.2.2.2.2.2.keep H6'.out).trans k7))
      clear h7 k7
      go_wp2_with fail
      go_ret2
      exact ⟨rfl, H7.out⟩

theorem joins_red : JoinsAs 149 redOkM where
  enter args w := by go_simp
  inv hi h := by
    obtain ⟨x, y, -, -, -, rfl⟩ := putRM_some (redOkM_some h).2.2.2.2.2.1
    exact putNode_inv hi _ _
  mem hi h := by
    rw [(redOkM_some h).2.2.2.2.2.2]
    exact Or.inl rfl
  ok h := by rw [(redOkM_some h).2.2.2.2.2.2]
  call h hi hl hm hr hR := rb_Join h hi _ _ _ hl hm hr hR

set_option maxRecDepth 100000 in
set_option maxHeartbeats 800000 in
theorem rb_check0 {w : World} {ps : Nat} {S : St} {Y : Nat → Prop} (h : StOn w ps S Y) (hi : Inv S) :
    Calls Tryz.prog 244 #[PV ps, .int .u64 0] w fun e w' => e = .returned (.int .i64 0) ∧ Below w.heap.size w w' := by
  have hc := walk_check0 h hi
  have hl := fun W (hW : Below w.heap.size w W) => walk_list0 (h.below hW)
  have HG := Lib.hid (And.intro hc hl)
  clear hc hl h hi
  go_enter Tryz.func244, Tryz.ntmps244
  go_wp2_with fail
  refine HG.out.1.mono ?_
  rintro e w1 ⟨rfl, hb1⟩
  have H1 := Lib.hid hb1
  clear hb1
  go_wp2_with fail
  refine (HG.out.2 _ H1.out).mono ?_
  rintro e w2 ⟨rfl, hb2⟩
  have H2 := Lib.hid (H1.out.trans (hb2.mono H1.out.size))
  clear hb2
  go_wp2_with fail
  go_loopw [7, 8, 9, 10, 21] (fun _ _ _ _ k wr => k = .int .i64 0 ∧ wr = w2) (fun _ _ _ _ _ _ => 0)
  case atStart => exact ⟨rfl, rfl⟩
  case round =>
    obtain ⟨rfl, rfl⟩ := hrel
    go_wp2_with fail
    go_ret
    exact ⟨rfl, H2.out⟩
theorem checks_red : ChecksAs 244 where
  enter args w := by go_simp
  call h hi := rb_check0 h hi

set_option maxRecDepth 100000 in
set_option maxHeartbeats 400000 in
theorem way_red : WayOk 2 149 244 := by
  intro W
  simp only [fnV]
  go_enter Tryz.func210, Tryz.ntmps210
  go_wp2_with fail
  exact bodyPost_ret (v := .tuple #[.agg #[.func (.func 149) #[] #[], .func (.func 244) #[] #[]], .bool true]) (by simp [results, Tryz.f210, go_sem]) rfl ⟨rfl, (Below.refl _ _).alloc (Nat.le_refl _) _⟩
theorem kind_red : KindOk 2 149 244 redOkM := ⟨Or.inr rfl, way_red, joins_red, checks_red⟩
end Go.Proofs.YtepdkbmnkjfcpaaGreatDoor

namespace Go.Proofs.YtepdkbmnkjfcpaaGreatDoor
open Lf

def two0 : St := ⟨⟨262144, []⟩, ⟨1000, 4294967295, []⟩⟩
def two1 : St := ⟨⟨262144, [(0, pg [513, 3, 4294967297, 2, 1, 6989586621679009792, 4294967298, 2, 1, 8646911284551352320]), (1, pg [1025, 1, 4294967299, 6, 4294967297, 4294967298, 0, 0, 1, 1])]⟩, ⟨1000, 4294967295, [⟨1, 1, 2⟩, ⟨1, 1, 6⟩, ⟨1, 1, 66⟩]⟩⟩
def two2 : St := ⟨⟨262144, [(0, pg [513, 15, 4294967297, 2, 1, 6989586621679009792, 4294967298, 2, 1, 8646911284551352320, 4294967300, 2, 1, 7133701809754865664, 4294967301, 2, 1, 8718968878589280256]), (1, pg [1025, 3, 4294967299, 6, 4294967297, 4294967298, 0, 0, 1, 1, 0, 4294967302, 6, 4294967300, 4294967301, 4294967299, 0, 2, 2])]⟩, ⟨1000, 4294967295, [⟨1, 1, 2⟩, ⟨1, 1, 6⟩, ⟨1, 1, 66⟩, ⟨1, 1, 10⟩, ⟨1, 1, 14⟩, ⟨1, 1, 75⟩]⟩⟩
theorem two_inv0 : Inv two0 := invB_ok (by decide +kernel)
theorem two_ok1 : PutOk two0 [97] [120] := putB_ok (by decide +kernel)
theorem two_run1 : treePutM redOkM two0 0 [97] [120] = some (4294967299, two1) := runB_ok (by decide +kernel)
theorem two_ok2 : PutOk two1 [99] [121] := putB_ok (by decide +kernel)
theorem two_run2 : treePutM redOkM two1 4294967299 [99] [121] = some (4294967302, two2) := runB_ok (by decide +kernel)
theorem two_rank : rankM two2 4294967302 [98] = some 1 := by decide +kernel
theorem two_down : downM two2 [98] (Lf.limit two2) 4294967302 0 = some (0, 1) := by decide +kernel
theorem two_rank0 : rankM two2 4294967302 [65] = some 0 := by decide +kernel
theorem two_down0 : downM two2 [65] (Lf.limit two2) 4294967302 0 = some (0, 0) := by decide +kernel
theorem two_down1 : downM two2 [97] (Lf.limit two2) 4294967302 0 = some (4294967299, 0) := by decide +kernel
theorem two_at0 : treeAtM two2 4294967302 0 = some ([97], [120]) := by decide +kernel
theorem two_at1 : treeAtM two2 4294967302 1 = some ([99], [121]) := by decide +kernel
theorem two_val : textM two2 (getNode two2 4294967299).1.val = some [120] := by decide +kernel
end Go.Proofs.YtepdkbmnkjfcpaaGreatDoor
