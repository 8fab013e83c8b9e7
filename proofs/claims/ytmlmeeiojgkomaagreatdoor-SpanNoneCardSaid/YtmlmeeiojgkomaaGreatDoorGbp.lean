/- Ranges of maps: awake, long; without a map nothing is told: the walks. From a walk that ends in 'true' and 'Below' to a law's row: of whatever program; this program's own closed facts; the table that a row lists, in memory. -/
import Derived.Test.YtmlmeeiojgkomaaGreatDoorGbo
import Derived.Test.YtmlmeeiojgkomaaGreatDoorRows
import Derived.ProofKit
import Derived.Below
import Derived.ChangeSame
import Derived.Lib.LaidTab
import Derived.Lib.SmallJoins
import Derived.Lay
import Derived.MakeChecks
import Derived.Test.YtmlmeeiojgkomaaGreatDoorGad
namespace Go.Proofs.YtmlmeeiojgkomaaGreatDoor
open Go.RowKit Go.BigFrame Go.Maps Go.WideMaps Lf

theorem MdAt.below {w wr w' : World} {ps pm px root : Nat} {S : St} {Y : Nat → Prop} (h : MdAt w ps pm px S root Y wr) (hb : Below wr.heap.size wr w') : MdAt w ps pm px S root Y w' :=
  ⟨h.st.below hb, h.inv, h.m.below hb, h.t.below hb, h.bl.trans (hb.mono h.bl.size), h.y, h.yx, h.ym, h.nx, h.ne⟩
theorem pr_neq_a (W : World) : (binOp .neq 37 (.agg #[SV [97], SV []]) (.agg #[SV [97], SV []])).run Tryz.prog W = .ok (.bool false) W := by kernel_rfl
theorem pr_neq_b (W : World) : (binOp .neq 37 (.agg #[SV [98], SV []]) (.agg #[SV [98], SV []])).run Tryz.prog W = .ok (.bool false) W := by kernel_rfl
theorem pr_neq_c (W : World) : (binOp .neq 37 (.agg #[SV [99], SV []]) (.agg #[SV [99], SV []])).run Tryz.prog W = .ok (.bool false) W := by kernel_rfl
theorem RowP.new (W : World) (l : List Pr) (t : TypeId) : RowP (W.alloc (.cells (prow l).toArray t)) (.slice (some ⟨W.heap.size, 0, none⟩) l.length l.length) l :=
  ⟨W.heap.size, l.length, rfl, fun j u hu => by rw [cell_of_block (heap_alloc_new W _)]; simpa using hu⟩

set_option maxRecDepth 100000 in
set_option maxHeartbeats 6400000 in
theorem awake21 {w : World} (ht : Tab64 w) :
    Calls Tryz.prog 5 #[] w fun e w' => e = .returned (.bool true) ∧ Below w.heap.size w w' := by
  have B0 := (Below.refl w.heap.size w).alloc (Nat.le_refl _) (.cells #[SV [97], SV [], SV [98], SV [], SV [99], SV []] 37)
  have r0 : RowP (w.alloc (.cells #[SV [97], SV [], SV [98], SV [], SV [99], SV []] 37)) (.slice (some ⟨w.heap.size, 0, none⟩) 3 3) [([97], []), ([98], []), ([99], [])] := RowP.new w [([97], []), ([98], []), ([99], [])] 37
  have hm := made_abc (ht.of_block (B0.block _ ht.lt)) r0
  have hsc := fun {w0 wr : World} {ps pm px : Nat} {Y : Nat → Prop} (h : MdAt w0 ps pm px abc3 4294967302 Y wr) => span_scan h.st h.inv h.m h.t (by decide) [97] [99] false 9 (by decide) abc_p1 abc_r1 (by decide)
  have hbk := fun {w0 wr : World} {ps pm px : Nat} {Y : Nat → Prop} (h : MdAt w0 ps pm px abc3 4294967302 Y wr) => span_back h.st h.inv h.m h.t (by decide) [97] [] true 2 (by decide) abc_p2 abc_r2 (by decide)
  have hct := fun {w0 wr : World} {ps pm px : Nat} {Y : Nat → Prop} (h : MdAt w0 ps pm px abc3 4294967302 Y wr) => span_count h.st h.inv h.m h.t (by decide) [98] [97] false abc_p3
  have HG := Lib.hid (And.intro hm (And.intro B0 ht))
  clear hm B0 r0 ht
  go_enter Tryz.func5, Tryz.ntmps5
  go_wp2_with fail
  refine HG.out.1.mono ?_
  rintro e w1 ⟨ps, pm, px, Y, rfl, hM1⟩
  have h2 := hsc hM1
  have HS := Lib.hid (And.intro (@hbk) (@hct))
  have H1 := Lib.hid (And.intro hM1 h2)
  clear hM1 h2 hsc hbk hct
  go_wp2_with fail
  refine H1.out.2.mono ?_
  rintro e w2 ⟨v, rfl, hr2, hb2⟩
  have H2 := Lib.hid (And.intro (H1.out.1.below hb2) (RowP.of_owns hr2 (by decide)))
  clear hr2 hb2
  go_wp2_with fail
  refine (HS.out.1 H2.out.1).mono ?_
  rintro e w3 ⟨u, rfl, hr3, hb3⟩
  have H3 := Lib.hid (And.intro (H2.out.1.below hb3) (And.intro (H2.out.2.below hb3) (RowP.of_owns hr3 (by decide))))
  clear hr3 hb3
  go_wp2_with fail
  refine (HS.out.2 H3.out.1).mono ?_
  rintro e w4 ⟨rfl, hb4⟩
  have H4 := Lib.hid (And.intro (H3.out.1.below hb4) (And.intro (H3.out.2.1.below hb4) (H3.out.2.2.below hb4)))
  clear hb4
  go_wp2_with fail
  have n5 : RowP (w4.alloc (.cells #[SV [97], SV [], SV [98], SV []] 37)) (.slice (some ⟨w4.heap.size, 0, none⟩) 2 2) [([97], []), ([98], [])] := RowP.new w4 [([97], []), ([98], [])] 37
  have A5 := (Below.refl w4.heap.size w4).alloc (Nat.le_refl _) (.cells #[SV [97], SV [], SV [98], SV []] 37)
  have M5 := H4.out.1.below A5
  have R5 := H4.out.2.2.below A5
  refine (same_two (H4.out.2.1.below A5) n5 pr_neq_a pr_neq_b).mono ?_
  rintro e w5 ⟨rfl, hb5⟩
  have H5 := Lib.hid (And.intro (M5.below hb5) (R5.below hb5))
  clear n5 A5 M5 R5 hb5
  go_wp2_with fail
  have n6 : RowP (w5.alloc (.cells #[SV [99], SV [], SV [98], SV []] 37)) (.slice (some ⟨w5.heap.size, 0, none⟩) 2 2) [([99], []), ([98], [])] := RowP.new w5 [([99], []), ([98], [])] 37
  have A6 := (Below.refl w5.heap.size w5).alloc (Nat.le_refl _) (.cells #[SV [99], SV [], SV [98], SV []] 37)
  have M6 := H5.out.1.below A6
  refine (same_two (H5.out.2.below A6) n6 pr_neq_c pr_neq_b).mono ?_
  rintro e w6 ⟨rfl, hb6⟩
  have H6 := Lib.hid (M6.below hb6)
  clear n6 A6 M6 hb6
  go_wp2_with fail
  go_ret
  exact ⟨rfl, HG.out.2.1.trans (H6.out.bl.mono HG.out.2.1.size)⟩

/-- are a range's texts longer than one may take? -/
def longR (fr to : List UInt8) : Bool := decide (2000 < fr.length) || decide (2000 < to.length)
set_option maxRecDepth 100000 in
set_option maxHeartbeats 800000 in
theorem long21 (fr to : List UInt8) (op : Bool) (most : Int) (w : World) :
    Calls Tryz.prog 4 #[.agg #[SV fr, SV to, .bool op, .int .i64 most]] w fun e w' => e = .returned (.bool (longR fr to)) ∧ Below w.heap.size w w' := by
  obtain ⟨R, hR⟩ : ∃ R, longR fr to = R := ⟨_, rfl⟩
  rw [hR]
  have HR := Lib.hid hR
  clear hR
  by_cases h1 : 2000 < fr.length
  · have hq1 : (2000 < (fr.length : Int)) = True := eq_true (by omega)
    go_enter Tryz.func4, Tryz.ntmps4
    go_wp2_with fail
    go_ret
    obtain rfl := HR.out
    exact ⟨by simp [longR, h1], (Below.refl _ w).alloc (Nat.le_refl _) _⟩
  · have hq1 : (2000 < (fr.length : Int)) = False := eq_false (by omega)
    by_cases h2 : 2000 < to.length
    · have hq2 : (2000 < (to.length : Int)) = True := eq_true (by omega)
      go_enter Tryz.func4, Tryz.ntmps4
      go_wp2_with fail
      go_ret
      obtain rfl := HR.out
      exact ⟨by simp [longR, h1, h2], (Below.refl _ w).alloc (Nat.le_refl _) _⟩
    · have hq2 : (2000 < (to.length : Int)) = False := eq_false (by omega)
      go_enter Tryz.func4, Tryz.ntmps4
      go_wp2_with fail
      go_ret
      obtain rfl := HR.out
      exact ⟨by simp [longR, h1, h2], (Below.refl _ w).alloc (Nat.le_refl _) _⟩

set_option maxRecDepth 100000 in
set_option maxHeartbeats 3200000 in
theorem spanNone_walk (fr to : List UInt8) (op : Bool) (most : Int) {w : World} (ht : Tab64 w) :
    Calls Tryz.prog 3 #[.agg #[SV fr, SV to, .bool op, .int .i64 most]] w fun e w' => e = .returned (.bool true) ∧ Below w.heap.size w w' := by
  have B0 := (Below.refl w.heap.size w).alloc (Nat.le_refl _) (.cells #[SV fr, SV to, .bool op, .int .i64 most] 23)
  have hlo := long21 fr to op most (w.alloc (.cells #[SV fr, SV to, .bool op, .int .i64 most] 23))
  have haw := fun W (hW : Below w.heap.size w W) => awake21 (ht.of_block (hW.block _ ht.lt))
  have q0 := heap_alloc_new w (.cells #[SV fr, SV to, .bool op, .int .i64 most] 23)
  have HG := Lib.hid (And.intro hlo (And.intro haw (And.intro B0 q0)))
  clear hlo haw B0 q0 ht
  cases hL : longR fr to with
  | true =>
    rw [hL] at HG
    go_enter Tryz.func3, Tryz.ntmps3
    go_wp2_with fail
    refine HG.out.1.mono ?_
    rintro e w1 ⟨rfl, hb1⟩
    have H1 := Lib.hid (HG.out.2.2.1.trans (hb1.mono HG.out.2.2.1.size))
    clear hb1
    go_wp2_with fail
    refine (HG.out.2.1 _ H1.out).mono ?_
    rintro e w2 ⟨rfl, hb2⟩
    have H2 := Lib.hid (H1.out.trans (hb2.mono H1.out.size))
    clear hb2
    go_wp2_with fail
    go_ret
    exact ⟨rfl, H2.out⟩
  | false =>
    rw [hL] at HG
    go_enter Tryz.func3, Tryz.ntmps3
    go_wp2_with fail
    refine HG.out.1.mono ?_
    rintro e w1 ⟨rfl, hb1⟩
    have q1 := (hb1.block w.heap.size (by simp)).trans HG.out.2.2.2
    have c0 : (w1).cell? ⟨w.heap.size, 0, none⟩ = some (SV fr) := by rw [cell_of_block q1]; rfl
    have c1 : (w1).cell? ⟨w.heap.size, 1, none⟩ = some (SV to) := by rw [cell_of_block q1]; rfl
    have c2 : (w1).cell? ⟨w.heap.size, 2, none⟩ = some (.bool op) := by rw [cell_of_block q1]; rfl
    have c3 : (w1).cell? ⟨w.heap.size, 3, none⟩ = some (.int .i64 most) := by rw [cell_of_block q1]; rfl
    have H1 := Lib.hid (And.intro (HG.out.2.2.1.trans (hb1.mono HG.out.2.2.1.size)) q1)
    clear hb1 q1
    go_wp2_with fail
    refine (span_scan_nil fr to op most _).mono ?_
    rintro e w2 ⟨rfl, hb2⟩
    have q2 := (hb2.block w.heap.size (Array.getElem?_eq_some_iff.1 H1.out.2).1).trans H1.out.2
    have d0 : (w2).cell? ⟨w.heap.size, 0, none⟩ = some (SV fr) := by rw [cell_of_block q2]; rfl
    have d1 : (w2).cell? ⟨w.heap.size, 1, none⟩ = some (SV to) := by rw [cell_of_block q2]; rfl
    have d2 : (w2).cell? ⟨w.heap.size, 2, none⟩ = some (.bool op) := by rw [cell_of_block q2]; rfl
    have d3 : (w2).cell? ⟨w.heap.size, 3, none⟩ = some (.int .i64 most) := by rw [cell_of_block q2]; rfl
    have H2 := Lib.hid (And.intro (H1.out.1.trans (hb2.mono H1.out.1.size)) q2)
    clear hb2 q2 c0 c1 c2 c3
    go_wp2_with fail
    refine (span_back_nil fr to op most _).mono ?_
    rintro e w3 ⟨rfl, hb3⟩
    have q3 := (hb3.block w.heap.size (Array.getElem?_eq_some_iff.1 H2.out.2).1).trans H2.out.2
    have e0 : (w3).cell? ⟨w.heap.size, 0, none⟩ = some (SV fr) := by rw [cell_of_block q3]; rfl
    have e1 : (w3).cell? ⟨w.heap.size, 1, none⟩ = some (SV to) := by rw [cell_of_block q3]; rfl
    have e2 : (w3).cell? ⟨w.heap.size, 2, none⟩ = some (.bool op) := by rw [cell_of_block q3]; rfl
    have e3 : (w3).cell? ⟨w.heap.size, 3, none⟩ = some (.int .i64 most) := by rw [cell_of_block q3]; rfl
    have H3 := Lib.hid (H2.out.1.trans (hb3.mono H2.out.1.size))
    clear hb3 q3 d0 d1 d2 d3
    go_wp2_with fail
    refine (span_count_nil fr to op _).mono ?_
    rintro e w4 ⟨rfl, rfl⟩
    go_wp2_with fail
    refine (span_delete_nil fr to op _).mono ?_
    rintro e w4 ⟨rfl, rfl⟩
    go_wp2_with fail
    refine (HG.out.2.1 _ H3.out).mono ?_
    rintro e w5 ⟨rfl, hb5⟩
    have H5 := Lib.hid (H3.out.trans (hb5.mono H3.out.size))
    clear hb5 e0 e1 e2 e3
    go_wp2_with fail
    go_ret
    exact ⟨rfl, H5.out⟩
end Go.Proofs.YtmlmeeiojgkomaaGreatDoor

namespace Go.Proofs.YtmlmeeiojgkomaaGreatDoor
open Go.ChangeShapes Go.WideShapes Go.ChangeAt Go.RowKit
section
variable {H : Type} {enc : TypeId × Value → H} {P : Program}

theorem trodAll_below (hl : laidOutB P = true) {W W' : World} (hb : Below W.heap.size W W') {sp' : Nat → Bool} : ∀ (ts : List TypeId) {vs : List Value} {ds : List (DataW H)} {ps : List MemPlace},
    (∀ t ∈ ts, P.readableRec t = true ∧ t < P.types.size) → DataW.TrodAll enc P W 0 (fun _ => true) true ts vs ds ps → (∀ x ∈ ps, x.block < W.heap.size) → (∀ x ∈ ps, sp' x.block = true) →
    DataW.TrodAll enc P W' 0 sp' true ts vs ds ps
  | [], _, _, _, _, h, _, _ => by
    obtain ⟨rfl, rfl, rfl⟩ := trodAll_nil h
    exact trodAll_mk0
  | t :: ts, _, _, _, hr, h, hlt, hs => by
    obtain ⟨v, vs, d, ds, p, q, rfl, rfl, rfl, h1, h2⟩ := trodAll_cons h
    have ht := hr t (by simp)
    refine ⟨p, q, ?_, trodAll_below hl hb ts (fun x hx => hr x (by simp [hx])) h2 (fun x hx => hlt x (by simp [hx])) (fun x hx => hs x (by simp [hx])), rfl⟩
    exact WideElems.Trod_stays hl ht.1 ht.2 h1 (fun x hx => hb.same (hlt x (by simp [hx]))) (fun x hx => hs x (by simp [hx]))

theorem law_post {f : Func} {s : ChangeSpec} {apart fresh handsOn again : Bool} {W W' : World} {args : Array Value} {ds gs : List (DataW H)} {before : List MemPlace} {tb : TypeId}
    (hl : laidOutB P = true) (hvars : s.vars = []) (hts : ∀ t ∈ f.params.toList, P.readableRec t = true ∧ t < P.types.size) (hres : f.resultTypes = #[tb]) (htb : P.underlying tb = some .bool)
    (hW : DataW.Whole enc P f.params.toList s.vars apart W args.toList ds gs before)
    (hfn : s.fn H (ds ++ gs) = { results := [.lit (.bool true)], args := ds })
    (hb : Below W.heap.size W W') : s.post enc P f apart fresh handsOn again W args (.bool true) W' := by
  have hlt : ∀ p ∈ before, p.block < W.heap.size := fun p hp => hW.lt p hp
  have hW' := hW
  obtain ⟨p, q, hA, hV, rfl, hz, hn⟩ := hW
  rw [hvars] at hV
  obtain ⟨rfl, rfl⟩ := trodVars_none hV
  rw [List.append_nil] at *
  have hargs : ∀ sp' : Nat → Bool, (∀ x ∈ p, sp' x.block = true) → DataW.TrodAll enc P W' 0 sp' true f.params.toList args.toList ds p := fun sp' hs => trodAll_below hl hb _ hts hA hlt hs
  have hold : ∀ x ∈ p, (fun b => decide (b < W.heap.size)) x.block = true := fun x hx => by simpa using hlt x hx
  have hbool : ∀ (b : Nat) (sp : Nat → Bool) (hd : Bool), DataW.TrodAll enc P W' b sp hd f.resultTypes.toList ((Value.bool true).resultList f.resultTypes.size) [.lit (.bool true)] [] := fun b sp hd => by
    rw [hres]
    exact trodAll_mk1 (shut_bool htb true)
  refine ⟨ds, [], p, [], p, [], hW', ?_, ?_, ?_, World.keptBut_mono (fun x hx => ⟨hx, .inr (.inl hx)⟩) (hb.frame (· ∈ p)), fun _ => ?_⟩
  · rw [List.append_nil, hfn]; exact hbool _ _ _
  · rw [List.append_nil, hfn]; exact hargs _ hold
  · rw [List.append_nil, hfn, hvars]; rfl
  · refine ⟨?_, [.lit (.bool true)] ++ ds, [], ([] ++ p) ++ [], ⟨[] ++ p, [], ?_, by rw [hvars]; rfl, rfl, ?_, ?_⟩, ?_⟩
    · intro j t r hj hr
      rw [hres] at hj hr
      match j, hj, hr with
      | 0, hj, hr =>
        simp [Value.resultList] at hj hr
        subst hj; subst hr
        exact okWide_bool_mk htb true
    · exact trodAll_append (hargs (fun _ => true) (fun _ _ => rfl)) (hbool _ _ _)
    · intro b off hp
      have hin : MemPlace.cell b off ∈ p := by simpa using hp
      rw [hb.frozen (hlt _ hin)]
      exact hz b off hin
    · intro ha
      have := hn ha
      simpa using this
    · intro x hx _
      simpa using hx
end
theorem Tryz.own : ownKnob Tryz.prog.godebug = none := by kernel_rfl
theorem Tryz.laidOut : laidOutB Tryz.prog = true := by kernel_rfl
/-- what the row lists: the one table -/
def laidTab : List (String × DataW Unit) := [("math/bits.deBruijn64tab", Rows.laid_math_bits_deBruijn64tab)]
theorem laidTab_eq : laidTab = [("math/bits.deBruijn64tab", Lib.tabData .u8 (Go.Lib.deBruijn64tab.map Int.ofNat))] := by kernel_rfl
theorem tab_of_laid {W : World} (h : laidMetH Tryz.prog laidTab W) : Tab64 W := by
  rw [MakeChecks.laidMetH_plain _ _ _ (by kernel_rfl), laidTab_eq] at h
  have hT := Lib.tabIs_of_head (g := 1) (t := 305) (e := 5) (n := 64) (by kernel_rfl) (by kernel_rfl) Tryz.underlying305 Tryz.underlying5 (by kernel_rfl) (by kernel_rfl) h
  intro j hj
  have := hT.cell (g := 1) (by kernel_rfl) j (by simpa using hj)
  rw [this]
  simp [List.getD_eq_getElem?_getD, hj]
end Go.Proofs.YtmlmeeiojgkomaaGreatDoor
