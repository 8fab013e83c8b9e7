/- Blobs: Put: the walk. Blobs: the words of a record, told one by one: the iterator's contract. Blobs: the words of a record as a row: AppendSeq, Collect: the walks. Blobs: Collect; the text of a row of words; Get: the walks. -/
import Derived.Test.YtoaabbnieakidaaGreatDoorRGam
import Derived.Test.YtoaabbnieakidaaGreatDoorRGan
import Derived.Maps.OwnIn
import Derived.Test.YtoaabbnieakidaaGreatDoorRGak
import Derived.Laws.BytesString
namespace Go.Proofs.YtoaabbnieakidaaGreatDoorR
open Go.RowKit Go.BigFrame Go.Maps Go.WideMaps Lf

/-- a record of n words can be made: there is a handle left, and it lies apart from the others -/
def MkOk (S : St) (n : Nat) : Prop := (S.t.open (allocH S.a (n + 2)).1.1).1.2 = 0 ∧ Inv (S.make n).2
theorem make_lt {S : St} (hw : TabWF S.t) (n : Nat) : (S.make n).1.1 < 18446744073709551616 := by
  have h := open_lt hw
  unfold St.make
  split
  · simp
  · split
    · rename_i addr a1 _
      have := h addr
      split
      · rename_i hh t1 he
        rw [he] at this
        exact this
      · simp
    · simp
theorem StOn.tabwf {w : World} {ps : Nat} {S : St} {Y : Nat → Prop} (h : StOn w ps S Y) : TabWF S.t := by
  obtain ⟨_, _, _, _, _, h⟩ := h
  exact h.tab.wf
theorem RowU.keep {w w' : World} {B : Nat} {v : Value} {ws : List Nat} {Y : Nat → Prop} (h : RowU w B v ws) (hk : Keep Y w w') (hy : ∀ k, B ≤ k → k < w.heap.size → Y k) : RowU w' B v ws := by
  obtain ⟨G, c, rfl, hB, hc⟩ := h
  refine ⟨G, c, rfl, hB, fun i hi => ?_⟩
  have h1 := hc i hi
  have hlt : G < w.heap.size := by
    unfold World.cell? at h1
    split at h1
    · rename_i heq; exact (Array.getElem?_eq_some_iff.1 heq).1
    · cases h1
  exact (World.cell?_of_block (hk.block G (hy G hB hlt))).trans h1

set_option maxRecDepth 100000 in
set_option maxHeartbeats 1600000 in
theorem blob_put {w : World} {ps : Nat} {S : St} {Y : Nat → Prop} (h : StOn w ps S Y) (hi : Inv S) (l : List UInt8) (hl : l.length ≤ 1000) (hm : MkOk S (many l.length)) :
    Calls Tryz.prog 124 #[PV ps, SV l] w fun e w' => e = .returned (.tuple #[.int .u64 ((putBlob S l).1.1 : Nat), .int .i64 ((putBlob S l).1.2 : Nat)]) ∧ StOn w' ps (putBlob S l).2 Y ∧ Keep Y w w' := by
  have hle := st_len h hi 0 (by omega)
  rw [len_zero] at hle
  have hwo := fun W => text_words l W hl
  have hlen := wordsOf_many l hl
  have hwl := wordsOf_lt l (by omega)
  obtain ⟨R, hR⟩ : ∃ R, putBlob S l = R := ⟨_, rfl⟩
  rw [hR]
  unfold putBlob at hR
  rw [if_neg (by omega)] at hR
  obtain ⟨hm1, hm2⟩ := hm
  have hmk := fun W (hW : StOn W ps S (fun k => Y k ∨ (w.heap.size ≤ k ∧ k < W.heap.size))) => st_make hW (many l.length) (by unfold many; split <;> omega) hm1
  have hmlt := make_lt h.tabwf (many l.length)
  have hml : many l.length ≤ 200 := by unfold many; split <;> omega
  obtain ⟨⟨⟨hh, er⟩, S1⟩, hS⟩ : ∃ r, S.make (many l.length) = r := ⟨_, rfl⟩
  rw [hS] at hmk hmlt hm2 hR
  simp only at hmk hmlt hm2 hR
  rw [← hlen] at hmk hml
  obtain ⟨ws, hws⟩ : ∃ ws, wordsOf l = ws := ⟨_, rfl⟩
  rw [hws] at hwo hmk hml hwl hR
  have HG := Lib.hid (And.intro hle (And.intro hwo (And.intro hmk (And.intro hR (And.intro h (And.intro hwl hm2))))))
  clear hle hwo hmk hR h hwl hm2 hm1 hS hlen hws hi
  obtain ⟨n, hn⟩ : ∃ n, ws.length = n := ⟨_, rfl⟩
  have HN := Lib.hid hn
  rw [hn] at hml
  clear hn
  go_enter Tryz.func124, Tryz.ntmps124
  go_wp2_with fail
  refine HG.out.1.mono ?_
  rintro e w1 ⟨rfl, rfl⟩
  go_wp2_with fail
  refine (HG.out.2.1 _).mono ?_
  rintro e w2 ⟨v, rfl, hrow, hb⟩
  have hS2 := HG.out.2.2.2.2.1.wide hb
  have H2 := Lib.hid (And.intro hrow (And.intro hb hS2))
  have hrow' := hrow
  obtain ⟨G, cp, rfl, _, _⟩ := hrow'
  rw [HN.out] at H2
  simp only [HN.out]
  clear hrow hb hS2
  go_wp2_with fail
  have hmk := HG.out.2.2.1 w2 H2.out.2.2
  rw [HN.out] at hmk
  refine hmk.mono ?_
  rintro e w3 ⟨rfl, h3, k3⟩
  clear hmk
  have hr3 := H2.out.1.keep k3 (fun k h1 h2 => Or.inr ⟨h1, h2⟩)
  have H3 := Lib.hid (And.intro h3 (And.intro k3 hr3))
  clear h3 k3 hr3
  cases er with
  | succ er =>
    have hq1 : (((er + 1 : Nat) : Int) != 0) = true := by simp; omega
    obtain ⟨g1, hg1⟩ : ∃ g1, er + 1 = g1 := ⟨_, rfl⟩
    rw [hg1] at HG hq1 
    have hR1 : R = ((0, g1), S1) := by rw [← HG.out.2.2.2.1, ← hg1]; rfl
    have HR1 := Lib.hid hR1
    simp only [hg1]
    clear hR1 hg1
    go_wp2_with fail
    go_ret2
    obtain rfl := HR1.out
    exact ⟨rfl, H3.out.1.mono fun k hk => Or.inl hk, (Keep.of_below H2.out.2.1 HG.out.2.2.2.2.1.yl).trans (H3.out.2.1.mono fun k hk => Or.inl hk)⟩
  | zero =>
    have hR1 : R = ((hh, 0), putWords S1 hh 0 ws) := by rw [← HG.out.2.2.2.1]; rfl
    have HR1 := Lib.hid hR1
    clear hR1
    go_wp2_with fail
    go_loopw [11, 12, 40] (fun _ _ i wr => ∃ k : Nat, k ≤ n ∧ i = .int .i64 k ∧ ∃ Sk, StOn wr ps Sk (fun k => Y k ∨ (w.heap.size ≤ k ∧ k < w2.heap.size)) ∧ Inv Sk ∧ putWords Sk hh k (ws.drop k) = R.2 ∧ Keep (fun k => Y k ∨ (w.heap.size ≤ k ∧ k < w2.heap.size)) w2 wr) (fun _ _ i _ => n - (intOf i).toNat)
    case atStart => exact ⟨0, by omega, rfl, S1, H3.out.1, HG.out.2.2.2.2.2.2, by rw [HR1.out]; rfl, H3.out.2.1⟩
    case round =>
      obtain ⟨k, hk, rfl, Sk, hSk, hIk, hpk, hkk⟩ := hrel
      by_cases hlt : k < n
      · have hlt' : (k : Int) < n := by omega
        have hlw : k < ws.length := by rw [HN.out]; exact hlt
        obtain ⟨G', c', he, _, hcs⟩ := H2.out.1.keep hkk (fun k h1 h2 => Or.inr ⟨h1, h2⟩)
        injection he with he1 he2 he3
        injection he1 with he1
        injection he1 with he1
        subst he1
        have c1 := hcs k hlw
        have hx := HG.out.2.2.2.2.2.1 _ (List.getElem_mem hlw)
        have hd : ws.drop k = ws[k] :: ws.drop (k + 1) := List.drop_eq_getElem_cons hlw
        rw [hd] at hpk
        have hpu := st_put hSk hIk hh k ws[k] hmlt (by omega) hx
        have hin := hIk.put hh k ws[k]
        generalize ws[k] = x at *
        have HK := Lib.hid (And.intro hpu (And.intro hin (And.intro hpk (And.intro hkk hlw))))
        clear hpu hin hpk hkk hlw hcs hd hSk hIk he2 he3
        go_wp2_with fail
        refine HK.out.1.mono ?_
        rintro e w4 ⟨rfl, h4, k4⟩
        have H4 := Lib.hid (And.intro h4 (HK.out.2.2.2.1.trans k4))
        clear h4 k4
        go_wp2_with fail
        go_roundw
        case rel => exact ⟨k + 1, by omega, by simp, _, H4.out.1, HK.out.2.1, HK.out.2.2.1, H4.out.2⟩
        case measure => simp [intOf]; omega
      · obtain rfl : k = n := by omega
        have HK := Lib.hid (And.intro hSk (And.intro hpk hkk))
        clear hSk hpk hkk hIk
        go_wp2_with fail
        go_ret2
        have hf : Sk = R.2 := by rw [← HK.out.2.1, List.drop_eq_nil_of_le (by rw [HN.out]; exact Nat.le_refl _)]; rfl
        have e1 : R.1 = (hh, 0) := by rw [HR1.out]
        rw [e1, ← hf]
        exact ⟨rfl, HK.out.1.mono fun k hk => Or.inl hk, (Keep.of_below H2.out.2.1 HG.out.2.2.2.2.1.yl).trans (HK.out.2.2.mono fun k hk => Or.inl hk)⟩
end Go.Proofs.YtoaabbnieakidaaGreatDoorR

namespace Go.Proofs.YtoaabbnieakidaaGreatDoorR
open Go.RowKit Go.BigFrame Go.Maps Go.WideMaps Lf
open Go.Shelf
attribute [local go_sem] Oper.semAt_some

abbrev U64 := { x : Nat // x < 18446744073709551616 }
def encU (x : U64) : Array Value := #[.int .u64 (x.1 : Nat)]
def valsU (l : List U64) : List Nat := l.map (·.1)
theorem get_lt {w : World} {ps : Nat} {S : St} {Y : Nat → Prop} (h : StOn w ps S Y) (hh k : Nat) : (S.get hh k).1 < 18446744073709551616 := by
  obtain ⟨pa, pm, ph, pt, v, h⟩ := h
  rw [St.get_place]
  rcases S.place_cases hh k with ⟨p, hp⟩ | ⟨e, hp⟩
  · rw [hp]; exact h.heap.rd_lt p
  · rw [hp]; show 0 < _; omega

set_option maxRecDepth 100000 in
set_option maxHeartbeats 400000 in
theorem blob_words (ps hh : Nat) (w : World) :
    Calls Tryz.prog 123 #[PV ps, .int .u64 hh] w fun e w' => e = .returned (.func (.func 170) #[] #[PV w.heap.size, PV (w.heap.size + 1)]) ∧ w' = (w.alloc (.cells #[PV ps] 77)).alloc (.cells #[.int .u64 hh] 61) := by
  go_enter Tryz.func123, Tryz.ntmps123
  go_wp2
  go_ret
  exact ⟨rfl, rfl⟩

set_option maxRecDepth 100000 in
set_option maxHeartbeats 1600000 in
theorem words_stops {w : World} {ps : Nat} {S : St} {Y : Nat → Prop} (h : StOn w ps S Y) (hi : Inv S) (hh : Nat) (hl : hh < 18446744073709551616) (Bs Bh : Nat) (hBs : Bs < w.heap.size ∧ w.cell? ⟨Bs, 0, none⟩ = some (PV ps)) (hBh : Bh < w.heap.size ∧ w.cell? ⟨Bh, 0, none⟩ = some (.int .u64 hh)) :
    SeqStopsK Fence.wide 6 Tryz.prog 170 #[PV Bs, PV Bh] encU (Below w.heap.size) (fun xs => valsU xs = recWords S hh) (fun _ => True) 3998 w := fun l J Jx W hW hJ hJx hY h0 => by
  have hfL : Fence.wide.fn 100 := trivial
  have hfG : Fence.wide.fn 141 := trivial
  have hlen : CallsIn Fence.wide 5 Tryz.prog 100 #[PV ps, .int .u64 hh] W _ := callsIn_wide.2 (st_len (h.below hW) hi hh hl)
  have hget : ∀ W', Below w.heap.size w W' → ∀ k : Nat, k ≤ 4000 → CallsIn Fence.wide 5 Tryz.prog 141 #[PV ps, .int .u64 hh, .int .i64 k] W' _ := fun W' hW' k hk => callsIn_wide.2 (st_get (h.below hW') hi hh k hl (by omega))
  have hglt := fun k => get_lt h hh k
  have hn : (S.len hh).1 ≤ 3998 := hi.at_le hh
  obtain ⟨q, hq⟩ : ∃ q, recWords S hh = q := ⟨_, rfl⟩
  have hq1 : ∀ k, q.take (k + 1) = if k < (S.len hh).1 then q.take k ++ [(S.get hh k).1] else q.take k := fun k => by
    rw [← hq]
    unfold recWords
    split
    · rename_i hk
      rw [← List.map_take, ← List.map_take, List.take_range, List.take_range, Nat.min_eq_left (by omega), Nat.min_eq_left (by omega), List.range_succ, List.map_append]
      rfl
    · rename_i hk
      rw [List.take_of_length_le (by simp; omega), List.take_of_length_le (by simp; omega)]
  have hql : q.length = (S.len hh).1 := by rw [← hq]; simp [recWords]
  rw [hq]
  obtain ⟨n, hnn⟩ : ∃ n, (S.len hh).1 = n := ⟨_, rfl⟩
  rw [hnn] at hlen hn hq1 hql
  have cs := (hW.cell (p := ⟨Bs, 0, none⟩) hBs.1).trans hBs.2
  have ch := (hW.cell (p := ⟨Bh, 0, none⟩) hBh.1).trans hBh.2
  have HG := Lib.hid (And.intro hget (And.intro hglt (And.intro hq1 (And.intro hql (And.intro hBs (And.intro hBh hW))))))
  have HJ := Lib.hid (And.intro hJ (And.intro hJx (And.intro hY h0)))
  have HL := Lib.hid hlen
  clear hget hglt hq hq1 hql hBs hBh hW hJ hJx hY h0 hlen hnn hi h
  refine callsIn_of_wp Tryz.func170 rfl trivial ?_ rfl
  simp only [Tryz.ntmps170, List.size_toArray, List.length_cons, List.length_nil, Nat.reduceAdd, Nat.reduceSub, Array.replicate_succ, Array.replicate_zero, List.push_toArray, List.append_toArray, List.nil_append, List.cons_append]
  gi_wp2_with fail
  refine HL.out.mono ?_
  rintro e w1 ⟨rfl, rfl⟩
  clear HL
  gi_wp2_with fail
  gi_loopw [6, 7, 8, 16] (fun _ _ _ i wr => ∃ k : Nat, k ≤ n ∧ i = .int .i64 k ∧ Hid (Below w.heap.size w wr ∧ ∃ pX, valsU pX = q.take k ∧ J pX wr)) (fun _ _ _ i _ => n - (intOf i).toNat)
  case atStart => exact ⟨0, by omega, rfl, HG.out.2.2.2.2.2.2, [], rfl, HJ.out.2.2.2⟩
  case round =>
    obtain ⟨k, hk, rfl, hin⟩ := hrel
    by_cases hlt : k < n
    · have hlt' : (k : Int) < n := by omega
      have cs := (hin.out.1.cell (p := ⟨Bs, 0, none⟩) HG.out.2.2.2.2.1.1).trans HG.out.2.2.2.2.1.2
      have ch := (hin.out.1.cell (p := ⟨Bh, 0, none⟩) HG.out.2.2.2.2.2.1.1).trans HG.out.2.2.2.2.2.1.2
      have hge := HG.out.1 wr hin.out.1 k (by omega)
      obtain ⟨pX, hpX, hJX⟩ := hin.out.2
      have hpl : pX.length = k := by
        have := congrArg List.length hpX
        simp only [valsU, List.length_map, List.length_take] at this
        rw [HG.out.2.2.2.1] at this
        omega
      obtain ⟨xX, hxX⟩ : ∃ xX : U64, (S.get hh k).1 = xX.1 := ⟨⟨_, HG.out.2.1 k⟩, rfl⟩
      obtain ⟨fn, tmps, assign, body, hy, hRd⟩ := HJ.out.2.2.1 pX xX wr hJX (by omega)
      have hv : valsU (pX ++ [xX]) = q.take (k + 1) := by
        rw [HG.out.2.2.1 k, if_pos hlt, ← hpX, hxX]
        simp [valsU]
      dsimp only [encU] at hy
      rw [hxX] at hge
      generalize (S.get hh k).2 = er at hge
      obtain ⟨x, hx⟩ := xX
      simp only at hge hy
      clear hxX
      have HV := Lib.hid hv
      have HE := Lib.hid hge
      clear hv hge hpX hJX hpl
      gi_wp2_with fail
      refine HE.out.mono ?_
      rintro e w2 ⟨rfl, rfl⟩
      clear HE
      gi_wp2_with fail
      refine hRd.mono ?_
      rintro e w4 (⟨rfl, hJ4, hk4'⟩ | ⟨rfl, hJx4⟩)
      · have H4 := Lib.hid (And.intro (hin.out.1.trans hk4') hJ4)
        clear hJ4 hk4' hy hRd
        gi_wp2_with fail
        go_roundw
        case rel => exact ⟨k + 1, by omega, by simp, H4.out.1, _, HV.out, H4.out.2⟩
        case measure => simp [intOf]; omega
      · have H4 := Lib.hid hJx4
        clear hJx4 hy hRd
        gi_wp2_with fail
        refine bodyPost_ret (results_none rfl _ _ _) rfl ?_
        exact ⟨⟨_, rfl⟩, .inr ⟨_, trivial, H4.out⟩⟩
    · obtain rfl : k = n := by omega
      gi_wp2
      go_end0
      obtain ⟨pX, hpX, hJX⟩ := hin.out.2
      rw [List.take_of_length_le (by rw [HG.out.2.2.2.1]; exact Nat.le_refl _)] at hpX
      exact ⟨⟨_, rfl⟩, .inl ⟨_, hpX, hJX⟩⟩
end Go.Proofs.YtoaabbnieakidaaGreatDoorR

namespace Go.Proofs.YtoaabbnieakidaaGreatDoorR
open Go.RowKit Go.BigFrame Go.Maps Go.WideMaps Lf
open Go.Shelf
attribute [local go_sem] Oper.semAt_some

theorem keepsFrom_of_row {W W' : World} {base B : Nat} {e : TypeId} {size : Nat} {v : Value} {k : Nat} {xs : List Value} (h : W.ownsRow base e size v k xs) (hg : W.grownBy W' v.ownBlock) : KeepsFrom B W W' :=
  ⟨hg.size, fun j o _ hj ho => (hg.block j (Array.getElem?_eq_some_iff.1 hj).1 (fun e' => by
    rcases h.2 with ⟨rfl, _⟩ | ⟨g, cap, cur, rfl, _, hgb, _⟩
    · cases e'
    · have : j = g := by simpa [Value.ownBlock] using e'
      subst this
      rw [hgb] at hj
      injection hj with hj
      subst hj
      cases ho)).trans hj⟩
theorem below_put {n : Nat} (W : World) (l : Nat) (o o' : Obj) (hl : n ≤ l) (_ : W.heap[l]? = some o) (_ : o.isCells = false) (_ : o.isWalk = false) : Below n W (W.putObj l o') :=
  ⟨rfl, rfl, rfl, by simp, fun k hk => World.putObj_heap_other (by omega)⟩
theorem ownsRow_own {W W' : World} {row : Option Nat} {base : Nat} {e : TypeId} {size : Nat} {v : Value} {k : Nat} {xs : List Value} (h : W.ownsRow base e size v k xs) (hg : W.grownBy W' row) (hr : ∀ r, row = some r → ∃ o : Obj, W.heap[r]? = some o ∧ o.isCells = false) : W'.ownsRow base e size v k xs := by
  refine h.kept hg ?_
  rcases h.2 with ⟨rfl, _⟩ | ⟨g, cap, cur, rfl, _, hgb, _⟩
  · exact Or.inl rfl
  · refine Or.inr fun e' => ?_
    obtain ⟨o, ho, hc⟩ := hr g (by rw [← e']; rfl)
    rw [hgb] at ho
    injection ho with ho
    subst ho
    cases hc
theorem heap_box {W : World} {B : Nat} {v : Value} {t : TypeId} (h : W.heap[B]? = some (.cells #[v] t (0, 0))) : W.cell? ⟨B, 0, none⟩ = some v ∧ W.frozen? ⟨B, 0, none⟩ = false := ⟨by rw [cell_of_block h]; rfl, frozen_of_block h⟩

def uV (q : List Nat) : List Value := q.map fun x : Nat => Value.int .u64 x

set_option maxRecDepth 100000 in
set_option maxHeartbeats 1600000 in
theorem append_seq {w : World} {g : Nat} {lb : Array Value} {q : List Nat} {N : Nat} (hN : N ≤ 100000) (eg : ∀ args w, (callFunc g args).run Tryz.prog w = .ok (.enter g args) w)
    (hseq : SeqStopsK Fence.wide 6 Tryz.prog g lb encU (Below w.heap.size) (fun xs => valsU xs = q) (fun _ => True) N w) :
    CallsIn Fence.wide 7 Tryz.prog 169 #[.slice none 0 0, .func (.func g) #[] lb] w fun e w' => ∃ v, e = .returned v ∧ w'.ownsRow w.heap.size 60 1 v q.length (uV q) ∧ Below w.heap.size w w' := by
  have h1 : 1 ≤ 7 := by omega
  obtain ⟨i0, hi, hz0, hz1, hz2⟩ := info_parts infoU64
  refine callsIn_of_wp_marks Tryz.func169 rfl trivial ?_ rfl
  simp only [Tryz.ntmps169, List.size_toArray, List.length_cons, List.length_nil, Nat.reduceAdd, Nat.reduceSub, Array.replicate_succ, Array.replicate_zero, List.push_toArray, List.append_toArray, List.nil_append, List.cons_append]
  gi_wp2_with fail
  have k0 : (w.alloc (.cells #[.slice none 0 0] 209)).heap[w.heap.size]? = some (.cells #[.slice none 0 0] 209 (0, 0)) := heap_alloc_new w _
  have hb0 : Below w.heap.size w (w.alloc (.cells #[.slice none 0 0] 209)) := (Below.refl _ w).alloc (Nat.le_refl _) _
  have hsz : (w.alloc (.cells #[.slice none 0 0] 209)).heap.size = w.heap.size + 1 := by simp
  generalize w.alloc (.cells #[.slice none 0 0] 209) = W0 at *
  refine wpIn_rangeFunc_ownH rfl h1 (gf := g) (lb := lb) rfl trivial eg hseq (fun h k => h.trans k) (fun W l o o' h1 h2 h3 h4 => below_put W l o o' (by omega) h2 h3 h4) hb0 (fun _ => rfl)
    (fun pre W => (∃ v, W.heap[w.heap.size]? = some (.cells #[v] 209 (0, 0)) ∧ W.ownsRow w.heap.size 60 1 v pre.length (uV (valsU pre))) ∧ Below w.heap.size w W)
    (fun _ _ _ => False)
    (OwnFrom.and (Own.from (fun s A B row hs hg hr => by
      obtain ⟨v, hv, hrow⟩ := hs
      refine ⟨v, (hg.block _ (Array.getElem?_eq_some_iff.1 hv).1 (fun e => ?_)).trans hv, ownsRow_own hrow hg hr⟩
      obtain ⟨o, ho, hc⟩ := hr _ e.symm
      rw [hv] at ho
      injection ho with ho
      subst ho
      cases hc) _) (ownFrom_below (Nat.le_refl _) (by omega)))
    (fun cd => Own.from (fun s A B row hs hg hr => hs) _)
    ⟨⟨_, k0, rfl, Or.inl ⟨rfl, rfl⟩⟩, hb0⟩
    (fun x a' _ => a' = { tmps := #[.slice none 0 0, .func (.func g) #[] lb, PV w.heap.size, undef, .slice none 0 0, .int .u64 (x.1 : Nat), .func (.func g) #[] lb, .int .u64 (x.1 : Nat), undef, undef, undef, undef, undef], defers := [] })
    (fun x a' _ X W' row hs hg hr => hs)
    ?assign ?body ?done ?stop
  case assign =>
    rintro l pre ⟨x, hx⟩ W K hI hK
    have HK := Lib.hid hK
    have HI := Lib.hid hI
    clear hK hI
    simp only [encU]
    gi_wp2
    exact HK.out _ _ (KeepsFrom.refl _ _) (Below.refl _ _) HI.out rfl
  case body =>
    rintro l pre ⟨x, hx⟩ a' W hl _ ⟨⟨v, hv, hrow⟩, hB⟩ rfl hlt
    obtain ⟨c1, f1⟩ := heap_box hv
    have HI := Lib.hid (And.intro hv (And.intro hrow (And.intro hB (And.intro hlt (And.intro hsz hl)))))
    obtain ⟨m, hm⟩ : ∃ m, pre.length = m := ⟨_, rfl⟩
    have hmN : m ≤ 100000 := by omega
    rw [hm] at HI
    clear hv hrow hB hlt hm
    gi_wp2_with (gi_at_builtin; refine wpListIn_append_own_at _ rfl _ _ 209 rfl w.heap.size 60 i0 (.int .u64 0) 1 8 Tryz.underlying209 hi hz0 hz1 hz2 rfl (by decide) _ _ _ rfl (HI.out.2.1.alloc _) ⟨W.heap.size, 0, none⟩ 1 1 [.int .u64 x] rfl rfl (cell_one_new _ _ _) ?c2 ?c3 ?c4 ?c5 ?_)
    case c2 => simp [Value.oneCell']
    case c3 => unfold maxLen; omega
    case c4 => omega
    case c5 => have := HI.out.2.2.1.size; simp; omega
    intro v' w1 hown hgrow _ hat
    obtain ⟨g', cap', cur', rfl, hbase', hgb', hr1, hr2, hr3, hr4⟩ := hown.2.resolve_left (by rintro ⟨_, h⟩; exact absurd h (by simp))
    obtain ⟨hv, hrow, hB, hlt, hsz, hl⟩ := HI.out
    have hBW := hB.size
    have hbl := (Array.getElem?_eq_some_iff.1 hv).1
    have hne : v.ownBlock ≠ some w.heap.size := fun e' => by
      rcases hrow.2 with ⟨rfl, _⟩ | ⟨g0, cap, cur, rfl, _, hgb, _⟩
      · cases e'
      · have : g0 = w.heap.size := by simpa [Value.ownBlock] using e'
        subst this
        rw [hgb] at hv
        injection hv with hv
        injection hv with _ hv
        exact absurd hv (by decide)
    have hv1 : w1.heap[w.heap.size]? = some (.cells #[v] 209 (0, 0)) := by
      rw [hgrow.block _ (by simp; omega) (fun e => hne e.symm), heap_alloc_old W _ hbl]
      exact hv
    have hg' : g' ≠ w.heap.size := fun e => by
      subst e
      rw [hgb'] at hv1
      injection hv1 with hv1
      injection hv1 with _ hv1
      exact absurd hv1 (by decide)
    have hbA : Below w.heap.size W w1 := ((Below.refl _ W).mono hBW |>.alloc hBW (.cells #[.int .u64 x] 60)).grown hgrow (by simp; omega) (fun k e => (hrow.lt k e).1)
    have hk1 : KeepsFrom W0.heap.size W w1 := ((KeepsOthers.alloc W (.cells #[.int .u64 x] 60)).from _).trans (keepsFrom_of_row (hrow.alloc _) hgrow)
    obtain ⟨d1, e1⟩ := heap_box hv1
    have HW := Lib.hid (And.intro hv1 (And.intro hgb' (And.intro hg' (And.intro hbA (And.intro hk1 (And.intro hown (And.intro hbase' (And.intro hr1 (And.intro hr2 (And.intro hr3 hr4))))))))))
    clear hv1 hgb' hg' hbA hk1 hown hbase' hr1 hr2 hr3 hr4 hgrow hat hne hbl hBW hv hrow hB hlt hl
    gi_wp2_with fail
    have hbB := HW.out.2.2.2.1.setCell (p := ⟨w.heap.size, 0, none⟩) (Nat.le_refl w.heap.size) (.slice (some ⟨g', 0, none⟩) (m + 1) cap')
    refine ⟨HW.out.2.2.2.2.1.trans ((KeepsOthers.setCell _ _ _).from _), hbB, ⟨_, heap_setCell HW.out.1, ?_⟩, HI.out.2.2.1.trans hbB⟩
    have hl1 : (pre ++ [(⟨x, hx⟩ : U64)]).length = m + 1 := by have := HW.out.2.2.2.2.2.1.1; simp [uV, valsU] at this ⊢; omega
    have hl2 : uV (valsU (pre ++ [(⟨x, hx⟩ : U64)])) = uV (valsU pre) ++ [.int .u64 x] := by simp [uV, valsU]
    rw [hl1, hl2]
    exact ⟨HW.out.2.2.2.2.2.1.1, Or.inr ⟨g', cap', cur', rfl, HW.out.2.2.2.2.2.2.1, (heap_setCell_ne HW.out.2.2.1).trans HW.out.2.1, HW.out.2.2.2.2.2.2.2⟩⟩
  case done =>
    rintro D ys W hD hS ⟨⟨v, hv, hrow⟩, hB⟩ hK
    obtain ⟨c1, f1⟩ := heap_box hv
    have hvl : ys.length = q.length := by rw [← hS]; simp [valsU]
    rw [hS, hvl] at hrow
    have HI := Lib.hid (And.intro hrow (And.intro hB (And.intro hv (And.intro hvl hS))))
    clear hrow hB hv hvl hS f1
    gi_wp2
    refine ⟨by simp, .inl ⟨_, _, rfl, run_takeDeferred hK, ?_⟩⟩
    refine ⟨v, by simp [results, Tryz.f169, go_sem], v, rfl, ?_, HI.out.2.1.trans (below_put W D _ _ (by omega) hK rfl rfl)⟩
    exact ownsRow_own HI.out.1 (grownBy_putObj' W D _) (fun r e => by cases e; exact ⟨_, hK, rfl⟩)
  case stop =>
    rintro D cd pre W hD hpre hF
    exact hF.elim
end Go.Proofs.YtoaabbnieakidaaGreatDoorR

namespace Go.Proofs.YtoaabbnieakidaaGreatDoorR
open Go.RowKit Go.BigFrame Go.Maps Go.WideMaps Lf
open Go.Shelf

theorem rowU_of_owns {w : World} {B : Nat} {v : Value} {q : List Nat} (h : w.ownsRow B 60 1 v q.length (uV q)) (hq : q ≠ []) : RowU w B v q := by
  rcases h.2 with ⟨_, hx⟩ | ⟨g, cap, cur, hv, hb, hg, h1, h2, h3, h4⟩
  · exact absurd (List.length_eq_zero_iff.1 hx) hq
  · refine ⟨g, cap, hv, hb, fun i hi => ?_⟩
    rw [cell_of_block hg]
    have : (cur.toList.take (q.length * 1))[i]? = (uV q)[i]? := by rw [h4]
    rw [List.getElem?_take_of_lt (by omega), Array.getElem?_toList] at this
    rw [this]
    simp [uV, List.getElem?_eq_getElem hi]

set_option maxRecDepth 100000 in
set_option maxHeartbeats 400000 in
theorem collect_words {w : World} {g : Nat} {lb : Array Value} {q : List Nat} {N : Nat} (hN : N ≤ 100000) (eg : ∀ args w, (callFunc g args).run Tryz.prog w = .ok (.enter g args) w)
    (hseq : SeqStopsK Fence.wide 6 Tryz.prog g lb encU (Below w.heap.size) (fun xs => valsU xs = q) (fun _ => True) N w) :
    Calls Tryz.prog 122 #[.func (.func g) #[] lb] w fun e w' => ∃ v, e = .returned v ∧ w'.ownsRow w.heap.size 60 1 v q.length (uV q) ∧ Below w.heap.size w w' := by
  have ha := callsIn_wide.1 (append_seq hN eg hseq)
  have HA := Lib.hid ha
  clear ha hseq eg
  go_enter Tryz.func122, Tryz.ntmps122
  go_wp2_with fail
  refine HA.out.mono ?_
  rintro e w1 ⟨v, rfl, hr⟩
  have HR := Lib.hid hr
  clear hr
  go_wp2_with fail
  go_ret
  exact ⟨_, rfl, HR.out⟩

theorem infoU8 : (Tryz.prog.info? 5).map (fun i => (i.zero, i.size, i.bytes)) = some (some (.int .u8 0), 1, 1) := by kernel_rfl
def bV (l : List UInt8) (k : Nat) : List Value := (List.range k).map fun i => Value.int .u8 (byteAt l i : Nat)

theorem conv_nil (w : World) : (convert 169 9 (.slice none 0 0)).run Tryz.prog w = .ok (.string ⟨#[]⟩) w := by kernel_rfl
theorem conv_back {w : World} {B : Nat} {v : Value} {l : List UInt8} (h : w.ownsRow B 5 1 v l.length (bV l l.length)) : (convert 169 9 v).run Tryz.prog w = .ok (SV l) w := by
  rcases h.2 with ⟨rfl, hx⟩ | ⟨g, cap, cur, rfl, hb, hg, h1, h2, h3, h4⟩
  · obtain rfl := List.length_eq_zero_iff.1 hx
    exact conv_nil w
  · refine run_convert_bytes_back (P := Tryz.prog) w _ _ 5 ⟨g, 0, none⟩ cap l Tryz.underlying169 Tryz.underlying5 Tryz.underlying9 (fun j hj => ?_)
    have hadd : (⟨g, 0, none⟩ : Addr).add j = ⟨g, j, none⟩ := by unfold Addr.add; split <;> simp_all
    rw [hadd, cell_of_block hg]
    have : (cur.toList.take (l.length * 1))[j]? = (bV l l.length)[j]? := by rw [h4]
    rw [List.getElem?_take_of_lt (by omega), Array.getElem?_toList] at this
    rw [this]
    simp [bV, byteAt, List.getD_eq_getElem?_getD, hj]

set_option maxRecDepth 100000 in
set_option maxHeartbeats 1600000 in
theorem text_of {w : World} {B : Nat} {v : Value} {l : List UInt8} (h : RowU w B v (wordsOf l)) (hl : l.length ≤ 1000) :
    Calls Tryz.prog 121 #[v] w fun e w' => e = .returned (.tuple #[SV l, .int .i64 0]) ∧ Below w.heap.size w w' := by
  have hm := fun W => text_many l.length W (by omega)
  rw [← wordsOf_many l hl] at hm
  have hwo := fun W => text_words l W hl
  have hwl := wordsOf_length l
  have hh0 : ∃ r, wordsOf l = l.length :: r := ⟨_, rfl⟩
  obtain ⟨i0, hi, hz0, hz1, hz2⟩ := info_parts infoU8
  have h' := h
  obtain ⟨G, c, rfl, hB, hc⟩ := h
  obtain ⟨n, hn⟩ : ∃ n, l.length = n := ⟨_, rfl⟩
  obtain ⟨m, hm'⟩ : ∃ m, (wordsOf l).length = m := ⟨_, rfl⟩
  have c0 : w.cell? ⟨G, 0, none⟩ = some (.int .u64 n) := by
    have := hc 0 (by omega)
    obtain ⟨r, hr⟩ := hh0
    rw [this]
    simp [hr, hn]
  have hcs : ∀ i, i < n → w.cell? ⟨G, 1 + i / 8, none⟩ = some (.int .u64 (cell l (i / 8) 8 : Nat)) := fun i hi => by
    have h1 := wordsOf_at l i (by omega)
    obtain ⟨h2, h3⟩ := List.getElem?_eq_some_iff.1 h1
    rw [hc _ h2, h3]
  rw [hm', hn] at hm
  rw [hm'] at hwl
  rw [hn] at hwl hl
  have hm0 : ((m : Int) == 0) = false := by simp; omega
  have hn1 : (n : Int) ≤ 1000 := by omega
  have hmm : m ≤ 200 := by omega
  have hm00 : (0 : Int) < m := by omega
  have HG := Lib.hid (And.intro hm (And.intro hwo (And.intro h' (And.intro hn (And.intro hm' (And.intro hcs hwl))))))
  rw [hm']
  clear hm hwo h' hn hm' hcs hwl hB hc hh0
  go_enter Tryz.func121, Tryz.ntmps121
  go_wp2_with fail
  refine (HG.out.1 _).mono ?_
  rintro e w1 ⟨rfl, rfl⟩
  go_wp2_with fail
  go_loopw [4, 5, 32] (fun v _ i wr => ∃ k : Nat, k ≤ n ∧ i = .int .i64 k ∧ wr.ownsRow w.heap.size 5 1 v k (bV l k) ∧ Below w.heap.size w wr) (fun _ _ i _ => n - (intOf i).toNat)
  case atStart => exact ⟨0, by omega, rfl, ⟨rfl, Or.inl ⟨rfl, rfl⟩⟩, Below.refl _ _⟩
  case round =>
    obtain ⟨k, hk, rfl, hrow, hB⟩ := hrel
    by_cases hlt : k < n
    · have hlt' : (k : Int) < n := by omega
      have hG : G < w.heap.size := by
        unfold World.cell? at c0
        split at c0
        · rename_i heq; exact (Array.getElem?_eq_some_iff.1 heq).1
        · cases c0
      have hc1 := (hB.cell (p := ⟨G, 1 + k / 8, none⟩) hG).trans (HG.out.2.2.2.2.2.1 k hlt)
      have hby := cell_byte l (k / 8) (7 - k % 8) (k % 8) (by omega)
      rw [show 8 * (k / 8) + k % 8 = k by omega] at hby
      obtain ⟨q, hq⟩ : ∃ q, k / 8 = q := ⟨_, rfl⟩
      obtain ⟨r, hr⟩ : ∃ r, k % 8 = r := ⟨_, rfl⟩
      obtain ⟨s, hs⟩ : ∃ s, 8 * (7 - r) = s := ⟨_, rfl⟩
      have hr8 : r < 8 := by omega
      rw [hr, hs] at hby
      rw [hq] at hc1 hby
      have hqm : 1 + q < m := by have := HG.out.2.2.2.2.2.2; omega
      have hq' : (k : Int) / 8 = (q : Int) := by omega
      have hr' : (k : Int) % 8 = (r : Int) := by omega
      have hs' : 8 * (7 - (r : Int)) = (s : Int) := by omega
      have hx := cell_lt l q 8 (Nat.le_refl _)
      generalize cell l q 8 = x at *
      have HI := Lib.hid (And.intro hrow (And.intro hB hby))
      have hs56 : s ≤ 56 := by omega
      clear hrow hB hby hq hr hs
      go_wp2_with (at_builtin; refine wpList_append_own_at _ rfl _ _ 169 rfl w.heap.size 5 i0 (.int .u8 0) 1 1 Tryz.underlying169 hi hz0 hz1 hz2 rfl (by decide) _ _ _ rfl (HI.out.1.alloc _) ⟨wr.heap.size, 0, none⟩ 1 1 [.int .u8 (byteAt l k : Nat)] rfl rfl ?c1 ?c2 ?c3 ?c4 ?c5 ?_)
      case c1 =>
        rw [show ((x : Int) / 2 ^ s % 256) = ((byteAt l k : Nat) : Int) by rw [← HI.out.2.2]; push_cast; rfl]
        exact cell_one_new _ _ _
      case c2 => simp [Value.oneCell']
      case c3 => unfold maxLen; omega
      case c4 => omega
      case c5 => have := HI.out.2.1.size; simp; omega
      intro v' w1 hown hgrow _ hat
      have hBW := HI.out.2.1.size
      have hbA : Below w.heap.size wr w1 := ((Below.refl _ wr).mono hBW |>.alloc hBW (.cells #[.int .u8 ((x : Int) / 2 ^ s % 256)] 5)).grown hgrow (by simp; omega) (fun k e => (HI.out.1.lt k e).1)
      have hbv : bV l k ++ [.int .u8 (byteAt l k : Nat)] = bV l (k + 1) := by simp [bV, List.range_succ]
      rw [hbv] at hown
      have HW := Lib.hid (And.intro hown (HI.out.2.1.trans hbA))
      clear hown hgrow hat hBW hbA hbv
      go_wp2_with fail
      go_roundw
      case rel => exact ⟨k + 1, by omega, by simp, HW.out⟩
      case measure => simp [intOf]; omega
    · obtain rfl : k = n := by omega
      have hcv : (convert 169 9 u4).run Tryz.prog wr = .ok (SV l) wr := conv_back (by rw [HG.out.2.2.2.1]; exact hrow)
      have HI := Lib.hid hB
      clear hrow hB
      go_wp2_with fail
      refine (HG.out.2.1 wr).mono ?_
      rintro e w2 ⟨v2, rfl, hr2, hb2⟩
      have hr1 := (HG.out.2.2.1.below HI.out).below hb2
      have heq := words_equal hr2 hr1 (by rw [HG.out.2.2.2.2.1]; omega)
      rw [HG.out.2.2.2.2.1] at heq
      have HE := Lib.hid (And.intro heq (HI.out.trans (hb2.mono HI.out.size)))
      clear hr2 hr1 hb2 heq
      go_wp2_with fail
      refine HE.out.1.mono ?_
      rintro e w3 ⟨rfl, q, rfl⟩
      go_wp2_with fail
      go_ret2
      exact ⟨rfl, HE.out.2.trans ⟨rfl, rfl, rfl, Nat.le_refl _, fun _ _ => rfl⟩⟩
end Go.Proofs.YtoaabbnieakidaaGreatDoorR
