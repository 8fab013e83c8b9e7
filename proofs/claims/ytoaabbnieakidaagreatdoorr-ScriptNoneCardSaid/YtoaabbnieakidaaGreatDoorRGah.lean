/- The heap's heads: the iterator's contract. -/
import Derived.Test.YtoaabbnieakidaaGreatDoorRGaf
namespace Go.Proofs.YtoaabbnieakidaaGreatDoorR
open Go.RowKit Go.BigFrame Go.Maps Go.WideMaps Lf
open Go.Shelf
attribute [local go_sem] Oper.semAt_some

/-- what a loop's body may turn: boxes of Z, and what is no cells from n on -/
structure KpZ (n : Nat) (Z : Nat → Prop) (W W' : World) : Prop where
  size : W.heap.size ≤ W'.heap.size
  block : ∀ (k : Nat) (o : Obj), ¬ Z k → W.heap[k]? = some o → (k < n ∨ o.isCells = true) → W'.heap[k]? = some o
theorem grown_of_below {A B : World} (h : Below A.heap.size A B) : A.grownBy B none := ⟨h.os, h.tape, h.output, h.size, fun k hk _ => h.block k hk⟩
theorem KpZ.refl (n : Nat) (Z : Nat → Prop) (W : World) : KpZ n Z W W := ⟨Nat.le_refl _, fun _ _ _ h _ => h⟩
theorem KpZ.trans {n : Nat} {Z : Nat → Prop} {A B C : World} (h : KpZ n Z A B) (k : KpZ n Z B C) : KpZ n Z A C :=
  ⟨Nat.le_trans h.size k.size, fun i o hz ho hc => k.block i o hz (h.block i o hz ho hc) hc⟩
theorem KpZ.of_below {n : Nat} {Z : Nat → Prop} {A B : World} (h : Below A.heap.size A B) : KpZ n Z A B :=
  ⟨h.size, fun i _ _ ho _ => (h.block i (Array.getElem?_eq_some_iff.1 ho).1).trans ho⟩
theorem KpZ.setCell {n : Nat} {Z : Nat → Prop} {W : World} {b i : Nat} (hz : Z b) (v : Value) : KpZ n Z W (W.setCell ⟨b, i, none⟩ v) :=
  ⟨by rw [size_setCell]; exact Nat.le_refl _, fun k _ hk ho _ => (heap_setCell_ne (fun e => hk (by rw [e]; exact hz))).trans ho⟩
theorem KpZ.put {n : Nat} {Z : Nat → Prop} (W : World) (l : Nat) (o o' : Obj) (hl : n ≤ l) (ho : W.heap[l]? = some o) (hc : o.isCells = false) (_ : o.isWalk = false) : KpZ n Z W (W.putObj l o') :=
  ⟨by simp, fun k o1 _ h1 h2 => by
    by_cases e : k = l
    · subst e
      rw [ho] at h1
      injection h1 with h1
      subst h1
      rcases h2 with h2 | h2
      · omega
      · rw [hc] at h2; cases h2
    · exact (World.putObj_heap_other e).trans h1⟩
theorem KpZ.cell {n : Nat} {Z : Nat → Prop} {W W' : World} (h : KpZ n Z W W') {a : Addr} {v : Value} (hz : ¬ Z a.block) (hc : W.cell? a = some v) : W'.cell? a = some v := by
  have : ∃ cs t fr, W.heap[a.block]? = some (.cells cs t fr) := by
    unfold World.cell? at hc
    split at hc
    · rename_i c t fr heq; exact ⟨_, _, _, heq⟩
    · cases hc
  obtain ⟨cs, t, fr, hb⟩ := this
  have hb' := h.block a.block _ hz hb (Or.inr rfl)
  rw [← hc]
  exact World.cell?_of_block (hb'.trans hb.symm)
/-- a heap stays where the body's boxes are of those that it does not own -/
theorem HeapOn.kp {w w' : World} {ph pa pm n : Nat} {s : Slab} {Y Z : Nat → Prop} (h : HeapOn w ph pa pm s Y) (hk : KpZ n Z w w') (hn : pm < n) (hz : ∀ k, Z k → Y k ∧ k ≠ ph ∧ k ≠ tabB) : HeapOn w' ph pa pm s Y := by
  obtain ⟨blk, hs⟩ := h.slab
  have c1 : ∀ {k : Nat} {cs : Array Value} {t : TypeId} {fr : Nat × Nat}, ¬ Z k → w.heap[k]? = some (.cells cs t fr) → w'.heap[k]? = some (.cells cs t fr) := fun hz hb => hk.block _ _ hz hb (Or.inr rfl)
  refine ⟨⟨blk, hs.wf, c1 (fun hh => hs.ya (hz _ hh).1) hs.hd, ?_, fun x hx => c1 (fun hh => hs.yp _ (keys_mem.2 ⟨_, hx⟩) (hz _ hh).1) (hs.pg x hx), hs.inj, hs.ya, hs.ym, hs.yp, fun k hkk => Nat.lt_of_lt_of_le (hs.yl k hkk) hk.size⟩, c1 (fun hh => (hz _ hh).2.1 rfl) h.hp, h.yh, ?_, h.yt⟩
  · obtain ⟨es, ck, hm⟩ := hs.map_block
    exact ownsMap_of_block hs.map ((hk.block pm _ (fun hh => hs.ym (hz _ hh).1) hm (Or.inl hn)).trans hm.symm)
  · intro j hj
    exact hk.cell (a := ⟨tabB, j, none⟩) (fun hh => (hz _ hh).2.2 rfl) (h.tab j hj)
theorem HeapOn.pm_lt {w : World} {ph pa pm : Nat} {s : Slab} {Y : Nat → Prop} (h : HeapOn w ph pa pm s Y) : pm < w.heap.size := by
  obtain ⟨blk, hs⟩ := h.slab
  exact hs.map.lt

/-- the heads among the first k pages, and the page that comes next at the least -/
def hTo (s : Slab) : Nat → List (Nat × Head) × Nat
  | 0 => ([], 0)
  | k + 1 =>
    if s.keys.getD k 0 < (hTo s k).2 then hTo s k
    else ((hTo s k).1 ++ [(s.keys.getD k 0, getH s (s.keys.getD k 0))], if (getH s (s.keys.getD k 0)).kind = 2 then s.keys.getD k 0 + (getH s (s.keys.getD k 0)).n else (hTo s k).2)
theorem headsFrom_snoc (s : Slab) (p : Nat) : ∀ (l : List Nat) (nx : Nat), headsFrom s nx (l ++ [p]) = headsFrom s nx l ++ headsFrom s (l.foldl (fun nx q => if q < nx then nx else if (getH s q).kind = 2 then q + (getH s q).n else nx) nx) [p]
  | [], nx => by show headsFrom s nx [p] = [] ++ headsFrom s nx [p]; rw [List.nil_append]
  | q :: l, nx => by
    simp only [List.cons_append, headsFrom, List.foldl_cons]
    by_cases h : q < nx
    · simp only [h, if_true]
      exact headsFrom_snoc s p l nx
    · simp only [h, if_false, List.cons_append]
      rw [headsFrom_snoc s p l]
      rfl
theorem hTo_eq (s : Slab) : ∀ k, k ≤ s.keys.length → hTo s k = (headsFrom s 0 (s.keys.take k), (s.keys.take k).foldl (fun nx q => if q < nx then nx else if (getH s q).kind = 2 then q + (getH s q).n else nx) 0)
  | 0, _ => by simp [hTo, headsFrom]
  | k + 1, h => by
    have ih := hTo_eq s k (by omega)
    have hk : s.keys.getD k 0 = s.keys[k] := by rw [List.getD_eq_getElem?_getD, List.getElem?_eq_getElem (by omega)]; rfl
    rw [List.take_succ_eq_append_getElem (by omega), headsFrom_snoc, List.foldl_append]
    unfold hTo
    rw [ih, hk]
    simp only [List.foldl_cons, List.foldl_nil, headsFrom]
    split
    · simp
    · rfl
theorem hTo_all (s : Slab) : (hTo s s.keys.length).1 = heads s := by
  rw [hTo_eq s _ (Nat.le_refl _), List.take_length]
  rfl
theorem hTo_length (s : Slab) : ∀ k, (hTo s k).1.length ≤ k
  | 0 => Nat.le_refl _
  | k + 1 => by
    have := hTo_length s k
    unfold hTo
    split
    · omega
    · simp; omega
theorem hTo_prefix (s : Slab) (k : Nat) : ∀ d, (hTo s k).1 <+: (hTo s (k + d)).1
  | 0 => List.prefix_refl _
  | d + 1 => by
    refine (hTo_prefix s k d).trans ?_
    show (hTo s (k + d)).1 <+: (hTo s (k + d + 1)).1
    conv => rhs; unfold hTo
    split
    · exact List.prefix_refl _
    · exact List.prefix_append _ _
theorem getH_lt {w : World} {ph pa pm : Nat} {s : Slab} {Y : Nat → Prop} (h : HeapOn w ph pa pm s Y) (p : Nat) : (getH s p).kind < 256 ∧ (getH s p).n < 72057594037927936 ∧ (getH s p).w < 18446744073709551616 := by
  have h1 := h.rd_lt (p * 64)
  have h2 := h.rd_lt (p * 64 + 1)
  exact ⟨Nat.mod_lt _ (by decide), by show s.rd (p * 64) / 256 < _; omega, h2⟩
theorem hTo_next {w : World} {ph pa pm : Nat} {s : Slab} {Y : Nat → Prop} (h : HeapOn w ph pa pm s Y) : ∀ k, k ≤ s.keys.length → (hTo s k).2 ≤ 72057594039000000
  | 0, _ => Nat.zero_le _
  | k + 1, hk => by
    have ih := hTo_next h k (by omega)
    have h1 := getH_lt h (s.keys.getD k 0)
    have h2 : s.keys.getD k 0 ≤ 1048575 := by
      rw [List.getD_eq_getElem?_getD, List.getElem?_eq_getElem (by omega)]
      exact h.wf.top _ (List.getElem_mem _)
    unfold hTo
    split
    · exact ih
    · simp only
      split
      · omega
      · exact ih
/-- a head as the loops' bodies are handed it: its numbers within their kinds -/
abbrev HeadX := { x : Nat × Head // x.1 ≤ 1048575 ∧ x.2.kind < 256 ∧ x.2.n < 72057594037927936 ∧ x.2.w < 18446744073709551616 }
abbrev encH (x : HeadX) : Array Value := #[.int .i64 x.1.1, headV x.1.2]
abbrev valsH (l : List HeadX) : List (Nat × Head) := l.map (·.1)
theorem HeapOn.pages {w : World} {ph pa pm : Nat} {s : Slab} {Y : Nat → Prop} (h : HeapOn w ph pa pm s Y) :
    Calls Tryz.prog 146 #[PV pa] w fun e w' => ∃ v, e = .returned v ∧ IntRow w' w.heap.size v s.keys ∧ Below w.heap.size w w' := by
  obtain ⟨blk, hs⟩ := h.slab
  exact slab_pages hs

set_option maxRecDepth 100000 in
set_option maxHeartbeats 1600000 in
theorem heads_stops {w : World} {ph pa pm : Nat} {s : Slab} {Y Z : Nat → Prop} (h : HeapOn w ph pa pm s Y) (hz : ∀ k, Z k → Y k ∧ k ≠ ph ∧ k ≠ tabB) (B : Nat) (hB : w.cell? ⟨B, 0, none⟩ = some (PV ph)) (hzB : ¬ Z B) :
    SeqStopsK Fence.wide 6 Tryz.prog 212 #[PV B] encH (KpZ w.heap.size Z) (fun xs => valsH xs = heads s) (fun pre => valsH pre <+: heads s) s.keys.length w := fun l J Jx W hW hJ hJx hY h0 => by
  have hH := h.below hW
  have hBl : B < w.heap.size := by
    unfold World.cell? at hB
    split at hB
    · rename_i heq; exact (Array.getElem?_eq_some_iff.1 heq).1
    · cases hB
  have hB1 : W.cell? ⟨B, 0, none⟩ = some (PV ph) := (hW.cell (p := ⟨B, 0, none⟩) hBl).trans hB
  have hpg : CallsIn Fence.wide 5 Tryz.prog 146 #[PV pa] W _ := callsIn_wide.2 hH.pages
  have c1 := hH.cell
  have hpm := h.pm_lt
  have HY := Lib.hid hY
  have hfP : Fence.wide.fn 146 := trivial
  have hfG : Fence.wide.fn 213 := trivial
  have HJ := Lib.hid (And.intro hJ hJx)
  have H0 := Lib.hid (And.intro hH (And.intro h0 (And.intro hz (And.intro hzB hB1))))
  clear hY hJ hJx hH h0 hz hzB h hB hW hBl
  refine callsIn_of_wp Tryz.func212 rfl trivial ?_ rfl
  simp only [Tryz.ntmps212, List.size_toArray, List.length_cons, List.length_nil, Nat.reduceAdd, Nat.reduceSub, Array.replicate_succ, Array.replicate_zero, List.push_toArray, List.append_toArray, List.nil_append, List.cons_append]
  gi_wp2_with (gi_at_call 146; refine hpg.mono ?_; rintro e w1 ⟨v, rfl, ⟨A, c, rfl, hrow⟩, hb1⟩)
  have HR := Lib.hid (And.intro hrow (And.intro hb1 (H0.out.1.below hb1)))
  clear hrow hb1 c1
  gi_loopw [3, 5, 13] (fun nx _ i wr => ∃ k : Nat, k ≤ s.keys.length ∧ i = .int .i64 k ∧ nx = .int .i64 (hTo s k).2 ∧ Hid (KpZ w.heap.size Z w1 wr ∧ ∃ pX, valsH pX = (hTo s k).1 ∧ J pX wr)) (fun _ _ i _ => s.keys.length - (intOf i).toNat)
  case atStart => exact ⟨0, by omega, rfl, rfl, KpZ.refl _ _ _, [], rfl, HJ.out.1 _ _ _ none H0.out.2.1 (grown_of_below HR.out.2.1) (fun r e => by cases e)⟩
  case round =>
    obtain ⟨k, hk, rfl, rfl, hin⟩ := hrel
    have hHr := HR.out.2.2.kp hin.out.1 hpm H0.out.2.2.1
    have hk4 : k ≤ 4096 := by
      have h1 := hHr.wf.room
      have h2 := hHr.wf.quota
      rw [keys_length] at hk
      omega
    by_cases hlt : k < s.keys.length
    · obtain ⟨b, o, rfl, hbW, hbl, hcr⟩ := HR.out.1 k hlt
      have hzb : ¬ Z b := fun hh => by
        have h1 := H0.out.1.yl _ (H0.out.2.2.1 _ hh).1
        omega
      have hcr := hin.out.1.cell (a := ⟨b, o + k, none⟩) hzb hcr
      have hcB := hin.out.1.cell (a := ⟨B, 0, none⟩) H0.out.2.2.2.1 ((HR.out.2.1.cell (p := ⟨B, 0, none⟩) (by
        have := H0.out.2.2.2.2
        unfold World.cell? at this
        split at this
        · rename_i heq; exact (Array.getElem?_eq_some_iff.1 heq).1
        · cases this)).trans H0.out.2.2.2.2)
      have hkd : s.keys.getD k 0 = s.keys[k] := by rw [List.getD_eq_getElem?_getD, List.getElem?_eq_getElem hlt]; rfl
      have hpt : s.keys[k] ≤ 1048575 := hHr.wf.top _ (List.getElem_mem _)
      have hnx := hTo_next hHr k (by omega)
      have hstep : hTo s (k + 1) = if s.keys[k] < (hTo s k).2 then hTo s k
          else ((hTo s k).1 ++ [(s.keys[k], getH s s.keys[k])], if (getH s s.keys[k]).kind = 2 then s.keys[k] + (getH s s.keys[k]).n else (hTo s k).2) := by
        conv => lhs; unfold hTo
        rw [hkd]
      have hlen := hTo_length s k
      have hkl : (k : Int) < s.keys.length := by omega
      have HK1 : Hid (k + 1 ≤ s.keys.length) := Lib.hid hlt
      obtain ⟨T, hT⟩ : ∃ T, hTo s k = T := ⟨_, rfl⟩
      obtain ⟨T', hT'⟩ : ∃ T', hTo s (k + 1) = T' := ⟨_, rfl⟩
      rw [hT] at hin hnx hstep hlen ⊢
      rw [hT'] at hstep
      have hgl := getH_lt hHr s.keys[k]
      have hget : CallsIn Fence.wide 5 Tryz.prog 213 #[PV ph, .int .i64 (s.keys[k] : Nat)] wr _ := callsIn_wide.2 (heap_get hHr s.keys[k] (by omega))
      generalize getH s s.keys[k] = x at *
      generalize s.keys[k] = p at *
      obtain ⟨pre, nx⟩ := T
      simp only at hin hnx hstep hlen ⊢
      have HS := Lib.hid (And.intro hT' (And.intro hstep hHr))
      clear hT hT' hstep hHr hkd
      by_cases hsk : p < nx
      · have hTe : T' = (pre, nx) := by rw [HS.out.2.1, if_pos hsk]
        gi_wp2_with fail
        go_roundw
        case rel => exact ⟨k + 1, HK1.out, by go_num, by rw [HS.out.1, hTe], by rw [HS.out.1, hTe]; exact hin⟩
        case measure => have := HK1.out; simp [intOf]; omega
      · gi_wp2_with fail
        refine hget.mono ?_
        rintro e w2 ⟨rfl, hb2⟩
        obtain ⟨w3, hw3⟩ : ∃ w3, w2.alloc (.cells #[.int .i64 x.kind, .int .i64 x.n, .int .u64 x.w] 262) = w3 := ⟨_, rfl⟩
        have hb3 : Below wr.heap.size wr w3 := by rw [← hw3]; exact hb2.alloc hb2.size _
        obtain ⟨pX, hpX, hJX⟩ := hin.out.2
        have hJ3 := HJ.out.1 _ _ _ none hJX (grown_of_below hb3) (fun r e => by cases e)
        have hpXl : pX.length = pre.length := by rw [← hpX]; exact (List.length_map _).symm
        obtain ⟨xX, hxX⟩ : ∃ xX : HeadX, xX.1 = (p, x) := ⟨⟨(p, x), hpt, hgl⟩, rfl⟩
        obtain ⟨fn, tmps, assign, body, hy, hRd⟩ := HY.out pX xX w3 hJ3 (by have := HK1.out; omega)
        have hpX2 : valsH (pX ++ [xX]) = pre ++ [(p, x)] := by show (pX ++ [xX]).map (·.1) = _; rw [List.map_append, show pX.map (·.1) = pre from hpX]; simp [hxX]
        have HPX := Lib.hid hpX2
        clear hpX2 hpX hpXl hJX
        dsimp only [encH] at hy
        rw [hxX] at hy
        obtain ⟨kd, xn, xw⟩ := x
        dsimp only [headV] at hy
        simp only at hgl hw3
        clear hxX
        by_cases hk2 : kd = 2
        · subst hk2
          have hTe : T' = (pre ++ [(p, ⟨2, xn, xw⟩)], p + xn) := by rw [HS.out.2.1, if_neg hsk, if_pos rfl]
          rw [show ((2 : Nat) : Int) = 2 from rfl] at hw3 hy
          rw [← hw3] at hy hRd
          have H3 := Lib.hid hb3
          rw [← hw3] at H3
          clear hb3 hb2 hJ3 hw3
          simp only [headV]
          gi_wp2_with fail
          refine hRd.mono ?_
          rintro e w4 (⟨rfl, hJ4, hk4'⟩ | ⟨rfl, hJx4⟩)
          · have H4 := Lib.hid (And.intro (hin.out.1.trans ((KpZ.of_below H3.out).trans hk4')) hJ4)
            clear hJ4 hk4' hy hRd
            gi_wp2_with fail
            go_roundw
            case rel => exact ⟨k + 1, HK1.out, by go_num, by rw [HS.out.1, hTe]; go_num, by rw [HS.out.1, hTe]; exact ⟨H4.out.1, _, HPX.out, H4.out.2⟩⟩
            case measure => have := HK1.out; simp [intOf]; omega
          · have H4 := Lib.hid hJx4
            have hpre : pre ++ [(p, ⟨2, xn, xw⟩)] <+: heads s := by
              rw [← hTo_all, show pre ++ [(p, ⟨2, xn, xw⟩)] = (hTo s (k + 1)).1 by rw [HS.out.1, hTe]]
              obtain ⟨d, hd⟩ : ∃ d, s.keys.length = k + 1 + d := ⟨s.keys.length - (k + 1), by have := HK1.out; omega⟩
              rw [hd]
              exact hTo_prefix s (k + 1) d
            clear hJx4 hy hRd
            gi_wp2_with fail
            refine bodyPost_ret (results_none rfl _ _ _) rfl ?_
            exact ⟨⟨_, rfl⟩, .inr ⟨_, by rw [HPX.out]; exact hpre, H4.out⟩⟩
        · have hkb : ((kd : Int) == 2) = false := by simp; omega
          have hTe : T' = (pre ++ [(p, ⟨kd, xn, xw⟩)], nx) := by rw [HS.out.2.1, if_neg hsk, if_neg hk2]
          have HK2 := Lib.hid hk2
          clear hk2
          rw [← hw3] at hy hRd
          have H3 := Lib.hid hb3
          rw [← hw3] at H3
          clear hb3 hb2 hJ3 hw3
          simp only [headV]
          gi_wp2_with fail
          refine hRd.mono ?_
          rintro e w4 (⟨rfl, hJ4, hk4'⟩ | ⟨rfl, hJx4⟩)
          · have H4 := Lib.hid (And.intro (hin.out.1.trans ((KpZ.of_below H3.out).trans hk4')) hJ4)
            clear hJ4 hk4' hy hRd
            gi_wp2_with fail
            go_roundw
            case rel => exact ⟨k + 1, HK1.out, by go_num, by rw [HS.out.1, hTe], by rw [HS.out.1, hTe]; exact ⟨H4.out.1, _, HPX.out, H4.out.2⟩⟩
            case measure => have := HK1.out; simp [intOf]; omega
          · have H4 := Lib.hid hJx4
            have hpre : pre ++ [(p, ⟨kd, xn, xw⟩)] <+: heads s := by
              rw [← hTo_all, show pre ++ [(p, ⟨kd, xn, xw⟩)] = (hTo s (k + 1)).1 by rw [HS.out.1, hTe]]
              obtain ⟨d, hd⟩ : ∃ d, s.keys.length = k + 1 + d := ⟨s.keys.length - (k + 1), by have := HK1.out; omega⟩
              rw [hd]
              exact hTo_prefix s (k + 1) d
            clear hJx4 hy hRd
            gi_wp2_with fail
            refine bodyPost_ret (results_none rfl _ _ _) rfl ?_
            exact ⟨⟨_, rfl⟩, .inr ⟨_, by rw [HPX.out]; exact hpre, H4.out⟩⟩
    · obtain rfl : k = s.keys.length := by omega
      gi_wp2
      go_end0
      obtain ⟨pX, hpX, hJX⟩ := hin.out.2
      rw [hTo_all] at hpX
      exact ⟨⟨_, rfl⟩, .inl ⟨_, hpX, hJX⟩⟩
end Go.Proofs.YtoaabbnieakidaaGreatDoorR
