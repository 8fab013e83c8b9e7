import Derived.Test.YtcibkdbpicledaaGreatDoorWaf
set_option maxRecDepth 100000
set_option maxHeartbeats 1600000
namespace Go.Proofs.YtcibkdbpicledaaGreatDoor
open Go.RowKit Go.BigFrame Go.Maps Go.WideMaps Lf
open Go.Shelf
attribute [local go_sem] Oper.semAt_some
structure KpZ (n : Nat) (Z : Nat → Prop) (W W' : World) : Prop where
 size : W.heap.size ≤ W'.heap.size
 block : ∀ (k : Nat) (o : Obj), ¬ Z k → W.heap[k]? = some o → (k < n ∨ o.isCells = true) → W'.heap[k]? = some o
theorem grown_of_below {A B : World} (h : Below A.heap.size A B) : A.grownBy B none := ⟨h.os, h.tape, h.output, h.size, fun k hk _ => h.block k hk⟩
theorem KpZ.refl (n : Nat) (Z : Nat → Prop) (W : World) : KpZ n Z W W := ⟨Nat.le_refl _, fun _ _ _ h _ => h⟩
theorem KpZ.trans {n : Nat} {Z : Nat → Prop} {A B C : World} (h : KpZ n Z A B) (k : KpZ n Z B C) : KpZ n Z A C :=
 ⟨Nat.le_trans h.size k.size, fun i o hz ho hc => k.block i o hz (h.block i o hz ho hc) hc⟩
theorem KpZ.of_below {n : Nat} {Z : Nat → Prop} {A B : World} (h : Below A.heap.size A B) : KpZ n Z A B :=
 ⟨h.size, fun i _ _ ho _ => (h.block i (gl ho)).trans ho⟩
theorem KpZ.put {n : Nat} {Z : Nat → Prop} (W : World) (l : Nat) (o o' : Obj) (hl : n ≤ l) (ho : W.heap[l]? = some o) (hc : o.isCells = false) (_ : o.isWalk = false) : KpZ n Z W (W.putObj l o') :=
 ⟨by simp, fun k o1 _ h1 h2 => by
  by_cases e : k = l
  · subst e
    rw [ho] at h1
    injection h1 with h1
    subst h1
    rcases h2 with h2 | h2
    · omega
    · rw [hc] at h2; cases h2
  · exact (World.putObj_heap_other e).trans h1⟩
theorem KpZ.cell {n : Nat} {Z : Nat → Prop} {W W' : World} (h : KpZ n Z W W') {a : Addr} {v : Value} (hz : ¬ Z a.block) (hc : W.cell? a = some v) : W'.cell? a = some v := by
 have : ∃ cs t fr, W.heap[a.block]? = some (.cells cs t fr) := by
  unfold World.cell? at hc
  split at hc
  · rename_i c t fr heq; exact ⟨_, _, _, heq⟩
  · cases hc
 obtain ⟨cs, t, fr, hb⟩ := this
 have hb' := h.block a.block _ hz hb (Or.inr rfl)
 rw [← hc]
 exact World.cell?_of_block (hb'.trans hb.symm)
theorem HeapOn.kp {w w' : World} {ph pa pm n : Nat} {s : Slab} {Y Z : Nat → Prop} (h : HeapOn w ph pa pm s Y) (hk : KpZ n Z w w') (hn : pm < n) (hz : ∀ k, Z k → Y k ∧ k ≠ ph ∧ k ≠ tabB) : HeapOn w' ph pa pm s Y := by
 obtain ⟨blk, hs⟩ := h.slab
 have c1 : ∀ {k : Nat} {cs : Array Value} {t : TypeId} {fr : Nat × Nat}, ¬ Z k → w.heap[k]? = some (.cells cs t fr) → w'.heap[k]? = some (.cells cs t fr) := fun hz hb => hk.block _ _ hz hb (Or.inr rfl)
 refine ⟨⟨blk, hs.wf, c1 (fun hh => hs.ya (hz _ hh).1) hs.hd, ?_, fun x hx => c1 (fun hh => hs.yp _ (keys_mem.2 ⟨_, hx⟩) (hz _ hh).1) (hs.pg x hx), hs.inj, hs.ya, hs.ym, hs.yp, fun k hkk => Nat.lt_of_lt_of_le (hs.yl k hkk) hk.size⟩, c1 (fun hh => (hz _ hh).2.1 rfl) h.hp, h.yh, ?_, h.yt⟩
 · obtain ⟨es, ck, hm⟩ := hs.map_block
   exact ownsMap_of_block hs.map ((hk.block pm _ (fun hh => hs.ym (hz _ hh).1) hm (Or.inl hn)).trans hm.symm)
 · intro j hj
   exact hk.cell (a := ⟨tabB, j, none⟩) (fun hh => (hz _ hh).2.2 rfl) (h.tab j hj)
theorem HeapOn.pm_lt {w : World} {ph pa pm : Nat} {s : Slab} {Y : Nat → Prop} (h : HeapOn w ph pa pm s Y) : pm < w.heap.size := by
 obtain ⟨blk, hs⟩ := h.slab
 exact hs.map.lt
def hTo (s : Slab) : Nat → List (Nat × Head) × Nat
 | 0 => ([], 0)
 | k + 1 =>
  if s.keys.getD k 0 < (hTo s k).2 then hTo s k
  else ((hTo s k).1 ++ [(s.keys.getD k 0, getH s (s.keys.getD k 0))], if (getH s (s.keys.getD k 0)).kind = 2 then s.keys.getD k 0 + (getH s (s.keys.getD k 0)).n else (hTo s k).2)
theorem headsFrom_snoc (s : Slab) (p : Nat) : ∀ (l : List Nat) (nx : Nat), headsFrom s nx (l ++ [p]) = headsFrom s nx l ++ headsFrom s (l.foldl (fun nx q => if q < nx then nx else if (getH s q).kind = 2 then q + (getH s q).n else nx) nx) [p]
 | [], nx => by show headsFrom s nx [p] = [] ++ headsFrom s nx [p]; rw [List.nil_append]
 | q :: l, nx => by
  simp only [List.cons_append, headsFrom, List.foldl_cons]
  by_cases h : q < nx
  · simp only [h, if_true]
    exact headsFrom_snoc s p l nx
  · simp only [h, if_false, List.cons_append]
    rw [headsFrom_snoc s p l]
    rfl
theorem hTo_eq (s : Slab) : ∀ k, k ≤ s.keys.length → hTo s k = (headsFrom s 0 (s.keys.take k), (s.keys.take k).foldl (fun nx q => if q < nx then nx else if (getH s q).kind = 2 then q + (getH s q).n else nx) 0)
 | 0, _ => by simp [hTo, headsFrom]
 | k + 1, h => by
  have ih := hTo_eq s k (by omega)
  have hk : s.keys.getD k 0 = s.keys[k] := by rw [List.getD_eq_getElem?_getD, List.getElem?_eq_getElem (by omega)]; rfl
  rw [List.take_succ_eq_append_getElem (by omega), headsFrom_snoc, List.foldl_append]
  unfold hTo
  rw [ih, hk]
  simp only [List.foldl_cons, List.foldl_nil, headsFrom]
  split
  · simp
  · rfl
theorem hTo_all (s : Slab) : (hTo s s.keys.length).1 = heads s := by
 rw [hTo_eq s _ (Nat.le_refl _), List.take_length]
 rfl
theorem hTo_length (s : Slab) : ∀ k, (hTo s k).1.length ≤ k
 | 0 => Nat.le_refl _
 | k + 1 => by
  have := hTo_length s k
  unfold hTo
  split
  · omega
  · simp; omega
theorem hTo_prefix (s : Slab) (k : Nat) : ∀ d, (hTo s k).1 <+: (hTo s (k + d)).1
 | 0 => List.prefix_refl _
 | d + 1 => by
  refine (hTo_prefix s k d).trans ?_
  show (hTo s (k + d)).1 <+: (hTo s (k + d + 1)).1
  conv => rhs; unfold hTo
  split
  · exact List.prefix_refl _
  · exact List.prefix_append _ _
theorem getH_lt {w : World} {ph pa pm : Nat} {s : Slab} {Y : Nat → Prop} (h : HeapOn w ph pa pm s Y) (p : Nat) : (getH s p).kind < 256 ∧ (getH s p).n < 72057594037927936 ∧ (getH s p).w < 18446744073709551616 := by
 have h1 := h.rd_lt (p * 64)
 have h2 := h.rd_lt (p * 64 + 1)
 exact ⟨Nat.mod_lt _ (by decide), by show s.rd (p * 64) / 256 < _; omega, h2⟩
theorem hTo_next {w : World} {ph pa pm : Nat} {s : Slab} {Y : Nat → Prop} (h : HeapOn w ph pa pm s Y) : ∀ k, k ≤ s.keys.length → (hTo s k).2 ≤ 72057594039000000
 | 0, _ => Nat.zero_le _
 | k + 1, hk => by
  have ih := hTo_next h k (by omega)
  have h1 := getH_lt h (s.keys.getD k 0)
  have h2 : s.keys.getD k 0 ≤ 1048575 := by
   rw [List.getD_eq_getElem?_getD, List.getElem?_eq_getElem (by omega)]
   exact h.wf.top _ (List.getElem_mem _)
  unfold hTo
  split
  · exact ih
  · simp only
    split
    · omega
    · exact ih
abbrev HeadX := { x : Nat × Head // x.1 ≤ 1048575 ∧ x.2.kind < 256 ∧ x.2.n < 72057594037927936 ∧ x.2.w < 18446744073709551616 }
abbrev encH (x : HeadX) : Array Value := #[.int .i64 x.1.1, headV x.1.2]
abbrev valsH (l : List HeadX) : List (Nat × Head) := l.map (·.1)
theorem HeapOn.pages {w : World} {ph pa pm : Nat} {s : Slab} {Y : Nat → Prop} (h : HeapOn w ph pa pm s Y) :
 Calls Tryz.prog 132 #[PV pa] w fun e w' => ∃ v, e = .returned v ∧ IntRow w' w.heap.size v s.keys ∧ Below w.heap.size w w' := by
 obtain ⟨blk, hs⟩ := h.slab
 exact slab_pages hs
theorem heads_stops {w : World} {ph pa pm : Nat} {s : Slab} {Y Z : Nat → Prop} (h : HeapOn w ph pa pm s Y) (hz : ∀ k, Z k → Y k ∧ k ≠ ph ∧ k ≠ tabB) (B : Nat) (hB : w.cell? ⟨B, 0, none⟩ = some (PV ph)) (hzB : ¬ Z B) :
 SeqStopsK Fence.wide 6 Tryz.prog 151 #[PV B] encH (KpZ w.heap.size Z) (fun xs => valsH xs = heads s) (fun pre => valsH pre <+: heads s) s.keys.length w := fun l J Jx W hW hJ hJx hY h0 => by
 have hH := h.below hW
 have hBl : B < w.heap.size := by
  unfold World.cell? at hB
  split at hB
  · rename_i heq; exact (gl heq)
  · cases hB
 have hB1 : W.cell? ⟨B, 0, none⟩ = some (PV ph) := (hW.cell (p := ⟨B, 0, none⟩) hBl).trans hB
 have hpg : CallsIn Fence.wide 5 Tryz.prog 132 #[PV pa] W _ := callsIn_wide.2 hH.pages
 have c1 := hH.cell
 have hpm := h.pm_lt
 have HY := Lib.hid hY
 have hfP : Fence.wide.fn 132 := trivial
 have hfG : Fence.wide.fn 144 := trivial
 have HJ := kq2 hJ hJx
 have H0 := kq5 hH h0 hz hzB hB1
 clear hY hJ hJx hH h0 hz hzB h hB hW hBl
 refine callsIn_of_wp Tryz.func151 rfl trivial ?_ rfl
 simp only [Tryz.ntmps151, List.size_toArray, List.length_cons, List.length_nil, Nat.reduceAdd, Nat.reduceSub, Array.replicate_succ, Array.replicate_zero, List.push_toArray, List.append_toArray, List.nil_append, List.cons_append]
 gi_wp2_with (gi_at_call 132; refine hpg.mono ?_; rintro e w1 ⟨v, rfl, ⟨A, c, rfl, hrow⟩, hb1⟩)
 have HR := kq3 hrow hb1 (H0.out.1.below hb1)
 clear hrow hb1 c1
 gi_loopw [3, 5, 13] (fun nx _ i wr => ∃ k : Nat, k ≤ s.keys.length ∧ i = .int .i64 k ∧ nx = .int .i64 (hTo s k).2 ∧ Hid (KpZ w.heap.size Z w1 wr ∧ ∃ pX, valsH pX = (hTo s k).1 ∧ J pX wr)) (fun _ _ i _ => s.keys.length - (intOf i).toNat)
 case atStart => exact ⟨0, by omega, rfl, rfl, KpZ.refl _ _ _, [], rfl, HJ.out.1 _ _ _ none H0.out.2.1 (grown_of_below HR.out.2.1) (fun r e => by cases e)⟩
 case round =>
  obtain ⟨k, hk, rfl, rfl, hin⟩ := hrel
  have hHr := HR.out.2.2.kp hin.out.1 hpm H0.out.2.2.1
  have hk4 : k ≤ 4096 := by
   have h1 := hHr.wf.room
   have h2 := hHr.wf.quota
   rw [keys_length] at hk
   omega
  by_cases hlt : k < s.keys.length
  · obtain ⟨b, o, rfl, hbW, hbl, hcr⟩ := HR.out.1 k hlt
    have hzb : ¬ Z b := fun hh => by
     have h1 := H0.out.1.yl _ (H0.out.2.2.1 _ hh).1
     omega
    have hcr := hin.out.1.cell (a := ⟨b, o + k, none⟩) hzb hcr
    have hcB := hin.out.1.cell (a := ⟨B, 0, none⟩) H0.out.2.2.2.1 ((HR.out.2.1.cell (p := ⟨B, 0, none⟩) (by
     have := H0.out.2.2.2.2
     unfold World.cell? at this
     split at this
     · rename_i heq; exact (gl heq)
     · cases this)).trans H0.out.2.2.2.2)
    have hkd : s.keys.getD k 0 = s.keys[k] := by rw [List.getD_eq_getElem?_getD, List.getElem?_eq_getElem hlt]; rfl
    have hpt : s.keys[k] ≤ 1048575 := hHr.wf.top _ (List.getElem_mem _)
    have hnx := hTo_next hHr k (by omega)
    have hstep : hTo s (k + 1) = if s.keys[k] < (hTo s k).2 then hTo s k
     else ((hTo s k).1 ++ [(s.keys[k], getH s s.keys[k])], if (getH s s.keys[k]).kind = 2 then s.keys[k] + (getH s s.keys[k]).n else (hTo s k).2) := by
     conv => lhs; unfold hTo
     rw [hkd]
    have hlen := hTo_length s k
    have hkl : (k : Int) < s.keys.length := by omega
    have HK1 : Hid (k + 1 ≤ s.keys.length) := Lib.hid hlt
    obtain ⟨T, hT⟩ : ∃ T, hTo s k = T := ⟨_, rfl⟩
    obtain ⟨T', hT'⟩ : ∃ T', hTo s (k + 1) = T' := ⟨_, rfl⟩
    rw [hT] at hin hnx hstep hlen ⊢
    rw [hT'] at hstep
    have hgl := getH_lt hHr s.keys[k]
    have hget : CallsIn Fence.wide 5 Tryz.prog 144 #[PV ph, .int .i64 (s.keys[k] : Nat)] wr _ := callsIn_wide.2 (heap_get hHr s.keys[k] (by omega))
    generalize getH s s.keys[k] = x at *
    generalize s.keys[k] = p at *
    obtain ⟨pre, nx⟩ := T
    simp only at hin hnx hstep hlen ⊢
    have HS := kq3 hT' hstep hHr
    clear hT hT' hstep hHr hkd
    by_cases hsk : p < nx
    · have hTe : T' = (pre, nx) := by rw [HS.out.2.1, if_pos hsk]
      gi_wp2_with fail
      go_roundw
      case rel => exact ⟨k + 1, HK1.out, by go_num, by rw [HS.out.1, hTe], by rw [HS.out.1, hTe]; exact hin⟩
      case measure => have := HK1.out; simp [intOf]; omega
    · gi_wp2_with fail
      refine hget.mono ?_
      rintro e w2 ⟨rfl, hb2⟩
      obtain ⟨w3, hw3⟩ : ∃ w3, w2.alloc (.cells #[.int .i64 x.kind, .int .i64 x.n, .int .u64 x.w] 196) = w3 := ⟨_, rfl⟩
      have hb3 : Below wr.heap.size wr w3 := by rw [← hw3]; exact hb2.alloc hb2.size _
      obtain ⟨pX, hpX, hJX⟩ := hin.out.2
      have hJ3 := HJ.out.1 _ _ _ none hJX (grown_of_below hb3) (fun r e => by cases e)
      have hpXl : pX.length = pre.length := by rw [← hpX]; exact (List.length_map _).symm
      obtain ⟨xX, hxX⟩ : ∃ xX : HeadX, xX.1 = (p, x) := ⟨⟨(p, x), hpt, hgl⟩, rfl⟩
      obtain ⟨fn, tmps, assign, body, hy, hRd⟩ := HY.out pX xX w3 hJ3 (by have := HK1.out; omega)
      have hpX2 : valsH (pX ++ [xX]) = pre ++ [(p, x)] := by show (pX ++ [xX]).map (·.1) = _; rw [List.map_append, show pX.map (·.1) = pre from hpX]; simp [hxX]
      have HPX := Lib.hid hpX2
      clear hpX2 hpX hpXl hJX
      dsimp only [encH] at hy
      rw [hxX] at hy
      obtain ⟨kd, xn, xw⟩ := x
      dsimp only [headV] at hy
      simp only at hgl hw3
      clear hxX
      by_cases hk2 : kd = 2
      · subst hk2
        have hTe : T' = (pre ++ [(p, ⟨2, xn, xw⟩)], p + xn) := by rw [HS.out.2.1, if_neg hsk, if_pos rfl]
        rw [show ((2 : Nat) : Int) = 2 from rfl] at hw3 hy
        rw [← hw3] at hy hRd
        have H3 := Lib.hid hb3
        rw [← hw3] at H3
        clear hb3 hb2 hJ3 hw3
        simp only [headV]
        gi_wp2_with fail
        refine hRd.mono ?_
        rintro e w4 (⟨rfl, hJ4, hk4'⟩ | ⟨rfl, hJx4⟩)
        · have H4 := kq2 (hin.out.1.trans ((KpZ.of_below H3.out).trans hk4')) hJ4
          clear hJ4 hk4' hy hRd
          gi_wp2_with fail
          go_roundw
          case rel => exact ⟨k + 1, HK1.out, by go_num, by rw [HS.out.1, hTe]; go_num, by rw [HS.out.1, hTe]; exact ⟨H4.out.1, _, HPX.out, H4.out.2⟩⟩
          case measure => have := HK1.out; simp [intOf]; omega
        · have H4 := Lib.hid hJx4
          have hpre : pre ++ [(p, ⟨2, xn, xw⟩)] <+: heads s := by
           rw [← hTo_all, show pre ++ [(p, ⟨2, xn, xw⟩)] = (hTo s (k + 1)).1 by rw [HS.out.1, hTe]]
           obtain ⟨d, hd⟩ : ∃ d, s.keys.length = k + 1 + d := ⟨s.keys.length - (k + 1), by have := HK1.out; omega⟩
           rw [hd]
           exact hTo_prefix s (k + 1) d
          clear hJx4 hy hRd
          gi_wp2_with fail
          refine bodyPost_ret (results_none rfl _ _ _) rfl ?_
          exact ⟨⟨_, rfl⟩, .inr ⟨_, by rw [HPX.out]; exact hpre, H4.out⟩⟩
      · have hkb : ((kd : Int) == 2) = false := by simp; omega
        have hTe : T' = (pre ++ [(p, ⟨kd, xn, xw⟩)], nx) := by rw [HS.out.2.1, if_neg hsk, if_neg hk2]
        have HK2 := Lib.hid hk2
        clear hk2
        rw [← hw3] at hy hRd
        have H3 := Lib.hid hb3
        rw [← hw3] at H3
        clear hb3 hb2 hJ3 hw3
        simp only [headV]
        gi_wp2_with fail
        refine hRd.mono ?_
        rintro e w4 (⟨rfl, hJ4, hk4'⟩ | ⟨rfl, hJx4⟩)
        · have H4 := kq2 (hin.out.1.trans ((KpZ.of_below H3.out).trans hk4')) hJ4
          clear hJ4 hk4' hy hRd
          gi_wp2_with fail
          go_roundw
          case rel => exact ⟨k + 1, HK1.out, by go_num, by rw [HS.out.1, hTe], by rw [HS.out.1, hTe]; exact ⟨H4.out.1, _, HPX.out, H4.out.2⟩⟩
          case measure => have := HK1.out; simp [intOf]; omega
        · have H4 := Lib.hid hJx4
          have hpre : pre ++ [(p, ⟨kd, xn, xw⟩)] <+: heads s := by
           rw [← hTo_all, show pre ++ [(p, ⟨kd, xn, xw⟩)] = (hTo s (k + 1)).1 by rw [HS.out.1, hTe]]
           obtain ⟨d, hd⟩ : ∃ d, s.keys.length = k + 1 + d := ⟨s.keys.length - (k + 1), by have := HK1.out; omega⟩
           rw [hd]
           exact hTo_prefix s (k + 1) d
          clear hJx4 hy hRd
          gi_wp2_with fail
          refine bodyPost_ret (results_none rfl _ _ _) rfl ?_
          exact ⟨⟨_, rfl⟩, .inr ⟨_, by rw [HPX.out]; exact hpre, H4.out⟩⟩
  · obtain rfl : k = s.keys.length := by omega
    gi_wp2
    go_end0
    obtain ⟨pX, hpX, hJX⟩ := hin.out.2
    rw [hTo_all] at hpX
    exact ⟨⟨_, rfl⟩, .inl ⟨_, hpX, hJX⟩⟩
attribute [local go_sem] Oper.semAt_some
theorem HeapOn.wide {w w' : World} {ph pa pm : Nat} {s : Slab} {Y : Nat → Prop} (h : HeapOn w ph pa pm s Y) (hb : Below w.heap.size w w') : HeapOn w' ph pa pm s (fun k => Y k ∨ (w.heap.size ≤ k ∧ k < w'.heap.size)) := by
 have h' := h.below hb
 obtain ⟨blk, hs⟩ := h.slab
 obtain ⟨blk', hs'⟩ := h'.slab
 have hpa := (gl hs.hd)
 have hs2 := hs.below hb
 refine ⟨⟨blk, hs2.wf, hs2.hd, hs2.map, hs2.pg, hs2.inj, ?_, ?_, ?_, ?_⟩, h'.hp, Or.inl h.yh, h'.tab, Or.inl h.yt⟩
 · rintro (k | k)
   · exact hs.ya k
   · omega
 · rintro (k | k)
   · exact hs.ym k
   · have := hs.map.lt; omega
 · rintro p hp (k | k)
   · exact hs.yp p hp k
   · obtain ⟨l, hl⟩ := keys_mem.1 hp
     have := (gl (hs.pg _ hl))
     simp only at this
     omega
 · rintro k (hk | hk)
   · have := hs.yl k hk; have := hb.size; omega
   · exact hk.2
theorem heads_any (ph : Nat) (w : World) :
 Calls Tryz.prog 128 #[PV ph] w fun e w' => e = .returned (.func (.func 151) #[] #[PV w.heap.size]) ∧ w' = w.alloc (.cells #[PV ph] 126) := by
 go_enter Tryz.func128, Tryz.ntmps128
 go_wp2
 go_ret
 exact ⟨rfl, rfl⟩
theorem spotIn_snoc (c : Nat) (x : Nat × Head) : ∀ q : List (Nat × Head), spotIn c q = none → spotIn c (q ++ [x]) = spotIn c [x]
 | [], _ => rfl
 | (p, y) :: q, h => by
  have h0 : spotIn c ((p, y) :: q ++ [x]) = if y.kind ≠ 1 ∨ y.n ≠ c then spotIn c (q ++ [x]) else match bitFree y.w (classSlots c) with | some k => some (p, k) | none => spotIn c (q ++ [x]) := rfl
  have h1 : spotIn c ((p, y) :: q) = if y.kind ≠ 1 ∨ y.n ≠ c then spotIn c q else match bitFree y.w (classSlots c) with | some k => some (p, k) | none => spotIn c q := rfl
  rw [h1] at h
  rw [h0]
  by_cases hc : y.kind ≠ 1 ∨ y.n ≠ c
  · rw [if_pos hc] at h ⊢
    exact spotIn_snoc c x q h
  · rw [if_neg hc] at h ⊢
    cases hb : bitFree y.w (classSlots c) with
    | some k => rw [hb] at h; cases h
    | none => rw [hb] at h; exact spotIn_snoc c x q h
theorem spotIn_some (c : Nat) (r : Nat × Nat) : ∀ q t : List (Nat × Head), spotIn c q = some r → spotIn c (q ++ t) = some r
 | (p, y) :: q, t, h => by
  have h0 : spotIn c ((p, y) :: q ++ t) = if y.kind ≠ 1 ∨ y.n ≠ c then spotIn c (q ++ t) else match bitFree y.w (classSlots c) with | some k => some (p, k) | none => spotIn c (q ++ t) := rfl
  have h1 : spotIn c ((p, y) :: q) = if y.kind ≠ 1 ∨ y.n ≠ c then spotIn c q else match bitFree y.w (classSlots c) with | some k => some (p, k) | none => spotIn c q := rfl
  rw [h1] at h
  rw [h0]
  by_cases hc : y.kind ≠ 1 ∨ y.n ≠ c
  · rw [if_pos hc] at h ⊢
    exact spotIn_some c r q t h
  · rw [if_neg hc] at h ⊢
    cases hb : bitFree y.w (classSlots c) with
    | some k => rw [hb] at h; exact h
    | none => rw [hb] at h; exact spotIn_some c r q t h
def spotV (r : Option (Nat × Nat)) : Value := match r with | some (p, k) => .tuple #[.int .i64 p, .int .i64 k, .bool true] | none => .tuple #[.int .i64 0, .int .i64 0, .bool false]
theorem classSlots_le (c : Nat) : classSlots c ≤ 31 := by
 unfold classSlots
 split
 · rename_i h
   have : ∀ c, c < 8 → 62 / sizes.getD c 1 ≤ 31 := by decide
   exact this c h
 · omega
theorem slotsRes_nat (c : Nat) : ∃ er : Nat, slotsRes c = (classSlots c, er) := by
 unfold slotsRes
 by_cases h : c < 8
 · rw [if_pos (by omega), Int.toNat_natCast]; exact ⟨_, rfl⟩
 · rw [if_neg (by omega)]
   refine ⟨2, ?_⟩
   unfold classSlots
   rw [if_neg h]
theorem heap_spot {w : World} {ph pa pm : Nat} {s : Slab} {Y : Nat → Prop} (h : HeapOn w ph pa pm s Y) (c : Nat) (hc : c ≤ 72057594037927936) :
 Calls Tryz.prog 115 #[PV ph, .int .i64 c] w fun e w' => e = .returned (spotV (spotH s c)) ∧ Below w.heap.size w w' := by
 refine (callsIn_wide (n := 7)).1 ?_
 have h1 : 1 ≤ 7 := by omega
 have hfS : Fence.wide.fn 129 := trivial
 have hfH : Fence.wide.fn 128 := trivial
 have hfF : Fence.wide.fn 143 := trivial
 obtain ⟨er, hsr⟩ := slotsRes_nat c
 have hsl : ∀ W, CallsIn Fence.wide 6 Tryz.prog 129 #[.int .i64 c] W _ := fun W => callsIn_wide.2 (class_slots c W)
 rw [hsr] at hsl
 have hhd : ∀ W, CallsIn Fence.wide 6 Tryz.prog 128 #[PV ph] W _ := fun W => callsIn_wide.2 (heads_any ph W)
 obtain ⟨R, hR⟩ : ∃ R, spotV (spotH s c) = R := ⟨_, rfl⟩
 rw [hR]
 have hcs := classSlots_le c
 obtain ⟨m, hm⟩ : ∃ m, classSlots c = m := ⟨_, rfl⟩
 rw [hm] at hsl hcs
 have HR := kq3 hR hm h
 clear hR hsr hm h
 refine callsIn_of_wp_marks Tryz.func115 rfl trivial ?_ rfl
 simp only [Tryz.ntmps115, List.size_toArray, List.length_cons, List.length_nil, Nat.reduceAdd, Nat.reduceSub, Array.replicate_succ, Array.replicate_zero, List.push_toArray, List.append_toArray, List.nil_append, List.cons_append]
 have hb4 := below4 w (.cells #[.int .i64 c] 3) (.cells #[.int .i64 0] 3) (.cells #[.int .i64 0] 3) (.cells #[.bool false] 4)
 have c0 := (((Bx.new w (.int .i64 c) 3).alloc (.cells #[.int .i64 0] 3)).alloc (.cells #[.int .i64 0] 3)).alloc (.cells #[.bool false] 4)
 have c1 := ((Bx.new (w.alloc (.cells #[.int .i64 c] 3)) (.int .i64 0) 3).alloc (.cells #[.int .i64 0] 3)).alloc (.cells #[.bool false] 4)
 have c2 := (Bx.new ((w.alloc (.cells #[.int .i64 c] 3)).alloc (.cells #[.int .i64 0] 3)) (.int .i64 0) 3).alloc (.cells #[.bool false] 4)
 have c3 := Bx.new (((w.alloc (.cells #[.int .i64 c] 3)).alloc (.cells #[.int .i64 0] 3)).alloc (.cells #[.int .i64 0] 3)) (.bool false) 4
 simp only [World.size_alloc] at c1 c2 c3
 have hz4 : ((((w.alloc (.cells #[.int .i64 c] 3)).alloc (.cells #[.int .i64 0] 3)).alloc (.cells #[.int .i64 0] 3)).alloc (.cells #[.bool false] 4)).heap.size = w.heap.size + 1 + 1 + 1 + 1 := by simp
 gi_wp2_with fail
 generalize ((((w.alloc (.cells #[.int .i64 c] 3)).alloc (.cells #[.int .i64 0] 3)).alloc (.cells #[.int .i64 0] 3)).alloc (.cells #[.bool false] 4)) = w4 at *
 refine (hsl w4).mono ?_
 rintro e w5 ⟨rfl, hb5⟩
 have H5 := kq6 hb5 c0 c1 c2 c3 hb4
 clear hb5 c0 c1 c2 c3 hb4
 gi_wp2_with fail
 refine (hhd _).mono ?_
 rintro e w7 ⟨rfl, rfl⟩
 gi_wp2_with fail
 have hsz5 := H5.out.1.size
 have b5 : ∀ {b : Nat} {v : Value}, Bx w4 b v → Bx ((w5.alloc (.cells #[.int .i64 m] 3)).alloc (.cells #[PV ph] 126)) b v := fun {b v} hb => by
  have hlt : b < w4.heap.size := by
   have := hb.1
   unfold World.cell? at this
   split at this
   · rename_i heq; exact (gl heq)
   · cases this
  exact ((hb.below H5.out.1 hlt).alloc _).alloc _
 have c4 := (Bx.new w5 (.int .i64 m) 3).alloc (.cells #[PV ph] 126)
 have c5 := Bx.new (w5.alloc (.cells #[.int .i64 m] 3)) (PV ph) 126
 have hbW : Below w.heap.size w ((w5.alloc (.cells #[.int .i64 m] 3)).alloc (.cells #[PV ph] 126)) :=
  ((H5.out.2.2.2.2.2.trans (H5.out.1.mono (by omega))).alloc (by omega) _).alloc (by simp; omega) _
 have hszW : ((w5.alloc (.cells #[.int .i64 m] 3)).alloc (.cells #[PV ph] 126)).heap.size = w5.heap.size + 1 + 1 := by simp
 have C0 := b5 H5.out.2.1
 have C1 := b5 H5.out.2.2.1
 have C2 := b5 H5.out.2.2.2.1
 have C3 := b5 H5.out.2.2.2.2.1
 simp only [World.size_alloc] at c5
 clear b5
 generalize ((w5.alloc (.cells #[.int .i64 m] 3)).alloc (.cells #[PV ph] 126)) = W0 at *
 have hW := HR.out.2.2.wide hbW
 have hT0 := hW.tab
 refine wpIn_rangeFunc_ownH rfl h1 (gf := 151) (lb := #[PV (w5.heap.size + 1)]) rfl trivial (enters_of Tryz.func151 (by kernel_rfl) rfl)
  (heads_stops hW (Z := fun k => k = w.heap.size + 1 ∨ k = w.heap.size + 1 + 1 ∨ k = w.heap.size + 1 + 1 + 1) (fun k hk => by
   have h1 := hW.yl _ hW.yh
   have h2 := HR.out.2.2.lt
   have h3 := HR.out.2.2.tab.lt
   refine ⟨Or.inr (by omega), by omega, ?_⟩
   show k ≠ 0
   omega) (w5.heap.size + 1) c5.1 (by omega)) KpZ.trans (fun W l o o' h1 h2 h3 h4 => KpZ.put W l o o' h1 h2 h3 h4) (Below.refl _ _) (fun _ => rfl)
  (fun pre W => (spotIn c (valsH pre) = none ∧ Bx W w.heap.size (.int .i64 c) ∧ Bx W (w.heap.size + 1) (.int .i64 0) ∧ Bx W (w.heap.size + 1 + 1) (.int .i64 0) ∧ Bx W (w.heap.size + 1 + 1 + 1) (.bool false) ∧ Bx W w5.heap.size (.int .i64 m)) ∧ Below w.heap.size w W)
  (fun cd pre W => (cd = .ret ∧ (∃ p k : Nat, spotIn c (valsH pre) = some (p, k) ∧ Bx W (w.heap.size + 1) (.int .i64 p) ∧ Bx W (w.heap.size + 1 + 1) (.int .i64 k)) ∧ Bx W (w.heap.size + 1 + 1 + 1) (.bool true)) ∧ Below w.heap.size w W)
  (OwnFrom.and (Own.from (fun s A B row hs hg hr => ⟨hs.1, hs.2.1.kept hg hr, hs.2.2.1.kept hg hr, hs.2.2.2.1.kept hg hr, hs.2.2.2.2.1.kept hg hr, hs.2.2.2.2.2.kept hg hr⟩) _) (ownFrom_below (Nat.le_refl _) (by omega)))
  (fun cd => OwnFrom.and (Own.from (fun s A B row hs hg hr => ⟨hs.1, (let ⟨p, k, k1, k2, k3⟩ := hs.2.1; ⟨p, k, k1, k2.kept hg hr, k3.kept hg hr⟩), hs.2.2.kept hg hr⟩) _) (ownFrom_below (Nat.le_refl _) (by omega)))
  ⟨⟨rfl, C0, C1, C2, C3, c4⟩, hbW⟩
  (fun x a' W => ∃ B, w5.heap.size < B ∧ W.heap[B]? = some (.cells #[.int .i64 x.1.2.kind, .int .i64 x.1.2.n, .int .u64 x.1.2.w] 196 (0, 0)) ∧ a' = { tmps := #[PV ph, .int .i64 c, undef, PV w.heap.size, PV (w.heap.size + 1), PV (w.heap.size + 1 + 1), PV (w.heap.size + 1 + 1 + 1), PV w5.heap.size, .int .i64 er, .int .i64 x.1.1, PV B, undef, .tuple #[.int .i64 m, .int .i64 er], .int .i64 c, .tuple #[.int .i64 m, .int .i64 er], .int .i64 m, .int .i64 er, PV ph, .func (.func 151) #[] #[PV (w5.heap.size + 1)], .int .i64 x.1.1, headV x.1.2, undef, undef, undef, undef, undef, undef, undef, undef, undef, undef, undef, undef, undef, undef, undef, undef, undef], defers := [] })
  (fun x a' _ X W' row hs hg hr => by
   obtain ⟨B, k1, k2, k3⟩ := hs
   refine ⟨B, k1, (hg.block B (gl k2) (fun e => ?_)).trans k2, k3⟩
   obtain ⟨_, o, ho, hcells⟩ := hr B e.symm
   rw [k2] at ho
   injection ho with ho
   rw [← ho] at hcells
   cases hcells)
  ?assign ?body ?done ?stop
 case assign =>
  rintro l pre ⟨⟨p, kd, xn, xw⟩, hx⟩ W K ⟨⟨i0, i1, i2, i3, i4, i5⟩, hB⟩ hK
  have HH := kq7 i0 i1 i2 i3 i4 i5 hB
  have HK := Lib.hid hK
  clear i0 i1 i2 i3 i4 i5 hB hK
  simp only [encH, headV]
  gi_wp2
  have hBl := HH.out.2.2.2.2.2.2
  refine HK.out _ _ ((KeepsOthers.alloc _ _).from _) (KpZ.of_below ((Below.refl _ W).alloc (Nat.le_refl _) _)) ⟨⟨HH.out.1, HH.out.2.1.alloc _, HH.out.2.2.1.alloc _, HH.out.2.2.2.1.alloc _, HH.out.2.2.2.2.1.alloc _, HH.out.2.2.2.2.2.1.alloc _⟩, hBl.alloc hBl.size _⟩ ⟨W.heap.size, ?_, ?_, rfl⟩
  · have := HH.out.2.2.2.2.2.1.1
    unfold World.cell? at this
    split at this
    · rename_i heq; exact (gl heq)
    · cases this
  · show (W.heap.push _)[W.heap.size]? = _
    simp
 case body =>
  rintro l pre ⟨⟨p, kd, xn, xw⟩, hx⟩ a' W hl _ ⟨⟨i0, i1, i2, i3, i4, i5⟩, hB⟩ ⟨B, hBl, hbx, rfl⟩ hlt
  simp only at hx hbx
  obtain ⟨hx1, hx2, hx3, hx4⟩ := hx
  have b0 : W.cell? ⟨B, 0, none⟩ = some (.int .i64 kd) := by rw [cell_of_block hbx]; rfl
  have b1 : W.cell? ⟨B, 1, none⟩ = some (.int .i64 xn) := by rw [cell_of_block hbx]; rfl
  have b2 : W.cell? ⟨B, 2, none⟩ = some (.int .u64 xw) := by rw [cell_of_block hbx]; rfl
  have k0 := i1.1
  have k5 := i5.1
  obtain ⟨k1, f1⟩ := id i2
  obtain ⟨k2, f2⟩ := id i3
  obtain ⟨k3, f3⟩ := id i4
  have hTW : Tab64 W := HR.out.2.2.tab.below hB (Nat.le_refl _)
  have hfree : CallsIn Fence.wide 4 Tryz.prog 143 #[.int .u64 xw, .int .i64 m] W _ := callsIn_wide.2 (bits_free xw m W hx4 (by omega) hTW)
  have HF := Lib.hid hfree
  have HH := kq7 i0 i1 i2 i3 i4 i5 hB
  have hsn := spotIn_snoc c (p, ⟨kd, xn, xw⟩) (valsH pre) i0
  have hv : ∀ (hx : _), valsH (pre ++ [(⟨(p, ⟨kd, xn, xw⟩), hx⟩ : HeadX)]) = valsH pre ++ [(p, ⟨kd, xn, xw⟩)] := fun hx => by
   show (pre ++ [(⟨(p, ⟨kd, xn, xw⟩), hx⟩ : HeadX)]).map (·.1) = _
   rw [List.map_append]
   rfl
  have hone : spotIn c [(p, ⟨kd, xn, xw⟩)] = if kd ≠ 1 ∨ xn ≠ c then none else match bitFree xw (classSlots c) with | some k => some (p, k) | none => none := rfl
  have HV := kq3 hsn @hv hone
  clear i0 i1 i2 i3 i4 i5 hB hfree hsn hv hone hTW hbx
  by_cases h1 : kd = 1 ∧ xn = c
  · obtain ⟨rfl, rfl⟩ := h1
    have hq : ((xn : Int) != xn) = false := by simp
    have hi : ∀ {b : Nat} {v : Value}, Bx W b v → b < W.heap.size := fun {b v} hb => by
     have := hb.1
     unfold World.cell? at this
     split at this
     · rename_i heq; exact (gl heq)
     · cases this
    have HI := kq5 (hi HH.out.2.1) (hi HH.out.2.2.1) (hi HH.out.2.2.2.1) (hi HH.out.2.2.2.2.1) (hi HH.out.2.2.2.2.2.1)
    clear hi k0 k5 k1 k2 k3 f1 f2 f3
    have k5 := HH.out.2.2.2.2.2.1.1
    have k0 := HH.out.2.1.1
    cases hbf : bitFree xw m with
    | none =>
     have hfr : freeI xw m = -1 := by unfold freeI; rw [hbf]
     have hno : spotIn xn [(p, ⟨1, xn, xw⟩)] = none := by rw [HV.out.2.2, if_neg (by omega), HR.out.2.1, hbf]
     rw [hfr] at HF
     have HFN : Hid (spotIn xn (valsH (pre ++ [(⟨(p, ⟨1, xn, xw⟩), ⟨hx1, hx2, hx3, hx4⟩⟩ : HeadX)])) = none) := Lib.hid (by rw [HV.out.2.1, HV.out.1, hno])
     clear hno hbf hfr
     gi_wp2_with fail
     refine (CallsIn.inRound l HF.out).mono ?_
     rintro e w2 ⟨rfl, hb2⟩
     have H2 := Lib.hid hb2
     clear hb2
     gi_wp2_with fail
     exact ⟨KeepsFrom.of_grownBy (grown_of_below H2.out) (fun j e => by cases e), KpZ.of_below H2.out, ⟨HFN.out, HH.out.2.1.below H2.out HI.out.1, HH.out.2.2.1.below H2.out HI.out.2.1, HH.out.2.2.2.1.below H2.out HI.out.2.2.1, HH.out.2.2.2.2.1.below H2.out HI.out.2.2.2.1, HH.out.2.2.2.2.2.1.below H2.out HI.out.2.2.2.2⟩, HH.out.2.2.2.2.2.2.trans (H2.out.mono HH.out.2.2.2.2.2.2.size)⟩
    | some k =>
     have hfr : freeI xw m = k := by unfold freeI; rw [hbf]
     have hno : spotIn xn [(p, ⟨1, xn, xw⟩)] = some (p, k) := by rw [HV.out.2.2, if_neg (by omega), HR.out.2.1, hbf]
     rw [hfr] at HF
     have HFN : Hid (spotIn xn (valsH (pre ++ [(⟨(p, ⟨1, xn, xw⟩), ⟨hx1, hx2, hx3, hx4⟩⟩ : HeadX)])) = some (p, k)) := Lib.hid (by rw [HV.out.2.1, HV.out.1, hno])
     clear hno hbf hfr
     gi_wp2_with fail
     refine (CallsIn.inRound l HF.out).mono ?_
     rintro e w2 ⟨rfl, hb2⟩
     have j1 := HH.out.2.2.1.below hb2 HI.out.2.1
     have j2 := HH.out.2.2.2.1.below hb2 HI.out.2.2.1
     have j3 := HH.out.2.2.2.2.1.below hb2 HI.out.2.2.2.1
     have H2 := kq4 hb2 j1 j2 j3
     obtain ⟨k1, f1⟩ := j1
     obtain ⟨k2, f2⟩ := j2
     obtain ⟨k3, f3⟩ := j3
     clear hb2
     gi_wp2_with fail
     exact ⟨(KeepsFrom.of_grownBy (grown_of_below H2.out.1) (fun j e => by cases e)).trans ((((KeepsOthers.setCell _ _ _).trans (KeepsOthers.setCell _ _ _)).trans (KeepsOthers.setCell _ _ _)).from _),
      ⟨rfl, ⟨p, k, HFN.out, ((H2.out.2.1.set _).other _ (by omega)).other _ (by omega), ((H2.out.2.2.1.other _ (by omega)).set _).other _ (by omega)⟩, ((H2.out.2.2.2.other _ (by omega)).other _ (by omega)).set _⟩,
      (((HH.out.2.2.2.2.2.2.trans (H2.out.1.mono HH.out.2.2.2.2.2.2.size)).setCell (p := ⟨w.heap.size + 1, 0, none⟩) (by simp) _).setCell (p := ⟨w.heap.size + 1 + 1, 0, none⟩) (by simp; omega) _).setCell (p := ⟨w.heap.size + 1 + 1 + 1, 0, none⟩) (by simp; omega) _⟩
  · have hno : spotIn c [(p, ⟨kd, xn, xw⟩)] = none := by rw [HV.out.2.2, if_pos (by omega)]
    have HN := Lib.hid hno
    have hd : ((kd : Int) != 1) = true ∨ (((kd : Int) != 1) = false ∧ ((xn : Int) != c) = true) := by
     by_cases e : kd = 1
     · refine Or.inr ⟨by rw [e]; rfl, ?_⟩
       have : ¬ xn = c := fun e2 => h1 ⟨e, e2⟩
       simp
       omega
     · exact Or.inl (by simp; omega)
    clear h1 hno
    have hfin : spotIn c (valsH (pre ++ [(⟨(p, ⟨kd, xn, xw⟩), ⟨hx1, hx2, hx3, hx4⟩⟩ : HeadX)])) = none := by rw [HV.out.2.1, HV.out.1, HN.out]
    have HFN := Lib.hid hfin
    clear hfin
    rcases hd with hd | ⟨hd, hd2⟩
    · gi_wp2_with fail
      exact ⟨KeepsFrom.refl _ _, KpZ.refl _ _ _, ⟨HFN.out, HH.out.2.1, HH.out.2.2.1, HH.out.2.2.2.1, HH.out.2.2.2.2.1, HH.out.2.2.2.2.2.1⟩, HH.out.2.2.2.2.2.2⟩
    · gi_wp2_with fail
      exact ⟨KeepsFrom.refl _ _, KpZ.refl _ _ _, ⟨HFN.out, HH.out.2.1, HH.out.2.2.1, HH.out.2.2.2.1, HH.out.2.2.2.2.1, HH.out.2.2.2.2.2.1⟩, HH.out.2.2.2.2.2.2⟩
 case done =>
  rintro D ys W hD hS ⟨⟨i0, i1, i2, i3, i4, i5⟩, hB⟩ hK
  obtain ⟨k1, f1⟩ := id i2
  obtain ⟨k2, f2⟩ := id i3
  obtain ⟨k3, f3⟩ := id i4
  have HH := kq4 i2 i3 i4 hB
  rw [hS] at i0
  have hRe : R = .tuple #[.int .i64 0, .int .i64 0, .bool false] := by
   rw [← HR.out.1]
   unfold spotH
   rw [i0]
   rfl
  clear i0 i1 i2 i3 i4 i5 hB hS
  gi_wp2
  have hK' := (((KeepsOthers.setCell W ⟨w.heap.size + 1, 0, none⟩ (.int .i64 0)).trans (KeepsOthers.setCell _ ⟨w.heap.size + 1 + 1, 0, none⟩ (.int .i64 0))).trans (KeepsOthers.setCell _ ⟨w.heap.size + 1 + 1 + 1, 0, none⟩ (.bool false))).same D _ hK rfl
  refine ⟨by simp, .inl ⟨_, _, rfl, run_takeDeferred hK', ?_⟩⟩
  have r1 := ((((HH.out.1.set (.int .i64 0)).other (.int .i64 0) (show w.heap.size + 1 ≠ w.heap.size + 1 + 1 by omega)).other (.bool false) (show w.heap.size + 1 ≠ w.heap.size + 1 + 1 + 1 by omega)).put (o' := .deferred none) hK' rfl).1
  have r2 := ((((HH.out.2.1.other (.int .i64 0) (show w.heap.size + 1 + 1 ≠ w.heap.size + 1 by omega)).set (.int .i64 0)).other (.bool false) (show w.heap.size + 1 + 1 ≠ w.heap.size + 1 + 1 + 1 by omega)).put (o' := .deferred none) hK' rfl).1
  have r3 := ((((HH.out.2.2.1.other (.int .i64 0) (show w.heap.size + 1 + 1 + 1 ≠ w.heap.size + 1 by omega)).other (.int .i64 0) (show w.heap.size + 1 + 1 + 1 ≠ w.heap.size + 1 + 1 by omega)).set (.bool false)).put (o' := .deferred none) hK' rfl).1
  subst hRe
  refine ⟨.tuple #[.int .i64 0, .int .i64 0, .bool false], ?_, rfl, (((HH.out.2.2.2.setCell (p := ⟨w.heap.size + 1, 0, none⟩) (by simp) _).setCell (p := ⟨w.heap.size + 1 + 1, 0, none⟩) (by simp; omega) _).setCell (p := ⟨w.heap.size + 1 + 1 + 1, 0, none⟩) (by simp; omega) _).trans (belowK_b (w := w) (Nat.le_refl _) _ D _ _ (by omega) hK' rfl rfl)⟩
  simp [results, Tryz.f115, go_sem, r1, r2, r3]
 case stop =>
  rintro D cd pre W hD hpre ⟨⟨rfl, ⟨p, k, hpk, hb1, hb2⟩, hb3⟩, hB⟩ hK
  obtain ⟨t, ht⟩ := hpre
  have hRe : R = .tuple #[.int .i64 p, .int .i64 k, .bool true] := by
   rw [← HR.out.1]
   unfold spotH
   rw [← ht, spotIn_some c (p, k) _ t hpk]
   rfl
  have HH := Lib.hid hB
  have r1 := (hb1.put (o' := .deferred none) hK rfl).1
  have r2 := (hb2.put (o' := .deferred none) hK rfl).1
  have r3 := (hb3.put (o' := .deferred none) hK rfl).1
  clear hpk ht hb1 hb2 hb3 hB
  subst hRe
  gi_wp2
  refine ⟨by simp, .inl ⟨_, _, rfl, run_takeDeferred hK, ?_⟩⟩
  refine ⟨.tuple #[.int .i64 p, .int .i64 k, .bool true], ?_, rfl, HH.out.trans (belowK_b (w := w) (Nat.le_refl _) W D _ _ (by omega) hK rfl rfl)⟩
  simp [results, Tryz.f115, go_sem, r1, r2, r3]
theorem sizeRes_nat (c : Nat) : ∃ er : Nat, sizeRes c = (classSize c, er) := by
 unfold sizeRes
 by_cases h : c < 8
 · rw [if_pos (by omega), Int.toNat_natCast]; exact ⟨_, rfl⟩
 · rw [if_neg (by omega)]
   refine ⟨2, ?_⟩
   unfold classSize
   rw [List.getD_eq_getElem?_getD, List.getElem?_eq_none (by simp [sizes]; omega)]
   rfl
theorem classSize_le (c : Nat) : classSize c ≤ 28 := by
 by_cases h : c < 8
 · have : ∀ c, c < 8 → classSize c ≤ 28 := by decide
   exact this c h
 · unfold classSize
   rw [List.getD_eq_getElem?_getD, List.getElem?_eq_none (by simp [sizes]; omega)]
   decide
theorem bitSet_lt {w k : Nat} (hw : w < 18446744073709551616) (hk : k < 64) : bitSet w k < 18446744073709551616 := Nat.or_lt_two_pow (n := 64) hw (pow_lt64 hk)
theorem heap_take {w : World} {ph pa pm : Nat} {s : Slab} {Y : Nat → Prop} (h : HeapOn w ph pa pm s Y) (p k : Nat) (hp : p ≤ 1048576) (hk : k < 64) :
 Calls Tryz.prog 116 #[PV ph, .int .i64 p, .int .i64 k] w fun e w' => e = .returned (.int .i64 ((takeH s p k).1 : Nat)) ∧ HeapOn w' ph pa pm (takeH s p k).2 Y ∧ Keep Y w w' := by
 have hgl := getH_lt h p
 have hget := heap_get h p hp
 have ht : takeH s p k = (placeH p (getH s p).n k, clearH (putH s p ⟨(getH s p).kind, (getH s p).n, bitSet (getH s p).w k⟩) (placeH p (getH s p).n k) (classSize (getH s p).n)) := rfl
 rw [ht]
 clear ht
 generalize getH s p = x at *
 obtain ⟨kd, xn, xw⟩ := x
 simp only at hgl hget ⊢
 obtain ⟨hg1, hg2, hg3⟩ := hgl
 have hset := fun W => bits_set xw k W hg3 hk
 have hbl := bitSet_lt hg3 hk
 obtain ⟨er, hse⟩ := sizeRes_nat xn
 have hsz := fun W => class_size xn W
 rw [hse] at hsz
 have hsl := classSize_le xn
 have hpl := fun W => heap_place p xn k W hp (by omega) (by omega)
 have hple : placeH p xn k ≤ 67108926 := by
  have := classPlace_le xn k
  unfold placeH
  omega
 have hput : ∀ W, HeapOn W ph pa pm s Y → _ := fun W hW => heap_put (hW.own (.cells #[.int .i64 kd, .int .i64 xn, .int .u64 (bitSet xw k : Nat)] 196)) p ⟨kd, xn, bitSet xw k⟩ hp hg1 hg2 hbl
 simp only [headV] at hget hput
 generalize bitSet xw k = bs at *
 generalize hz : classSize xn = z at *
 generalize hq : placeH p xn k = q at *
 generalize putH s p ⟨kd, xn, bs⟩ = s1 at *
 have HG := kq6 hget hset hsz hpl hput h
 clear hget hset hsz hpl hput h hse hz hq
 go_enter Tryz.func116, Tryz.ntmps116
 go_wp2_with fail
 refine HG.out.1.mono ?_
 rintro e w1 ⟨rfl, hb1⟩
 have H1 := kq2 (HG.out.2.2.2.2.2.below hb1) (HG.out.2.2.2.2.2.keep hb1)
 clear hb1
 go_wp2_with fail
 refine (HG.out.2.1 _).mono ?_
 rintro e w2 ⟨rfl, rfl⟩
 go_wp2_with fail
 refine (HG.out.2.2.2.2.1 w1 H1.out.1).mono ?_
 rintro e w3 ⟨rfl, h3, k3⟩
 have hnew : (w1.alloc (.cells #[.int .i64 kd, .int .i64 xn, .int .u64 (bs : Nat)] 196)).heap[w1.heap.size]? = some (.cells #[.int .i64 kd, .int .i64 xn, .int .u64 (bs : Nat)] 196 (0, 0)) := by
  show (w1.heap.push _)[w1.heap.size]? = _; simp
 have b1 : w3.cell? ⟨w1.heap.size, 1, none⟩ = some (.int .i64 xn) := by
  rw [k3.cell (p := ⟨w1.heap.size, 1, none⟩) (Or.inr rfl), cell_of_block hnew]; rfl
 have hka : Keep Y w1 (w1.alloc (.cells #[.int .i64 kd, .int .i64 xn, .int .u64 (bs : Nat)] 196)) := H1.out.1.keep ((Below.refl _ w1).alloc (Nat.le_refl _) _)
 have hlt3 : w1.heap.size < w3.heap.size := h3.yl _ (Or.inr rfl)
 have H3 := kq2 (h3.mono (fun k hk => Or.inl hk) HG.out.2.2.2.2.2.yh HG.out.2.2.2.2.2.yt) (H1.out.2.trans (hka.trans (k3.mono fun k hk => Or.inl hk)))
 clear h3 k3 hnew hka
 go_wp2_with fail
 refine (HG.out.2.2.1 _).mono ?_
 rintro e w4 ⟨rfl, hb4⟩
 have b1' : w4.cell? ⟨w1.heap.size, 1, none⟩ = some (.int .i64 xn) := (hb4.cell (p := ⟨w1.heap.size, 1, none⟩) hlt3).trans b1
 have H4 := kq2 (H3.out.1.below hb4) (H3.out.2.trans (H3.out.1.keep hb4))
 clear hb4 b1
 go_wp2_with fail
 refine (HG.out.2.2.2.1 _).mono ?_
 rintro e w5 ⟨rfl, hb5⟩
 have H5 := kq2 (H4.out.1.below hb5) (H4.out.2.trans (H4.out.1.keep hb5))
 clear hb5 b1'
 go_wp2_with fail
 refine (heap_clear H5.out.1 q z (by omega) (by omega)).mono ?_
 rintro e w6 ⟨rfl, h6, k6⟩
 have H6 := kq2 h6 (H5.out.2.trans k6)
 clear h6 k6
 go_wp2_with fail
 go_ret
 exact ⟨rfl, H6.out⟩
theorem mem_headsFrom {s : Slab} {y : Nat × Head} : ∀ (ks : List Nat) (nx : Nat), y ∈ headsFrom s nx ks → y.1 ∈ ks ∧ y.2 = getH s y.1
 | [], _, h => by simp [headsFrom] at h
 | p :: r, nx, h => by
  unfold headsFrom at h
  split at h
  · have := mem_headsFrom r nx h
    exact ⟨List.mem_cons_of_mem _ this.1, this.2⟩
  · rcases List.mem_cons.1 h with rfl | h
    · exact ⟨List.mem_cons_self, rfl⟩
    · have := mem_headsFrom r _ h
      exact ⟨List.mem_cons_of_mem _ this.1, this.2⟩
theorem spotIn_mem {c p k : Nat} : ∀ (q : List (Nat × Head)), spotIn c q = some (p, k) → (∃ x, (p, x) ∈ q ∧ x.kind = 1 ∧ x.n = c ∧ bitFree x.w (classSlots c) = some k)
 | (p', y) :: q, h => by
  have h1 : spotIn c ((p', y) :: q) = if y.kind ≠ 1 ∨ y.n ≠ c then spotIn c q else match bitFree y.w (classSlots c) with | some k => some (p', k) | none => spotIn c q := rfl
  rw [h1] at h
  by_cases hc : y.kind ≠ 1 ∨ y.n ≠ c
  · rw [if_pos hc] at h
    obtain ⟨x, hx, hr⟩ := spotIn_mem q h
    exact ⟨x, List.mem_cons_of_mem _ hx, hr⟩
  · rw [if_neg hc] at h
    have hc1 : y.kind = 1 := by omega
    have hc2 : y.n = c := by omega
    cases hb : bitFree y.w (classSlots c) with
    | some j =>
     rw [hb] at h
     simp only [Option.some.injEq, Prod.mk.injEq] at h
     obtain ⟨rfl, rfl⟩ := h
     exact ⟨y, List.mem_cons_self, hc1, hc2, hb⟩
    | none =>
     rw [hb] at h
     obtain ⟨x, hx, hr⟩ := spotIn_mem q h
     exact ⟨x, List.mem_cons_of_mem _ hx, hr⟩
theorem bitFree_lt {w n k : Nat} (h : bitFree w n = some k) : k < n := by
 unfold bitFree at h
 rw [List.find?_range_eq_some] at h
 simpa using h.2.1
theorem spotH_le {s : Slab} (hw : SlabWF s) {c p k : Nat} (h : spotH s c = some (p, k)) : p ≤ 1048575 ∧ k < 31 := by
 obtain ⟨x, hx, _, _, hb⟩ := spotIn_mem _ h
 have h1 := (mem_headsFrom _ _ hx).1
 have h2 := bitFree_lt hb
 have h3 := classSlots_le c
 exact ⟨hw.top _ h1, by omega⟩
theorem firstRun_le (s : Slab) (n : Nat) : ∀ f p, s.firstRun n f p ≤ p + f
 | 0, p => Nat.le_refl _
 | f + 1, p => by
  unfold Slab.firstRun
  split
  · omega
  · have := firstRun_le s n f (p + 1)
    omega
theorem grant_le {s : Slab} (hw : SlabWF s) {n : Nat} (hn : n ≤ 100) : (s.grant n).1.1 ≤ 409601 := by
 have h1 := hw.room
 have h2 := hw.quota
 have h3 : s.pages.length * n ≤ 4096 * 100 := Nat.mul_le_mul (by omega) hn
 unfold Slab.grant
 split
 · simp
 · split
   · simp
   · have := firstRun_le s n (s.pages.length * n + 1) 0
     simp only
     omega
theorem HeapOn.grant {w : World} {ph pa pm : Nat} {s : Slab} {Y : Nat → Prop} (h : HeapOn w ph pa pm s Y) (n : Nat) (hn : n ≤ 100) :
 Calls Tryz.prog 113 #[PV pa, .int .i64 n] w fun e w' => e = .returned (.tuple #[.int .i64 ((s.grant n).1.1 : Nat), .int .i64 ((s.grant n).1.2 : Nat)]) ∧ HeapOn w' ph pa pm (s.grant n).2 Y ∧ Keep Y w w' := by
 obtain ⟨blk, hs⟩ := h.slab
 refine (slab_grant hs n hn).mono ?_
 rintro e w' ⟨h1, h2, h3⟩
 exact ⟨h1, h.step h2 h3, h3⟩
theorem classOf_lt {n c : Nat} (h : classOf n = some c) : c < 8 := by
 unfold classOf at h
 rw [List.find?_range_eq_some] at h
 simpa using h.2.1
theorem classPages_le {n : Nat} (h : n ≤ 4000) : classPages n ≤ 63 := by
 unfold classPages
 split
 · omega
 · split
   · omega
   · omega
theorem heap_alloc {w : World} {ph pa pm : Nat} {s : Slab} {Y : Nat → Prop} (h : HeapOn w ph pa pm s Y) (n : Nat) (_ : n ≤ 100000) :
 Calls Tryz.prog 91 #[PV ph, .int .i64 n] w fun e w' => e = .returned (.tuple #[.int .i64 ((allocH s n).1.1 : Nat), .int .i64 ((allocH s n).1.2 : Nat)]) ∧ HeapOn w' ph pa pm (allocH s n).2 Y ∧ Keep Y w w' := by
 have hno := heap_none h
 have hof := fun W => class_of n W
 obtain ⟨R, hR⟩ : ∃ R, allocH s n = R := ⟨_, rfl⟩
 rw [hR]
 rcases ofRes_nat n with ⟨h1, h2, _⟩ | ⟨h1, ⟨c, h2, h3, _⟩ | ⟨h2, h3, h4⟩⟩
 · have hRe : R = ((0, 2), s) := by rw [← hR]; unfold allocH; rw [if_pos h1]
   rw [h2] at hof
   have HG := kq4 hno hof hRe h
   clear hno hof hRe h hR h1 h2
   go_enter Tryz.func91, Tryz.ntmps91
   go_wp2_with fail
   refine HG.out.1.mono ?_
   rintro e w1 ⟨rfl, rfl⟩
   go_wp2_with fail
   refine (HG.out.2.1 _).mono ?_
   rintro e w2 ⟨rfl, hb2⟩
   have H2 := Lib.hid hb2
   clear hb2
   go_wp2_with fail
   go_ret2
   obtain rfl := HG.out.2.2.1
   exact ⟨rfl, HG.out.2.2.2.below H2.out, HG.out.2.2.2.keep H2.out⟩
 · have hn1 : ¬ (n < 1 ∨ 4000 < n) := by omega
   rw [h3] at hof
   have hc8 := classOf_lt h2
   have hsp := fun W (hW : HeapOn W ph pa pm s Y) => heap_spot hW c (by omega)
   cases hspot : spotH s c with
   | some pk =>
    obtain ⟨p, k⟩ := pk
    have hRe : R = (((takeH s p k).1, 0), (takeH s p k).2) := by rw [← hR]; unfold allocH; rw [if_neg hn1, h2]; simp only [hspot]
    rw [hspot] at hsp
    obtain ⟨hp, hk⟩ := spotH_le h.wf hspot
    have htk := fun W (hW : HeapOn W ph pa pm s Y) => heap_take hW p k (by omega) (by omega)
    generalize takeH s p k = tk at *
    have HG := kq6 hno hof hRe h hsp htk
    clear hno hof hRe h hR h1 h2 h3 hsp htk hspot
    go_enter Tryz.func91, Tryz.ntmps91
    go_wp2_with fail
    refine HG.out.1.mono ?_
    rintro e w1 ⟨rfl, rfl⟩
    go_wp2_with fail
    refine (HG.out.2.1 _).mono ?_
    rintro e w2 ⟨rfl, hb2⟩
    have H2 := kq2 (HG.out.2.2.2.1.below hb2) (HG.out.2.2.2.1.keep hb2)
    clear hb2
    go_wp2_with fail
    refine (HG.out.2.2.2.2.1 _ H2.out.1).mono ?_
    rintro e w3 ⟨rfl, hb3⟩
    have H3 := kq2 (H2.out.1.below hb3) (H2.out.2.trans (H2.out.1.keep hb3))
    clear hb3
    simp only [spotV]
    go_wp2_with fail
    refine (HG.out.2.2.2.2.2 _ H3.out.1).mono ?_
    rintro e w4 ⟨rfl, h4, k4⟩
    have H4 := kq2 h4 (H3.out.2.trans k4)
    clear h4 k4
    go_wp2_with fail
    go_ret2
    obtain rfl := HG.out.2.2.1
    exact ⟨rfl, H4.out⟩
   | none =>
    rw [hspot] at hsp
    have hgr := fun W (hW : HeapOn W ph pa pm s Y) => hW.grant 1 (by omega)
    have hgl := grant_le h.wf (n := 1) (by omega)
    obtain ⟨⟨⟨gp, ge⟩, gs⟩, hgE⟩ : ∃ g, s.grant 1 = g := ⟨_, rfl⟩
    rw [hgE] at hgr hgl
    simp only at hgr hgl
    cases ge with
    | zero =>
     have hRe : R = (((takeH (putH gs gp ⟨1, c, 0⟩) gp 0).1, 0), (takeH (putH gs gp ⟨1, c, 0⟩) gp 0).2) := by rw [← hR]; unfold allocH; rw [if_neg hn1, h2]; simp only [hspot, hgE]
     have hpu := fun W (hW : HeapOn W ph pa pm gs Y) => heap_put hW gp ⟨1, c, 0⟩ (by omega) (show 1 < 256 by omega) (by simp only; omega) (show 0 < 18446744073709551616 by omega)
     simp only [headV] at hpu
     generalize putH gs gp ⟨1, c, 0⟩ = s2 at *
     have htk := fun W (hW : HeapOn W ph pa pm s2 Y) => heap_take hW gp 0 (by omega) (by omega)
     generalize takeH s2 gp 0 = tk at *
     have HG := kq8 hno hof hRe h hsp hgr hpu htk
     clear hno hof hRe h hR h1 h2 h3 hsp htk hspot hgr hpu hgE
     go_enter Tryz.func91, Tryz.ntmps91
     go_wp2_with fail
     refine HG.out.1.mono ?_
     rintro e w1 ⟨rfl, rfl⟩
     go_wp2_with fail
     refine (HG.out.2.1 _).mono ?_
     rintro e w2 ⟨rfl, hb2⟩
     have H2 := kq2 (HG.out.2.2.2.1.below hb2) (HG.out.2.2.2.1.keep hb2)
     clear hb2
     go_wp2_with fail
     refine (HG.out.2.2.2.2.1 _ H2.out.1).mono ?_
     rintro e w3 ⟨rfl, hb3⟩
     have H3 := kq2 (H2.out.1.below hb3) (H2.out.2.trans (H2.out.1.keep hb3))
     have c3 := H3.out.1.cell
     clear hb3
     simp only [spotV]
     go_wp2_with fail
     refine (HG.out.2.2.2.2.2.1 _ H3.out.1).mono ?_
     rintro e w4 ⟨rfl, h4, k4⟩
     have H4 := kq2 h4 (H3.out.2.trans k4)
     clear h4 k4 c3
     go_wp2_with fail
     refine (HG.out.2.2.2.2.2.2.1 _ H4.out.1).mono ?_
     rintro e w5 ⟨rfl, h5, k5⟩
     have H5 := kq2 h5 (H4.out.2.trans k5)
     clear h5 k5
     go_wp2_with fail
     refine (HG.out.2.2.2.2.2.2.2 _ H5.out.1).mono ?_
     rintro e w6 ⟨rfl, h6, k6⟩
     have H6 := kq2 h6 (H5.out.2.trans k6)
     clear h6 k6
     go_wp2_with fail
     go_ret2
     obtain rfl := HG.out.2.2.1
     exact ⟨rfl, H6.out⟩
    | succ ge =>
     have hRe : R = ((0, ge + 1), gs) := by rw [← hR]; unfold allocH; rw [if_neg hn1, h2]; simp only [hspot, hgE]
     have hq1 : (((ge + 1 : Nat) : Int) != 0) = true := by simp; omega
     obtain ⟨g1, hg1⟩ : ∃ g1, ge + 1 = g1 := ⟨_, rfl⟩
     rw [hg1] at hgr hRe hq1
     have hq2 : ¬ (g1 : Int) = 0 := by omega
     have HG := kq6 hno hof hRe h hsp hgr
     clear hno hof hRe h hR h1 h2 h3 hsp hspot hgr hgE hg1
     go_enter Tryz.func91, Tryz.ntmps91
     go_wp2_with fail
     refine HG.out.1.mono ?_
     rintro e w1 ⟨rfl, rfl⟩
     go_wp2_with fail
     refine (HG.out.2.1 _).mono ?_
     rintro e w2 ⟨rfl, hb2⟩
     have H2 := kq2 (HG.out.2.2.2.1.below hb2) (HG.out.2.2.2.1.keep hb2)
     clear hb2
     go_wp2_with fail
     refine (HG.out.2.2.2.2.1 _ H2.out.1).mono ?_
     rintro e w3 ⟨rfl, hb3⟩
     have H3 := kq2 (H2.out.1.below hb3) (H2.out.2.trans (H2.out.1.keep hb3))
     have c3 := H3.out.1.cell
     clear hb3
     simp only [spotV]
     go_wp2_with fail
     refine (HG.out.2.2.2.2.2 _ H3.out.1).mono ?_
     rintro e w4 ⟨rfl, h4, k4⟩
     have H4 := kq2 h4 (H3.out.2.trans k4)
     clear h4 k4 c3
     go_wp2_with fail
     go_ret2
     obtain rfl := HG.out.2.2.1
     exact ⟨rfl, H4.out⟩
 · have hn1 : ¬ (n < 1 ∨ 4000 < n) := by omega
   rw [h3] at hof
   have hpgs := fun W => class_pages n W h1.2 h1.1
   have hcp := classPages_le h1.2
   have hgr := fun W (hW : HeapOn W ph pa pm s Y) => hW.grant (classPages n) (by omega)
   have hgl := grant_le h.wf (n := classPages n) (by omega)
   obtain ⟨np, hnp⟩ : ∃ np, classPages n = np := ⟨_, rfl⟩
   rw [hnp] at hpgs hcp hgr hgl
   obtain ⟨⟨⟨gp, ge⟩, gs⟩, hgE⟩ : ∃ g, s.grant np = g := ⟨_, rfl⟩
   rw [hgE] at hgr hgl
   simp only at hgr hgl
   cases ge with
   | zero =>
    have hRe : R = ((gp * 64 + 2, 0), putH gs gp ⟨2, np, n⟩) := by rw [← hR]; unfold allocH; rw [if_neg hn1, h2, hnp]; simp only [hgE]
    have hpu := fun W (hW : HeapOn W ph pa pm gs Y) => heap_put hW gp ⟨2, np, n⟩ (by omega) (show 2 < 256 by omega) (by simp only; omega) (by simp only; omega)
    simp only [headV] at hpu
    generalize putH gs gp ⟨2, np, n⟩ = s2 at *
    have hn4 : n ≤ 4000 := h1.2
    have HG := kq7 hno hof hRe h hpgs hgr hpu
    clear hno hof hRe h hR h1 h2 h3 h4 hpgs hgr hpu hgE hnp
    go_enter Tryz.func91, Tryz.ntmps91
    go_wp2_with fail
    refine HG.out.1.mono ?_
    rintro e w1 ⟨rfl, rfl⟩
    go_wp2_with fail
    refine (HG.out.2.1 _).mono ?_
    rintro e w2 ⟨rfl, hb2⟩
    have H2 := kq2 (HG.out.2.2.2.1.below hb2) (HG.out.2.2.2.1.keep hb2)
    clear hb2
    go_wp2_with fail
    refine (HG.out.2.2.2.2.1 _).mono ?_
    rintro e w3 ⟨rfl, hb3⟩
    have H3 := kq2 (H2.out.1.below hb3) (H2.out.2.trans (H2.out.1.keep hb3))
    have c3 := H3.out.1.cell
    clear hb3
    go_wp2_with fail
    refine (HG.out.2.2.2.2.2.1 _ H3.out.1).mono ?_
    rintro e w4 ⟨rfl, h4, k4⟩
    have H4 := kq2 h4 (H3.out.2.trans k4)
    clear h4 k4 c3
    go_wp2_with fail
    refine (HG.out.2.2.2.2.2.2 _ H4.out.1).mono ?_
    rintro e w5 ⟨rfl, h5, k5⟩
    have H5 := kq2 h5 (H4.out.2.trans k5)
    clear h5 k5
    go_wp2_with fail
    go_ret2
    obtain rfl := HG.out.2.2.1
    exact ⟨by simp, H5.out⟩
   | succ ge =>
    have hRe : R = ((0, ge + 1), gs) := by rw [← hR]; unfold allocH; rw [if_neg hn1, h2, hnp]; simp only [hgE]
    have hq1 : (((ge + 1 : Nat) : Int) != 0) = true := by simp; omega
    obtain ⟨g1, hg1⟩ : ∃ g1, ge + 1 = g1 := ⟨_, rfl⟩
    rw [hg1] at hgr hRe hq1
    have hq2 : ¬ (g1 : Int) = 0 := by omega
    have HG := kq6 hno hof hRe h hpgs hgr
    clear hno hof hRe h hR h1 h2 h3 h4 hpgs hgr hgE hnp hg1
    go_enter Tryz.func91, Tryz.ntmps91
    go_wp2_with fail
    refine HG.out.1.mono ?_
    rintro e w1 ⟨rfl, rfl⟩
    go_wp2_with fail
    refine (HG.out.2.1 _).mono ?_
    rintro e w2 ⟨rfl, hb2⟩
    have H2 := kq2 (HG.out.2.2.2.1.below hb2) (HG.out.2.2.2.1.keep hb2)
    clear hb2
    go_wp2_with fail
    refine (HG.out.2.2.2.2.1 _).mono ?_
    rintro e w3 ⟨rfl, hb3⟩
    have H3 := kq2 (H2.out.1.below hb3) (H2.out.2.trans (H2.out.1.keep hb3))
    have c3 := H3.out.1.cell
    clear hb3
    go_wp2_with fail
    refine (HG.out.2.2.2.2.2 _ H3.out.1).mono ?_
    rintro e w4 ⟨rfl, h4, k4⟩
    have H4 := kq2 h4 (H3.out.2.trans k4)
    clear h4 k4 c3
    go_wp2_with fail
    go_ret2
    obtain rfl := HG.out.2.2.1
    exact ⟨rfl, H4.out⟩
end Go.Proofs.YtcibkdbpicledaaGreatDoor
namespace Go.Proofs.YtcibkdbpicledaaGreatDoor.Lf
def many (n : Nat) : Nat := if 1000 < n then 0 else 1 + (n + 7) / 8
def chunk (l : List UInt8) : Nat := (List.range 8).foldl (fun n j => n * 256 + (l.getD j 0).toNat) 0
def chunks (l : List UInt8) (m : Nat) : List Nat := (List.range m).map fun i => chunk (l.drop (8 * i))
def wordsOf (l : List UInt8) : List Nat := l.length :: chunks l ((l.length + 7) / 8)
def bytesOf (ws : List Nat) (n : Nat) : List UInt8 := (List.range n).map fun i => UInt8.ofNat (ws.getD (1 + i / 8) 0 / 256 ^ (7 - i % 8))
def textOf (ws : List Nat) : Option (List UInt8) :=
 match ws with
 | [] => none
 | n :: _ => if 1000 < n ∨ many n ≠ ws.length then none else if wordsOf (bytesOf ws n) = ws then some (bytesOf ws n) else none
def cmpB : List UInt8 → List UInt8 → Int
 | [], [] => 0
 | [], _ :: _ => -1
 | _ :: _, [] => 1
 | a :: l, b :: m => if a < b then -1 else if b < a then 1 else cmpB l m
def putWords (s : St) (h : Nat) : Nat → List Nat → St
 | _, [] => s
 | k, w :: r => putWords (s.put h k w).2 h (k + 1) r
def putBlob (s : St) (t : List UInt8) : (Nat × Nat) × St :=
 if 1000 < t.length then ((0, 4), s)
 else match s.make (many t.length) with
  | ((h, 0), s1) => ((h, 0), putWords s1 h 0 (wordsOf t))
  | ((_, e), s1) => ((0, e), s1)
def recWords (s : St) (h : Nat) : List Nat := (List.range (s.len h).1).map fun k => (s.get h k).1
def getBlob (s : St) (h : Nat) : List UInt8 × Nat :=
 match s.len h with
 | (_, 0) => match textOf (recWords s h) with
  | some t => (t, 0)
  | none => ([], 8)
 | (_, e) => ([], e)
structure Nd where
 key : Nat
 val : Nat
 left : Nat
 right : Nat
 mark : Nat
 size : Nat
deriving DecidableEq
def Nd.zero : Nd := ⟨0, 0, 0, 0, 0, 0⟩
def askedN (s : St) (h : Nat) : Nat :=
 match s.len h with
 | (n, 0) => if n ≠ 6 then 8 else 0
 | (_, e) => e
def getNode (s : St) (h : Nat) : Nd × Nat :=
 match askedN s h with
 | 0 => (⟨(s.get h 0).1, (s.get h 1).1, (s.get h 2).1, (s.get h 3).1, (s.get h 4).1, (s.get h 5).1⟩, 0)
 | e => (Nd.zero, e)
def putNode (s : St) (h : Nat) (n : Nd) : Nat × St :=
 match askedN s h with
 | 0 => (0, putWords s h 0 [n.key, n.val, n.left, n.right, n.mark, n.size])
 | e => (e, s)
def makeNode (s : St) (n : Nd) : (Nat × Nat) × St :=
 match s.make 6 with
 | ((h, 0), s1) => ((h, (putNode s1 h n).1), (putNode s1 h n).2)
 | ((_, e), s1) => ((0, e), s1)
def dropNode (s : St) (h : Nat) : Nat × St :=
 match askedN s h with
 | 0 => s.drop h
 | e => (e, s)
def limit (s : St) : Nat := s.words / 8 + 1
def sizeT (s : St) (h : Nat) : Nat := (getNode s h).1.size
def markT (s : St) (h : Nat) : Nat := (getNode s h).1.mark
end Go.Proofs.YtcibkdbpicledaaGreatDoor.Lf
