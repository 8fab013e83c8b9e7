/- Cursors: Prev, Open: the walks. Binary trees: insert of a key that is there: the walk. -/
import Derived.Test.YtoaabbnieakidaaGreatDoorRGbp
import Derived.Test.YtoaabbnieakidaaGreatDoorRGbl
import Derived.Test.YtoaabbnieakidaaGreatDoorRGax
namespace Go.Proofs.YtoaabbnieakidaaGreatDoorR
open Go.RowKit Go.BigFrame Go.Maps Go.WideMaps Lf

set_option maxRecDepth 100000 in
set_option maxHeartbeats 3200000 in
theorem cu_prev_behind {limit : Nat} {w wr : World} {ps pm px pc root hh : Nat} {S : St} {Y : Nat → Prop} (h : CuAt limit w ps pm px pc S root Y hh 2 wr) (h0 : hh ≠ 0) (hr : root < 18446744073709551616) (z : Nat) (hn : sizeM S root = some z) {S' : St} {is' : Nat} (p : List UInt8 × List UInt8) (er : Nat) (hp : ∀ W Z, CuAt limit w ps pm px pc S root Z hh 2 W → Calls Tryz.prog 97 #[PV pc, .int .i64 ((z : Nat) - 1), .int .i64 (0 : Nat)] W fun e w' => e = .returned (.tuple #[prV p, .int .i64 er]) ∧ CuAt limit w ps pm px pc S' root Z hh is' w' ∧ Keep (fun k => Z k ∧ k ≠ pc) W w') :
    Calls Tryz.prog 71 #[PV pc] wr fun e w' => e = .returned (.tuple #[prV p, .int .i64 er]) ∧ CuAt limit w ps pm px pc S' root Y hh is' w' ∧ Keep (fun k => Y k ∧ k ≠ pc) wr w' := by
  obtain ⟨p1, p2⟩ := p
  simp only [prV] at hp ⊢
  have A0 := (Below.refl wr.heap.size wr).alloc (Nat.le_refl _) (.cells #[.string ⟨#[]⟩, .string ⟨#[]⟩] 50)
  have q0 := heap_alloc_new wr (.cells #[.string ⟨#[]⟩, .string ⟨#[]⟩] 50)
  obtain ⟨Z, z1, z2, h1⟩ := h.grow A0
  have zb : Z wr.heap.size := z2 _ (Nat.le_refl _) (by simp)
  have hle := map_len h1.md.st h1.md.inv h1.md.m h1.md.t hr hn
  have hnl : z < 4611686018427387904 := by have := num_some hn; omega
  have HK := Lib.hid hle
  clear hle hn hr
  have HG := Lib.hid (And.intro (cur_asked h1.c h0) (And.intro hp (And.intro h1 (And.intro q0 (And.intro h (And.intro z1 (And.intro zb A0)))))))
  have hC := h1.c
  unfold CurOn at hC
  have c0 : ((wr.alloc (.cells #[.string ⟨#[]⟩, .string ⟨#[]⟩] 50))).cell? ⟨pc, 0, none⟩ = some (PV pm) := by rw [cell_of_block hC]; rfl
  have c1 : ((wr.alloc (.cells #[.string ⟨#[]⟩, .string ⟨#[]⟩] 50))).cell? ⟨pc, 1, none⟩ = some (PV ps) := by rw [cell_of_block hC]; rfl
  have c2 : ((wr.alloc (.cells #[.string ⟨#[]⟩, .string ⟨#[]⟩] 50))).cell? ⟨pc, 2, none⟩ = some (.int .u64 hh) := by rw [cell_of_block hC]; rfl
  have c3 : ((wr.alloc (.cells #[.string ⟨#[]⟩, .string ⟨#[]⟩] 50))).cell? ⟨pc, 3, none⟩ = some (.int .i64 2) := by rw [cell_of_block hC]; rfl
  clear h1 h q0 A0 hC hp z1 z2 zb
  go_enter Tryz.func71, Tryz.ntmps71
  go_wp2_with fail
  refine HG.out.1.mono ?_
  rintro e w0 ⟨rfl, rfl⟩
  go_wp2_with fail
  refine HK.out.mono ?_
  rintro e w1 ⟨rfl, hb1⟩
  have h2 := HG.out.2.2.1.below hb1
  have q1 := (hb1.block wr.heap.size (by simp)).trans HG.out.2.2.2.1
  have kA : Keep (fun k => Y k ∧ k ≠ pc) wr w1 := Keep.of_below (HG.out.2.2.2.2.2.2.2.trans (hb1.mono (by simp))) fun k hk => HG.out.2.2.2.2.1.md.st.yl k hk.1
  have H1 := Lib.hid (And.intro q1 (And.intro h2 kA))
  clear q1 h2 kA hb1
  go_wp2_with fail
  refine (HG.out.2.1 _ _ H1.out.2.1).mono ?_
  rintro e w5 ⟨rfl, h5, k5⟩
  have np := HG.out.2.2.2.2.1.lt
  have q5 := (k5.block wr.heap.size ⟨HG.out.2.2.2.2.2.2.1, by omega⟩).trans H1.out.1
  have x0 : (w5).cell? ⟨wr.heap.size, 0, none⟩ = some (.string ⟨#[]⟩) := by rw [cell_of_block q5]; rfl
  have x1 : (w5).cell? ⟨wr.heap.size, 1, none⟩ = some (.string ⟨#[]⟩) := by rw [cell_of_block q5]; rfl
  have f0 : (w5).frozen? ⟨wr.heap.size, 0, none⟩ = false := frozen_of_block q5
  have f1 : (w5).frozen? ⟨wr.heap.size, 1, none⟩ = false := frozen_of_block q5
  have q6 := st2_heap q5 (SV p1) (SV p2)
  have h6 := HG.out.2.2.2.2.1.back h5 HG.out.2.2.2.2.2.1 HG.out.2.2.2.2.2.2.1 q5 ⟨by decide, by decide⟩ (by simp) (H1.out.2.2.trans (k5.mono fun k hk => ⟨HG.out.2.2.2.2.2.1 k hk.1, hk.2⟩)) (SV p1) (SV p2)
  have HB := Lib.hid (And.intro q6 h6)
  clear h5 k5 q5 q6 h6 np
  go_wp2_with fail
  obtain ⟨q6, h6⟩ := HB.out
  generalize ((w5.setCell ⟨wr.heap.size, 0, none⟩ (SV p1)).setCell ⟨wr.heap.size, 1, none⟩ (SV p2)) = w6 at *
  have k0 : (w6).cell? ⟨wr.heap.size, 0, none⟩ = some (SV p1) := by rw [cell_of_block q6]; rfl
  have k1 : (w6).cell? ⟨wr.heap.size, 1, none⟩ = some (SV p2) := by rw [cell_of_block q6]; rfl
  exact bodyPost_ret (v := .tuple #[.agg #[SV p1, SV p2], .int .i64 er]) (by simp [results, Tryz.f71, go_sem, k0, k1]) rfl ⟨rfl, h6⟩

set_option maxRecDepth 100000 in
set_option maxHeartbeats 3200000 in
theorem cursor_open {limit : Nat} {w wr : World} {ps pm px root : Nat} {S : St} {Y : Nat → Prop} (h : MdK 1 limit w ps pm px S root Y wr) (hlim : limit ≤ 1000) (ho : MkOk S (many limit)) {hh : Nat} {S1 : St} (hm : S.make (many limit) = ((hh, 0), S1)) :
    Calls Tryz.prog 68 #[PV pm] wr fun e w' => ∃ pc Z, e = .returned (.tuple #[PV pc, .int .i64 0]) ∧ (∀ k, Y k → Z k) ∧ wr.heap.size ≤ pc ∧ CuAt limit w ps pm px pc S1 root Z hh 0 w' ∧ Keep Y wr w' := by
  have hst := map_store h.m
  have hli := map_limit h.m
  have hma := text_many limit wr (by omega)
  have hmk := st_make h.st (many limit) (by unfold many; split <;> omega) ho.1
  have hi1 := ho.2
  rw [hm] at hmk hi1
  simp only at hmk hi1
  have HG := Lib.hid (And.intro hst (And.intro hli (And.intro hma (And.intro hmk (And.intro h hi1)))))
  clear hst hli hma hmk h hi1 ho hm hlim
  go_enter Tryz.func68, Tryz.ntmps68
  go_wp2_with fail
  refine HG.out.1.mono ?_
  rintro e w1 ⟨rfl, rfl⟩
  go_wp2_with fail
  refine HG.out.2.1.mono ?_
  rintro e w1 ⟨rfl, rfl⟩
  go_wp2_with fail
  refine HG.out.2.2.1.mono ?_
  rintro e w1 ⟨rfl, rfl⟩
  go_wp2_with fail
  refine HG.out.2.2.2.1.mono ?_
  rintro e w2 ⟨rfl, h2, k2⟩
  have H := HG.out.2.2.2.2.1
  have m2 : MdK 1 limit w ps pm px S1 root Y w2 := ⟨h2, HG.out.2.2.2.2.2, (k2.block pm H.ym).trans H.m, (k2.block px H.yx).trans H.t, ⟨k2.os.trans H.bl.os, k2.tape.trans H.bl.tape, k2.output.trans H.bl.output, Nat.le_trans H.bl.size k2.size, fun k hk => (k2.block k (H.y k hk)).trans (H.bl.block k hk)⟩, H.y, H.yx, H.ym, H.nx, H.ne⟩
  have A2 := (Below.refl w2.heap.size w2).alloc (Nat.le_refl _) (.cells #[PV pm, PV ps, .int .u64 hh, .int .i64 0] 79)
  have q2 := heap_alloc_new w2 (.cells #[PV pm, PV ps, .int .u64 hh, .int .i64 0] 79)
  have H2 := Lib.hid (And.intro m2 (And.intro A2 (And.intro q2 k2)))
  clear h2 k2 m2 A2 q2 H
  go_wp2_with fail
  go_ret2
  obtain ⟨m2, A2, q2, k2⟩ := H2.out
  refine ⟨w2.heap.size, fun k => Y k ∨ (w2.heap.size ≤ k ∧ k < (w2.alloc (.cells #[PV pm, PV ps, .int .u64 hh, .int .i64 0] 79)).heap.size), rfl, fun k hk => Or.inl hk, k2.size, ⟨⟨m2.st.wide A2, m2.inv, m2.m.below A2, m2.t.below A2, m2.bl.trans (A2.mono m2.bl.size), fun k hk => Or.inl (m2.y k hk), Or.inl m2.yx, Or.inl m2.ym, m2.nx, m2.ne⟩, q2, Or.inr ⟨Nat.le_refl _, by simp⟩, Nat.ne_of_gt (Array.getElem?_eq_some_iff.1 m2.m).1, Nat.ne_of_gt (Array.getElem?_eq_some_iff.1 m2.t).1, m2.bl.size⟩, k2.trans (Keep.of_below A2 fun k hk => m2.st.yl k hk)⟩
end Go.Proofs.YtoaabbnieakidaaGreatDoorR

namespace Go.Proofs.YtoaabbnieakidaaGreatDoorR
open Go.RowKit Go.BigFrame Go.Maps Go.WideMaps Lf

/-- insert of a key that was there, where all is well: the root, the elder item, the store -/
def Lf.binRepM (jn : Jn) (S : St) (root k v : Nat) : Option ((Nat × Nat × Nat) × St) :=
  if (makeNode S ⟨k, v, 0, 0, 0, 1⟩).1.2 ≠ 0 then none
  else match insertOkM jn (makeNode S ⟨k, v, 0, 0, 0, 1⟩).2 root (makeNode S ⟨k, v, 0, 0, 0, 1⟩).1.1 with
    | none => none
    | some ((now, o), S1) => match dropNode S1 o with
      | (0, S2) => some ((now, (getNode S1 o).1.key, (getNode S1 o).1.val), S2)
      | _ => none
theorem binRepM_some {jn : Jn} {S S' : St} {root k v : Nat} {R : Nat × Nat × Nat} (h : binRepM jn S root k v = some (R, S')) :
    ∃ o S1, (makeNode S ⟨k, v, 0, 0, 0, 1⟩).1.2 = 0 ∧ insertOkM jn (makeNode S ⟨k, v, 0, 0, 0, 1⟩).2 root (makeNode S ⟨k, v, 0, 0, 0, 1⟩).1.1 = some ((R.1, o), S1) ∧ dropNode S1 o = (0, S') ∧ R.2.1 = (getNode S1 o).1.key ∧ R.2.2 = (getNode S1 o).1.val := by
  unfold binRepM at h
  split at h
  · cases h
  · rename_i h0
    split at h
    · cases h
    · rename_i now o S1 h1
      split at h
      · rename_i S2 h2
        have h := Option.some.inj h
        injection h with e1 e2
        subst e1 e2
        exact ⟨o, S1, Decidable.not_not.1 h0, h1, h2, rfl, rfl⟩
      · cases h

set_option maxRecDepth 100000 in
set_option maxHeartbeats 3200000 in
theorem bin_insert_was {w : World} {ps : Nat} {S S' : St} {Y : Nat → Prop} (h : StOn w ps S Y) (hm : MkOk S 6) {kind : Nat} {j c : FuncId} {jn : Jn} (hk : KindOk kind j c jn) (root k v : Nat) (hl : root < 18446744073709551616) (hkl : k < 18446744073709551616) (hvl : v < 18446744073709551616) {R : Nat × Nat × Nat} (hx : binRepM jn S root k v = some (R, S')) (hi' : Inv S') :
    Calls Tryz.prog 358 #[binV ps kind, .int .u64 root, itV k v] w fun e w' => e = .returned (.tuple #[.int .u64 R.1, itV R.2.1 R.2.2, .bool true, .int .i64 0]) ∧ StOn w' ps S' Y ∧ Keep Y w w' ∧ Inv S' ∧ R.1 < 18446744073709551616 := by
  obtain ⟨o, S2, h0, h1, h2, e1, e2⟩ := binRepM_some hx
  obtain ⟨x, ik, iv⟩ := R
  simp only at h1 e1 e2 ⊢
  have hi1 := makeNode_inv hm ⟨k, v, 0, 0, 0, 1⟩
  have hml := makeNode_lt h.tabwf ⟨k, v, 0, 0, 0, 1⟩
  have hmk := fun W Z (hW : StOn W ps S Z) => node_make hW hm ⟨k, v, 0, 0, 0, 1⟩ ⟨hkl, hvl, by simp, by simp, by simp, by simp⟩
  generalize makeNode S ⟨k, v, 0, 0, 0, 1⟩ = M at *
  obtain ⟨⟨m, em⟩, S1⟩ := M
  simp only at h0 h1 hi1 hml hmk
  subst h0
  have hin := fun W Z (hW : StOn W ps S1 Z) => parts_insert hW hi1 hk.joins hk.way root m hl hml h1
  have hwo := fun W Z (hi2 : Inv S2) (ho : o < 18446744073709551616) (hW : StOn W ps S2 Z) => bin_without hW hi2 kind o ho h2
  rw [← e1, ← e2] at hwo
  simp only [binV, itV, ndV] at hmk hwo ⊢
  have B1 := (Below.refl w.heap.size w).alloc (Nat.le_refl _) (.cells #[PV ps, .int .i64 kind] 247)
  have q1 := heap_alloc_new w (.cells #[PV ps, .int .i64 kind] 247)
  generalize hw1 : w.alloc (.cells #[PV ps, .int .i64 kind] 247) = w1 at *
  have z1 : w1.heap.size = w.heap.size + 1 := by rw [← hw1]; simp
  have A2 := (Below.refl w1.heap.size w1).alloc (Nat.le_refl _) (.cells #[.int .u64 k, .int .u64 v] 126)
  have B2 := B1.alloc B1.size (.cells #[.int .u64 k, .int .u64 v] 126)
  have q2 := (A2.block w.heap.size (by omega)).trans q1
  have z2 : (w1.alloc (.cells #[.int .u64 k, .int .u64 v] 126)).heap.size = w.heap.size + 2 := by simp [z1]
  generalize hw2 : w1.alloc (.cells #[.int .u64 k, .int .u64 v] 126) = w2 at *
  have A3 := (Below.refl w2.heap.size w2).alloc (Nat.le_refl _) (.cells #[.int .u64 0, .int .u64 0] 126)
  have q3 := (A3.block w.heap.size (by omega)).trans q2
  have B3 := B2.alloc B2.size (.cells #[.int .u64 0, .int .u64 0] 126)
  have y3 := heap_alloc_new w2 (.cells #[.int .u64 0, .int .u64 0] 126)
  rw [z2] at y3
  have z3 : (w2.alloc (.cells #[.int .u64 0, .int .u64 0] 126)).heap.size = w.heap.size + 3 := by simp [z2]
  subst hw2 hw1
  have hY := h.yl
  have HG := Lib.hid (And.intro hmk (And.intro hin (And.intro hwo (And.intro (h.wide B3) (And.intro q3 (And.intro y3 (And.intro z3 (And.intro B3 hY))))))))
  clear hmk hin hwo h q1 q2 q3 y3 A2 A3 B1 B2 B3 z1 z2 z3 hi1 h1 h2 e1 e2 hm hk hY hx
  go_enter Tryz.func358, Tryz.ntmps358
  go_wp2_with fail
  refine (HG.out.1 _ _ HG.out.2.2.2.1).mono ?_
  rintro e w4 ⟨rfl, h4, k4⟩
  have q4 := (k4.block w.heap.size (Or.inr ⟨Nat.le_refl _, by have := HG.out.2.2.2.2.2.2.1; omega⟩)).trans HG.out.2.2.2.2.1
  have y4 := (k4.block (w.heap.size + 2) (Or.inr ⟨by omega, by have := HG.out.2.2.2.2.2.2.1; omega⟩)).trans HG.out.2.2.2.2.2.1
  have c0 : (w4).cell? ⟨w.heap.size, 0, none⟩ = some (PV ps) := by rw [cell_of_block q4]; rfl
  have c1 : (w4).cell? ⟨w.heap.size, 1, none⟩ = some (.int .i64 kind) := by rw [cell_of_block q4]; rfl
  have H4 := Lib.hid (And.intro h4 (And.intro k4 (And.intro q4 y4)))
  clear h4 k4 q4 y4
  go_wp2_with fail
  obtain ⟨hp, hi5, hxl, hol⟩ := HG.out.2.1 _ _ H4.out.1
  refine hp.mono ?_
  rintro e w5 ⟨rfl, h5, k5⟩
  have q5 := (k5.block w.heap.size (Or.inr ⟨Nat.le_refl _, by have := HG.out.2.2.2.2.2.2.1; omega⟩)).trans H4.out.2.2.1
  have y5 := (k5.block (w.heap.size + 2) (Or.inr ⟨by omega, by have := HG.out.2.2.2.2.2.2.1; omega⟩)).trans H4.out.2.2.2
  have d0 : (w5).cell? ⟨w.heap.size, 0, none⟩ = some (PV ps) := by rw [cell_of_block q5]; rfl
  have d1 : (w5).cell? ⟨w.heap.size, 1, none⟩ = some (.int .i64 kind) := by rw [cell_of_block q5]; rfl
  have H5 := Lib.hid (And.intro h5 (And.intro (H4.out.2.1.trans k5) (And.intro hi5 (And.intro hxl (And.intro y5 hol)))))
  clear h5 k5 q5 y5 hp hi5 hxl hol c0 c1
  go_wp2_with fail
  refine (HG.out.2.2.1 _ _ H5.out.2.2.1 H5.out.2.2.2.2.2 H5.out.1).mono ?_
  rintro e w6 ⟨rfl, h6, k6'⟩
  have y6 := (k6'.block (w.heap.size + 2) (Or.inr ⟨by omega, by have := HG.out.2.2.2.2.2.2.1; omega⟩)).trans H5.out.2.2.2.2.1
  have e0 : (w6).cell? ⟨(w.heap.size + 2), 0, none⟩ = some (.int .u64 0) := by rw [cell_of_block y6]; rfl
  have e1 : (w6).cell? ⟨(w.heap.size + 2), 1, none⟩ = some (.int .u64 0) := by rw [cell_of_block y6]; rfl
  have f0 : (w6).frozen? ⟨(w.heap.size + 2), 0, none⟩ = false := frozen_of_block y6
  have f1 : (w6).frozen? ⟨(w.heap.size + 2), 1, none⟩ = false := frozen_of_block y6
  have q7 : ((w6.setCell ⟨(w.heap.size + 2), 0, none⟩ (.int .u64 ik)).setCell ⟨(w.heap.size + 2), 1, none⟩ (.int .u64 iv)).heap[w.heap.size + 2]? = _ := st2_heap y6 (.int .u64 ik) (.int .u64 iv)
  have o7 : ∀ k, k ≠ w.heap.size + 2 → ((w6.setCell ⟨(w.heap.size + 2), 0, none⟩ (.int .u64 ik)).setCell ⟨(w.heap.size + 2), 1, none⟩ (.int .u64 iv)).heap[k]? = w6.heap[k]? := fun k hk => st2_other hk _ _
  have z7 : ((w6.setCell ⟨(w.heap.size + 2), 0, none⟩ (.int .u64 ik)).setCell ⟨(w.heap.size + 2), 1, none⟩ (.int .u64 iv)).heap.size = w6.heap.size := by simp
  have s7 : ((w6.setCell ⟨(w.heap.size + 2), 0, none⟩ (.int .u64 ik)).setCell ⟨(w.heap.size + 2), 1, none⟩ (.int .u64 iv)).os = w6.os ∧ ((w6.setCell ⟨(w.heap.size + 2), 0, none⟩ (.int .u64 ik)).setCell ⟨(w.heap.size + 2), 1, none⟩ (.int .u64 iv)).tape = w6.tape ∧ ((w6.setCell ⟨(w.heap.size + 2), 0, none⟩ (.int .u64 ik)).setCell ⟨(w.heap.size + 2), 1, none⟩ (.int .u64 iv)).output = w6.output := ⟨rfl, rfl, rfl⟩
  have hY2 : ∀ k, Y k → k < w.heap.size := HG.out.2.2.2.2.2.2.2.2
  have k6 := H5.out.2.1.trans k6'
  have H6 := Lib.hid (And.intro h6 (And.intro k6 (And.intro H5.out.2.2.1 (And.intro H5.out.2.2.2.1 (And.intro y6 (And.intro q7 (And.intro o7 (And.intro z7 s7))))))))
  clear y6 d0 d1 h6 k6 k6' o7 z7 s7 q7
  go_wp2_with fail
  generalize ((w6.setCell ⟨(w.heap.size + 2), 0, none⟩ (.int .u64 ik)).setCell ⟨(w.heap.size + 2), 1, none⟩ (.int .u64 iv)) = w7 at *
  have q7 := H6.out.2.2.2.2.2.1
  obtain ⟨I, hIi, hIo⟩ : ∃ I : World → Prop, (∀ w', I w' → w'.heap[w.heap.size + 2]? = some (.cells #[.int .u64 ik, .int .u64 iv] 126)) ∧ (∀ w', w'.heap[w.heap.size + 2]? = some (.cells #[.int .u64 ik, .int .u64 iv] 126) → I w') := ⟨fun w' => w'.heap[w.heap.size + 2]? = some (.cells #[.int .u64 ik, .int .u64 iv] 126), fun _ h => h, fun _ a => a⟩
  have hy0 := fun x : Keeps I => hIi _ x.ok
  have m0 : ∀ x : Keeps I, x.to.cell? ⟨(w.heap.size + 2), 0, none⟩ = some (.int .u64 ik) := fun x => by rw [cell_of_block (hy0 x)]; rfl
  have m1 : ∀ x : Keeps I, x.to.cell? ⟨(w.heap.size + 2), 1, none⟩ = some (.int .u64 iv) := fun x => by rw [cell_of_block (hy0 x)]; rfl
  have g0 : (w7).cell? ⟨(w.heap.size + 2), 0, none⟩ = some (.int .u64 ik) := by rw [cell_of_block q7]; rfl
  have g1 : (w7).cell? ⟨(w.heap.size + 2), 1, none⟩ = some (.int .u64 iv) := by rw [cell_of_block q7]; rfl
  have h0 : (w7).frozen? ⟨(w.heap.size + 2), 0, none⟩ = false := frozen_of_block q7
  have h1 : (w7).frozen? ⟨(w.heap.size + 2), 1, none⟩ = false := frozen_of_block q7
  have HI := Lib.hid hIo
  have hI0 : I w7.drew := hIo _ q7
  have HQ := Lib.hid q7
  clear e0 e1 f0 f1 q7 hIi hIo hy0
  refine wp_region_mix I [(true, 0), (true, 1), (true, 2), (true, 3), (false, 4), (false, 5), (false, 6), (false, 7)] (by kernel_rfl) (by kernel_rfl) hI0 ?_
  refine' mix_take _ (by rfl) _ (by rfl) ?_ ?_
  rotate_left
  · rintro _ ⟨x, rfl⟩
    have hxm0 := m0 x
    have hxm1 := m1 x
    go_simp
    try with_reducible rfl
  try simp only [Act.put, List.setIfInBounds_toArray, List.set_cons_zero, List.set_cons_succ]
  refine' mix_take _ (by rfl) _ (by rfl) ?_ ?_
  rotate_left
  · rintro _ ⟨x, rfl⟩
    have hxm0 := m0 x
    have hxm1 := m1 x
    go_simp
    try with_reducible rfl
  try simp only [Act.put, List.setIfInBounds_toArray, List.set_cons_zero, List.set_cons_succ]
  refine' mix_take _ (by rfl) _ (by rfl) ?_ ?_
  rotate_left
  · rintro _ ⟨x, rfl⟩
    have hxm0 := m0 x
    have hxm1 := m1 x
    go_simp
    try with_reducible rfl
  try simp only [Act.put, List.setIfInBounds_toArray, List.set_cons_zero, List.set_cons_succ]
  refine' mix_take _ (by rfl) _ (by rfl) ?_ ?_
  rotate_left
  · rintro _ ⟨x, rfl⟩
    have hxm0 := m0 x
    have hxm1 := m1 x
    go_simp
    try with_reducible rfl
  try simp only [Act.put, List.setIfInBounds_toArray, List.set_cons_zero, List.set_cons_succ]
  refine mix_do _ (by rfl) (by rfl) (fun K hK => ?_)
  go_simp
  try go_simp
  refine hK.out _ _ (HI.out _ HQ.out) ?_
  clear hK K
  try simp only [Act.put, List.setIfInBounds_toArray, List.set_cons_zero, List.set_cons_succ]
  refine mix_do _ (by rfl) (by rfl) (fun K hK => ?_)
  go_simp
  have q8 : ((w7.setCell ⟨(w.heap.size + 2), 0, none⟩ (.int .u64 ik)).setCell ⟨(w.heap.size + 2), 1, none⟩ (.int .u64 iv)).drew.heap[w.heap.size + 2]? = _ := st2_heap HQ.out (.int .u64 ik) (.int .u64 iv)
  have o8 : ∀ k, k ≠ w.heap.size + 2 → ((w7.setCell ⟨(w.heap.size + 2), 0, none⟩ (.int .u64 ik)).setCell ⟨(w.heap.size + 2), 1, none⟩ (.int .u64 iv)).drew.heap[k]? = w7.heap[k]? := fun k hk => st2_other hk _ _
  have z8 : ((w7.setCell ⟨(w.heap.size + 2), 0, none⟩ (.int .u64 ik)).setCell ⟨(w.heap.size + 2), 1, none⟩ (.int .u64 iv)).drew.heap.size = w7.heap.size := by show ((w7.setCell ⟨(w.heap.size + 2), 0, none⟩ (.int .u64 ik)).setCell ⟨(w.heap.size + 2), 1, none⟩ (.int .u64 iv)).heap.size = _; simp
  have s8 : ((w7.setCell ⟨(w.heap.size + 2), 0, none⟩ (.int .u64 ik)).setCell ⟨(w.heap.size + 2), 1, none⟩ (.int .u64 iv)).drew.os = w7.os ∧ ((w7.setCell ⟨(w.heap.size + 2), 0, none⟩ (.int .u64 ik)).setCell ⟨(w.heap.size + 2), 1, none⟩ (.int .u64 iv)).drew.tape = w7.tape ∧ ((w7.setCell ⟨(w.heap.size + 2), 0, none⟩ (.int .u64 ik)).setCell ⟨(w.heap.size + 2), 1, none⟩ (.int .u64 iv)).drew.output = w7.output := ⟨rfl, rfl, rfl⟩
  generalize ((w7.setCell ⟨(w.heap.size + 2), 0, none⟩ (.int .u64 ik)).setCell ⟨(w.heap.size + 2), 1, none⟩ (.int .u64 iv)).drew = w8 at *
  try go_simp
  refine hK.out _ _ (HI.out _ q8) ?_
  clear hK K
  try simp only [Act.put, List.setIfInBounds_toArray, List.set_cons_zero, List.set_cons_succ]
  refine mix_do _ (by rfl) (by rfl) (fun K hK => ?_)
  go_simp
  try go_simp
  refine hK.out _ _ (HI.out _ q8) ?_
  clear hK K
  try simp only [Act.put, List.setIfInBounds_toArray, List.set_cons_zero, List.set_cons_succ]
  refine mix_do _ (by rfl) (by rfl) (fun K hK => ?_)
  go_simp
  try go_simp
  refine hK.out _ _ (HI.out _ q8) ?_
  clear hK K
  try simp only [Act.put, List.setIfInBounds_toArray, List.set_cons_zero, List.set_cons_succ]
  refine mix_nil ?_
  have e0 : (w8).cell? ⟨(w.heap.size + 2), 0, none⟩ = some (.int .u64 ik) := by rw [cell_of_block q8]; rfl
  have e1 : (w8).cell? ⟨(w.heap.size + 2), 1, none⟩ = some (.int .u64 iv) := by rw [cell_of_block q8]; rfl
  have hfin : StOn w8 ps S' Y ∧ Keep Y w w8 := by
    obtain ⟨h6, k6, -, -, y6, -, o7, z7, s7⟩ := H6.out
    have hY := HG.out.2.2.2.2.2.2.2.2
    have hz := HG.out.2.2.2.2.2.2.1
    have hw : ∀ k, k ≠ w.heap.size + 2 → w8.heap[k]? = w6.heap[k]? := fun k hk => (o8 k hk).trans (o7 k hk)
    refine ⟨(h6.write (Or.inr ⟨by omega, by omega⟩) y6 ⟨by decide, by decide⟩ (by simp) (by omega) fun k _ hk => hw k hk).mono fun k hk => Or.inl hk, ?_⟩
    have hk0 := (Keep.of_below HG.out.2.2.2.2.2.2.2.1 hY).trans (k6.mono fun k hk => Or.inl hk)
    exact ⟨(s8.1.trans s7.1).trans hk0.os, (s8.2.1.trans s7.2.1).trans hk0.tape, (s8.2.2.trans s7.2.2).trans hk0.output, by have := hk0.size; omega, fun k hk => (hw k (by have := hY k hk; omega)).trans (hk0.block k hk)⟩
  have HF := Lib.hid hfin
  clear hfin q8 o8 z8 s8 g0 g1 h0 h1 m0 m1
  go_wp2_with fail
  exact bodyPost_ret (v := .tuple #[.int .u64 x, .agg #[.int .u64 ik, .int .u64 iv], .bool true, .int .i64 0]) (by simp [results, Tryz.f358, go_sem, e0, e1]) rfl ⟨rfl, HF.out.1, HF.out.2, hi', H6.out.2.2.2.1⟩
end Go.Proofs.YtoaabbnieakidaaGreatDoorR
