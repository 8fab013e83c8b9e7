import Derived.Test.YtcibkdbpicledaaGreatDoorWap
set_option maxRecDepth 100000
set_option maxHeartbeats 6400000
namespace Go.Proofs.YtcibkdbpicledaaGreatDoor
open Go.RowKit Go.BigFrame Go.Maps Go.WideMaps Lf
def Lf.binRepM (jn : Jn) (S : St) (root k v : Nat) : Option ((Nat × Nat × Nat) × St) :=
 if (makeNode S ⟨k, v, 0, 0, 0, 1⟩).1.2 ≠ 0 then none
 else match insertOkM jn (makeNode S ⟨k, v, 0, 0, 0, 1⟩).2 root (makeNode S ⟨k, v, 0, 0, 0, 1⟩).1.1 with
  | none => none
  | some ((now, o), S1) => match dropNode S1 o with
   | (0, S2) => some ((now, (getNode S1 o).1.key, (getNode S1 o).1.val), S2)
   | _ => none
theorem binRepM_some {jn : Jn} {S S' : St} {root k v : Nat} {R : Nat × Nat × Nat} (h : binRepM jn S root k v = some (R, S')) :
 ∃ o S1, (makeNode S ⟨k, v, 0, 0, 0, 1⟩).1.2 = 0 ∧ insertOkM jn (makeNode S ⟨k, v, 0, 0, 0, 1⟩).2 root (makeNode S ⟨k, v, 0, 0, 0, 1⟩).1.1 = some ((R.1, o), S1) ∧ dropNode S1 o = (0, S') ∧ R.2.1 = (getNode S1 o).1.key ∧ R.2.2 = (getNode S1 o).1.val := by
 unfold binRepM at h
 split at h
 · cases h
 · rename_i h0
   split at h
   · cases h
   · rename_i now o S1 h1
     split at h
     · rename_i S2 h2
       have h := Option.some.inj h
       injection h with e1 e2
       subst e1 e2
       exact ⟨o, S1, Decidable.not_not.1 h0, h1, h2, rfl, rfl⟩
     · cases h
theorem bin_insert_was {w : World} {ps : Nat} {S S' : St} {Y : Nat → Prop} (h : StOn w ps S Y) (hm : MkOk S 6) {kind : Nat} {j c : FuncId} {jn : Jn} (hk : KindOk kind j c jn) (root k v : Nat) (hl : root < 18446744073709551616) (hkl : k < 18446744073709551616) (hvl : v < 18446744073709551616) {R : Nat × Nat × Nat} (hx : binRepM jn S root k v = some (R, S')) (hi' : Inv S') :
 Calls Tryz.prog 288 #[binV ps kind, .int .u64 root, itV k v] w fun e w' => e = .returned (.tuple #[.int .u64 R.1, itV R.2.1 R.2.2, .bool true, .int .i64 0]) ∧ StOn w' ps S' Y ∧ Keep Y w w' ∧ Inv S' ∧ R.1 < 18446744073709551616 := by
 obtain ⟨o, S2, h0, h1, h2, e1, e2⟩ := binRepM_some hx
 obtain ⟨x, ik, iv⟩ := R
 simp only at h1 e1 e2 ⊢
 have hi1 := makeNode_inv hm ⟨k, v, 0, 0, 0, 1⟩
 have hml := makeNode_lt h.tabwf ⟨k, v, 0, 0, 0, 1⟩
 have hmk := fun W Z (hW : StOn W ps S Z) => node_make hW hm ⟨k, v, 0, 0, 0, 1⟩ ⟨hkl, hvl, by simp, by simp, by simp, by simp⟩
 generalize makeNode S ⟨k, v, 0, 0, 0, 1⟩ = M at *
 obtain ⟨⟨m, em⟩, S1⟩ := M
 simp only at h0 h1 hi1 hml hmk
 subst h0
 have hin := fun W Z (hW : StOn W ps S1 Z) => parts_insert hW hi1 hk.joins hk.way root m hl hml h1
 have hwo := fun W Z (hi2 : Inv S2) (ho : o < 18446744073709551616) (hW : StOn W ps S2 Z) => bin_without hW hi2 kind o ho h2
 rw [← e1, ← e2] at hwo
 simp only [binV, itV, ndV] at hmk hwo ⊢
 have B1 := (Below.refl w.heap.size w).alloc (Nat.le_refl _) (.cells #[PV ps, .int .i64 kind] 185)
 have q1 := heap_alloc_new w (.cells #[PV ps, .int .i64 kind] 185)
 generalize hw1 : w.alloc (.cells #[PV ps, .int .i64 kind] 185) = w1 at *
 have z1 : w1.heap.size = w.heap.size + 1 := by rw [← hw1]; simp
 have A2 := (Below.refl w1.heap.size w1).alloc (Nat.le_refl _) (.cells #[.int .u64 k, .int .u64 v] 137)
 have B2 := B1.alloc B1.size (.cells #[.int .u64 k, .int .u64 v] 137)
 have q2 := (A2.block w.heap.size (by omega)).trans q1
 have z2 : (w1.alloc (.cells #[.int .u64 k, .int .u64 v] 137)).heap.size = w.heap.size + 2 := by simp [z1]
 generalize hw2 : w1.alloc (.cells #[.int .u64 k, .int .u64 v] 137) = w2 at *
 have A3 := (Below.refl w2.heap.size w2).alloc (Nat.le_refl _) (.cells #[.int .u64 0, .int .u64 0] 137)
 have q3 := (A3.block w.heap.size (by omega)).trans q2
 have B3 := B2.alloc B2.size (.cells #[.int .u64 0, .int .u64 0] 137)
 have y3 := heap_alloc_new w2 (.cells #[.int .u64 0, .int .u64 0] 137)
 rw [z2] at y3
 have z3 : (w2.alloc (.cells #[.int .u64 0, .int .u64 0] 137)).heap.size = w.heap.size + 3 := by simp [z2]
 subst hw2 hw1
 have hY := h.yl
 have HG := kq9 hmk hin hwo (h.wide B3) q3 y3 z3 B3 hY
 clear hmk hin hwo h q1 q2 q3 y3 A2 A3 B1 B2 B3 z1 z2 z3 hi1 h1 h2 e1 e2 hm hk hY hx
 go_enter Tryz.func288, Tryz.ntmps288
 go_wp2_with fail
 refine (HG.out.1 _ _ HG.out.2.2.2.1).mono ?_
 rintro e w4 ⟨rfl, h4, k4⟩
 have q4 := (k4.block w.heap.size (Or.inr ⟨Nat.le_refl _, by have := HG.out.2.2.2.2.2.2.1; omega⟩)).trans HG.out.2.2.2.2.1
 have y4 := (k4.block (w.heap.size + 2) (Or.inr ⟨by omega, by have := HG.out.2.2.2.2.2.2.1; omega⟩)).trans HG.out.2.2.2.2.2.1
 obtain ⟨c0, c1⟩ := cells2 q4
 have H4 := kq4 h4 k4 q4 y4
 clear h4 k4 q4 y4
 go_wp2_with fail
 obtain ⟨hp, hi5, hxl, hol⟩ := HG.out.2.1 _ _ H4.out.1
 refine hp.mono ?_
 rintro e w5 ⟨rfl, h5, k5⟩
 have q5 := (k5.block w.heap.size (Or.inr ⟨Nat.le_refl _, by have := HG.out.2.2.2.2.2.2.1; omega⟩)).trans H4.out.2.2.1
 have y5 := (k5.block (w.heap.size + 2) (Or.inr ⟨by omega, by have := HG.out.2.2.2.2.2.2.1; omega⟩)).trans H4.out.2.2.2
 obtain ⟨d0, d1⟩ := cells2 q5
 have H5 := kq6 h5 (H4.out.2.1.trans k5) hi5 hxl y5 hol
 clear h5 k5 q5 y5 hp hi5 hxl hol c0 c1
 go_wp2_with fail
 refine (HG.out.2.2.1 _ _ H5.out.2.2.1 H5.out.2.2.2.2.2 H5.out.1).mono ?_
 rintro e w6 ⟨rfl, h6, k6'⟩
 have y6 := (k6'.block (w.heap.size + 2) (Or.inr ⟨by omega, by have := HG.out.2.2.2.2.2.2.1; omega⟩)).trans H5.out.2.2.2.2.1
 obtain ⟨e0, e1⟩ := cells2 y6
 obtain ⟨f0, f1⟩ := frees2 y6
 have q7 : ((w6.setCell ⟨(w.heap.size + 2), 0, none⟩ (.int .u64 ik)).setCell ⟨(w.heap.size + 2), 1, none⟩ (.int .u64 iv)).heap[w.heap.size + 2]? = _ := st2_heap y6 (.int .u64 ik) (.int .u64 iv)
 have o7 : ∀ k, k ≠ w.heap.size + 2 → ((w6.setCell ⟨(w.heap.size + 2), 0, none⟩ (.int .u64 ik)).setCell ⟨(w.heap.size + 2), 1, none⟩ (.int .u64 iv)).heap[k]? = w6.heap[k]? := fun k hk => st2_other hk _ _
 have z7 : ((w6.setCell ⟨(w.heap.size + 2), 0, none⟩ (.int .u64 ik)).setCell ⟨(w.heap.size + 2), 1, none⟩ (.int .u64 iv)).heap.size = w6.heap.size := by simp
 have s7 : ((w6.setCell ⟨(w.heap.size + 2), 0, none⟩ (.int .u64 ik)).setCell ⟨(w.heap.size + 2), 1, none⟩ (.int .u64 iv)).os = w6.os ∧ ((w6.setCell ⟨(w.heap.size + 2), 0, none⟩ (.int .u64 ik)).setCell ⟨(w.heap.size + 2), 1, none⟩ (.int .u64 iv)).tape = w6.tape ∧ ((w6.setCell ⟨(w.heap.size + 2), 0, none⟩ (.int .u64 ik)).setCell ⟨(w.heap.size + 2), 1, none⟩ (.int .u64 iv)).output = w6.output := ⟨rfl, rfl, rfl⟩
 have hY2 : ∀ k, Y k → k < w.heap.size := HG.out.2.2.2.2.2.2.2.2
 have k6 := H5.out.2.1.trans k6'
 have H6 := kq9 h6 k6 H5.out.2.2.1 H5.out.2.2.2.1 y6 q7 o7 z7 s7
 clear y6 d0 d1 h6 k6 k6' o7 z7 s7 q7
 go_wp2_with fail
 generalize ((w6.setCell ⟨(w.heap.size + 2), 0, none⟩ (.int .u64 ik)).setCell ⟨(w.heap.size + 2), 1, none⟩ (.int .u64 iv)) = w7 at *
 have q7 := H6.out.2.2.2.2.2.1
 obtain ⟨I, hIi, hIo⟩ : ∃ I : World → Prop, (∀ w', I w' → w'.heap[w.heap.size + 2]? = some (.cells #[.int .u64 ik, .int .u64 iv] 137)) ∧ (∀ w', w'.heap[w.heap.size + 2]? = some (.cells #[.int .u64 ik, .int .u64 iv] 137) → I w') := ⟨fun w' => w'.heap[w.heap.size + 2]? = some (.cells #[.int .u64 ik, .int .u64 iv] 137), fun _ h => h, fun _ a => a⟩
 have hy0 := fun x : Keeps I => hIi _ x.ok
 obtain ⟨m0, m1⟩ := cellsX2 hy0
 obtain ⟨g0, g1⟩ := cells2 q7
 obtain ⟨h0, h1⟩ := frees2 q7
 have HI := Lib.hid hIo
 have hI0 : I w7.drew := hIo _ q7
 have HQ := Lib.hid q7
 clear e0 e1 f0 f1 q7 hIi hIo hy0
 refine wp_region_mix I [(true, 0), (true, 1), (true, 2), (true, 3), (false, 4), (false, 5), (false, 6), (false, 7)] (by kernel_rfl) (by kernel_rfl) hI0 ?_
 iterate 4
  refine' mix_take _ (by rfl) _ (by rfl) ?_ ?_
  rotate_left
  · rintro _ ⟨x, rfl⟩
    have hxm0 := m0 x
    have hxm1 := m1 x
    go_simp
    try with_reducible rfl
  try simp only [pu]
 refine mix_do _ (by rfl) (by rfl) (fun K hK => ?_)
 go_simp
 try go_simp
 refine hK.out _ _ (HI.out _ HQ.out) ?_
 clear hK K
 try simp only [pu]
 refine mix_do _ (by rfl) (by rfl) (fun K hK => ?_)
 go_simp
 have q8 : ((w7.setCell ⟨(w.heap.size + 2), 0, none⟩ (.int .u64 ik)).setCell ⟨(w.heap.size + 2), 1, none⟩ (.int .u64 iv)).drew.heap[w.heap.size + 2]? = _ := st2_heap HQ.out (.int .u64 ik) (.int .u64 iv)
 have o8 : ∀ k, k ≠ w.heap.size + 2 → ((w7.setCell ⟨(w.heap.size + 2), 0, none⟩ (.int .u64 ik)).setCell ⟨(w.heap.size + 2), 1, none⟩ (.int .u64 iv)).drew.heap[k]? = w7.heap[k]? := fun k hk => st2_other hk _ _
 have z8 : ((w7.setCell ⟨(w.heap.size + 2), 0, none⟩ (.int .u64 ik)).setCell ⟨(w.heap.size + 2), 1, none⟩ (.int .u64 iv)).drew.heap.size = w7.heap.size := by show ((w7.setCell ⟨(w.heap.size + 2), 0, none⟩ (.int .u64 ik)).setCell ⟨(w.heap.size + 2), 1, none⟩ (.int .u64 iv)).heap.size = _; simp
 have s8 : ((w7.setCell ⟨(w.heap.size + 2), 0, none⟩ (.int .u64 ik)).setCell ⟨(w.heap.size + 2), 1, none⟩ (.int .u64 iv)).drew.os = w7.os ∧ ((w7.setCell ⟨(w.heap.size + 2), 0, none⟩ (.int .u64 ik)).setCell ⟨(w.heap.size + 2), 1, none⟩ (.int .u64 iv)).drew.tape = w7.tape ∧ ((w7.setCell ⟨(w.heap.size + 2), 0, none⟩ (.int .u64 ik)).setCell ⟨(w.heap.size + 2), 1, none⟩ (.int .u64 iv)).drew.output = w7.output := ⟨rfl, rfl, rfl⟩
 generalize ((w7.setCell ⟨(w.heap.size + 2), 0, none⟩ (.int .u64 ik)).setCell ⟨(w.heap.size + 2), 1, none⟩ (.int .u64 iv)).drew = w8 at *
 try go_simp
 refine hK.out _ _ (HI.out _ q8) ?_
 clear hK K
 try simp only [pu]
 refine mix_do _ (by rfl) (by rfl) (fun K hK => ?_)
 go_simp
 try go_simp
 refine hK.out _ _ (HI.out _ q8) ?_
 clear hK K
 try simp only [pu]
 refine mix_do _ (by rfl) (by rfl) (fun K hK => ?_)
 go_simp
 try go_simp
 refine hK.out _ _ (HI.out _ q8) ?_
 clear hK K
 try simp only [pu]
 refine mix_nil ?_
 obtain ⟨e0, e1⟩ := cells2 q8
 have hfin : StOn w8 ps S' Y ∧ Keep Y w w8 := by
  obtain ⟨h6, k6, -, -, y6, -, o7, z7, s7⟩ := H6.out
  have hY := HG.out.2.2.2.2.2.2.2.2
  have hz := HG.out.2.2.2.2.2.2.1
  have hw : ∀ k, k ≠ w.heap.size + 2 → w8.heap[k]? = w6.heap[k]? := fun k hk => (o8 k hk).trans (o7 k hk)
  refine ⟨(h6.write (Or.inr ⟨by omega, by omega⟩) y6 ⟨by decide, by decide⟩ (by simp) (by omega) fun k _ hk => hw k hk).mono fun k hk => Or.inl hk, ?_⟩
  have hk0 := (Keep.of_below HG.out.2.2.2.2.2.2.2.1 hY).trans (k6.mono fun k hk => Or.inl hk)
  exact ⟨(s8.1.trans s7.1).trans hk0.os, (s8.2.1.trans s7.2.1).trans hk0.tape, (s8.2.2.trans s7.2.2).trans hk0.output, by have := hk0.size; omega, fun k hk => (hw k (by have := hY k hk; omega)).trans (hk0.block k hk)⟩
 have HF := Lib.hid hfin
 clear hfin q8 o8 z8 s8 g0 g1 h0 h1 m0 m1
 go_wp2_with fail
 exact bodyPost_ret (v := .tuple #[.int .u64 x, .agg #[.int .u64 ik, .int .u64 iv], .bool true, .int .i64 0]) (by simp [results, Tryz.f288, go_sem, e0, e1]) rfl ⟨rfl, HF.out.1, HF.out.2, hi', H6.out.2.2.2.1⟩
def Lf.treeRepM (jn : Jn) (S : St) (root : Nat) (a b : List UInt8) : Option ((Nat × Nat × Nat) × St) :=
 match itemsM S a b with
 | none => none
 | some (p, S1) => binRepM jn S1 root p.1 p.2
structure ItF (w W : World) (px ps : Nat) (ty : TypeId) (kv : Value) (kind td root : Nat) (a b : List UInt8) (S : St) (Y : Nat → Prop) (q0 q1 : Value) : Prop where
 t : TreeF W px ps ty kv kind td root
 y : W.heap[w.heap.size]? = some (.cells #[SV a, SV b] 34)
 q : W.heap[w.heap.size + 1]? = some (.cells #[q0, q1] 137)
 st : StOn W ps S (fun k => Y k ∨ (w.heap.size ≤ k ∧ k < w.heap.size + 2))
 k : Keep Y w W
theorem ItF.drew {w W : World} {px ps kind td root : Nat} {ty : TypeId} {kv : Value} {a b : List UInt8} {S : St} {Y : Nat → Prop} {q0 q1 : Value} (h : ItF w W px ps ty kv kind td root a b S Y q0 q1) : ItF w W.drew px ps ty kv kind td root a b S Y q0 q1 :=
 ⟨h.t, h.y, h.q, h.st.below (Below.refl _ _).drew, h.k.trans (Keep.drewN Y W 1)⟩
theorem ItF.call {w W W' : World} {px ps kind td root : Nat} {ty : TypeId} {kv : Value} {a b : List UInt8} {S S' : St} {Y : Nat → Prop} {q0 q1 : Value} (h : ItF w W px ps ty kv kind td root a b S Y q0 q1) (hpx : Y px) (hs : StOn W' ps S' (fun k => Y k ∨ (w.heap.size ≤ k ∧ k < w.heap.size + 2))) (hk : Keep (fun k => Y k ∨ (w.heap.size ≤ k ∧ k < w.heap.size + 2)) W W') : ItF w W' px ps ty kv kind td root a b S' Y q0 q1 :=
 ⟨h.t.keep hk (Or.inl hpx), (hk.block _ (Or.inr ⟨by omega, by omega⟩)).trans h.y, (hk.block _ (Or.inr ⟨by omega, by omega⟩)).trans h.q, hs, h.k.trans (hk.mono fun _ hk => Or.inl hk)⟩
theorem ItF.write {w W W' : World} {px ps kind td root : Nat} {ty : TypeId} {kv : Value} {a b : List UInt8} {S : St} {Y : Nat → Prop} {q0 q1 r0 r1 : Value} (h : ItF w W px ps ty kv kind td root a b S Y q0 q1) (hpx : Y px) (hY : ∀ k, Y k → k < w.heap.size) (hz : W'.heap.size = W.heap.size) (ho : W'.os = W.os ∧ W'.tape = W.tape ∧ W'.output = W.output) (hw : ∀ k, k ≠ w.heap.size + 1 → W'.heap[k]? = W.heap[k]?) (hq : W'.heap[w.heap.size + 1]? = some (.cells #[r0, r1] 137)) : ItF w W' px ps ty kv kind td root a b S Y r0 r1 := by
 have h1 := hY px hpx
 refine ⟨(hw px (by omega)).trans h.t, (hw _ (by omega)).trans h.y, hq, h.st.write (Or.inr ⟨by omega, by omega⟩) h.q ⟨by decide, by decide⟩ (by simp) (by omega) fun k _ hk => hw k hk, ?_⟩
 refine h.k.trans ⟨ho.1, ho.2.1, ho.2.2, by omega, fun k hk => hw k ?_⟩
 have := hY k hk
 omega
theorem treeF_item {w : World} {px ps kind td root : Nat} {ty : TypeId} {kv : Value} {S S' : St} {Y : Nat → Prop} (h : StOn w ps S Y) (hi : Inv S) (hT : TreeF w px ps ty kv kind td root) (hpx : Y px) (a b : List UInt8) (hm : ItemsOk S a b) {p : Nat × Nat} (hp : itemsM S a b = some (p, S')) :
 Calls Tryz.prog 82 #[PV px, prV (a, b)] w fun e w' => e = .returned (.tuple #[itV p.1 p.2, .int .i64 0]) ∧ StOn w' ps S' Y ∧ Keep Y w w' ∧ Inv S' ∧ p.1 < 18446744073709551616 ∧ p.2 < 18446744073709551616 := by
 obtain ⟨e1, e2, e3⟩ := itemsM_some hp
 have hi1 := putBlob_inv hm.2.2.1 hi
 have hi2 := putBlob_inv hm.2.2.2 hi1
 have l1 := putBlob_lt h.tabwf a
 have hp1 := fun W Z (hW : StOn W ps S Z) => blob_put hW hi a hm.1 hm.2.2.1
 have hp2 := fun W Z (hW : StOn W ps (putBlob S a).2 Z) => And.intro (blob_put hW hi1 b hm.2.1 hm.2.2.2) (putBlob_lt hW.tabwf b)
 rw [e1] at hp1 l1
 rw [e2] at hp2
 rw [← e3] at hi2 hp2
 generalize (putBlob S a).2 = S1 at *
 obtain ⟨p1, p2⟩ := p
 simp only [prV, itV] at hp1 hp2 l1 ⊢
 have B1 := (Below.refl w.heap.size w).alloc (Nat.le_refl _) (.cells #[SV a, SV b] 34)
 have y1 := heap_alloc_new w (.cells #[SV a, SV b] 34)
 have z1 : (w.alloc (.cells #[SV a, SV b] 34)).heap.size = w.heap.size + 1 := by simp
 generalize hw1 : w.alloc (.cells #[SV a, SV b] 34) = w1 at *
 have A2 := (Below.refl w1.heap.size w1).alloc (Nat.le_refl _) (.cells #[.int .u64 0, .int .u64 0] 137)
 have B2 := B1.trans (A2.mono B1.size)
 have y2 := (A2.block w.heap.size (by omega)).trans y1
 have q2 := heap_alloc_new w1 (.cells #[.int .u64 0, .int .u64 0] 137)
 have z2 : (w1.alloc (.cells #[.int .u64 0, .int .u64 0] 137)).heap.size = w.heap.size + 2 := by simp [z1]
 rw [z1] at q2
 subst hw1
 have hY := h.yl
 have hA : ItF w ((w.alloc (.cells #[SV a, SV b] 34)).alloc (.cells #[.int .u64 0, .int .u64 0] 137)) px ps ty kv kind td root a b S Y (.int .u64 0) (.int .u64 0) := ⟨hT.below B2, y2, q2, by have := h.wide B2; rwa [z2] at this, Keep.of_below B2 hY⟩
 have HG := kq4 hp1 hp2 hpx hY
 have HL := kq2 hi2 l1
 have HA := Lib.hid hA
 clear hp1 hp2 hA B1 B2 y1 y2 q2 A2 z1 z2 hY h hi hi1 hi2 l1 hm hp e1 e2 e3 hT
 go_enter Tryz.func82, Tryz.ntmps82
 go_wp2_with fail
 generalize ((w.alloc (.cells #[SV a, SV b] 34)).alloc (.cells #[.int .u64 0, .int .u64 0] 137)) = W0 at *
 obtain ⟨I, hIi, hIo⟩ := two_class (fun w' => TreeF w' px ps ty kv kind td root) (fun w' => w'.heap[w.heap.size]? = some (.cells #[SV a, SV b] 34))
 have hy0 := fun x : Keeps I => (hIi _ x.ok).1
 have hz0 := fun x : Keeps I => (hIi _ x.ok).2
 simp only [TreeF] at hy0
 obtain ⟨m0, m1, m2, m3, m4⟩ := cellsX5 hy0
 obtain ⟨n0, n1⟩ := cellsX2 hz0
 have HI := Lib.hid hIo
 clear hIi hIo hy0 hz0
 have hI0 : I W0.drew := HI.out _ HA.out.drew.t HA.out.drew.y
 refine wp_region_plan I (.take 0 (.take 1 (.take 2 (.take 3 (.take 4 (.take 5 (.go 6 (.take 7 (.take 8 (.take 9 (.take 10 (.go 11 (.go 12 .nil))))))))))))) (by kernel_rfl) (by kernel_rfl) hI0 ?_
 clear hI0
 iterate 6
  refine' plan_take _ (by rfl) _ (by rfl) ?_ ?_
  rotate_left
  · rintro _ ⟨x, rfl⟩
    have hxm0 := m0 x
    have hxn0 := n0 x
    go_simp
    try with_reducible rfl
  try simp only [pu]
 refine pD fun K hK => ?_
 go_simp
 refine (HG.out.1 _ _ HA.out.drew.st).mono ?_
 rintro e w3 ⟨rfl, h3, k3⟩
 have HAc := Lib.hid (HA.out.drew.call HG.out.2.2.1 h3 k3)
 clear h3 k3
 have q := HAc.out.q
 obtain ⟨c0, c1⟩ := cells2 q
 obtain ⟨f0, f1⟩ := frees2 q
 clear q
 try go_simp
 refine hK.out _ _ (HI.out _ HAc.out.t HAc.out.y) ?_
 clear hK K
 try simp only [pu]
 iterate 4
  refine' plan_take _ (by rfl) _ (by rfl) ?_ ?_
  rotate_left
  · rintro _ ⟨x, rfl⟩
    go_simp
    try with_reducible rfl
  try simp only [pu]
 refine pD fun K hK => ?_
 go_simp
 have HAs := Lib.hid (HAc.out.write (W' := w3.setCell ⟨w.heap.size + 1, 0, none⟩ (.int .u64 p1)) HG.out.2.2.1 HG.out.2.2.2 (by simp) ⟨rfl, rfl, rfl⟩ (fun k hk => heap_setCell_ne hk) (heap_setCell HAc.out.q))
 clear c0 c1 f0 f1
 generalize w3.setCell ⟨w.heap.size + 1, 0, none⟩ (.int .u64 p1) = w4 at *
 try go_simp
 refine hK.out _ _ (HI.out _ HAs.out.t HAs.out.y) ?_
 clear hK K
 try simp only [pu]
 refine pD fun K hK => ?_
 go_simp
 try go_simp
 refine hK.out _ _ (HI.out _ HAs.out.t HAs.out.y) ?_
 clear hK K
 try simp only [pu]
 refine plan_nil ?_
 go_wp2_with fail
 have hI0 : I w4.drew := HI.out _ HAs.out.drew.t HAs.out.drew.y
 refine wp_region_plan I (.take 0 (.take 1 (.take 2 (.take 3 (.take 4 (.take 5 (.go 6 (.take 7 (.take 8 (.take 9 (.take 10 (.go 11 (.go 12 .nil))))))))))))) (by kernel_rfl) (by kernel_rfl) hI0 ?_
 clear hI0
 iterate 6
  refine' plan_take _ (by rfl) _ (by rfl) ?_ ?_
  rotate_left
  · rintro _ ⟨x, rfl⟩
    have hxm0 := m0 x
    have hxn1 := n1 x
    go_simp
    try with_reducible rfl
  try simp only [pu]
 refine pD fun K hK => ?_
 go_simp
 obtain ⟨hb2, l2⟩ := HG.out.2.1 _ _ HAs.out.drew.st
 refine hb2.mono ?_
 rintro e w5 ⟨rfl, h3, k3⟩
 have HAsc := Lib.hid (HAs.out.drew.call HG.out.2.2.1 h3 k3)
 have Hl2 := Lib.hid l2
 clear h3 k3 hb2 l2
 have q := HAsc.out.q
 obtain ⟨c0, c1⟩ := cells2 q
 obtain ⟨f0, f1⟩ := frees2 q
 clear q
 try go_simp
 refine hK.out _ _ (HI.out _ HAsc.out.t HAsc.out.y) ?_
 clear hK K
 try simp only [pu]
 iterate 4
  refine' plan_take _ (by rfl) _ (by rfl) ?_ ?_
  rotate_left
  · rintro _ ⟨x, rfl⟩
    go_simp
    try with_reducible rfl
  try simp only [pu]
 refine pD fun K hK => ?_
 go_simp
 have HAss := Lib.hid (HAsc.out.write (W' := w5.setCell ⟨w.heap.size + 1, 1, none⟩ (.int .u64 p2)) HG.out.2.2.1 HG.out.2.2.2 (by simp) ⟨rfl, rfl, rfl⟩ (fun k hk => heap_setCell_ne hk) (heap_setCell HAsc.out.q))
 clear c0 c1 f0 f1
 generalize w5.setCell ⟨w.heap.size + 1, 1, none⟩ (.int .u64 p2) = w6 at *
 try go_simp
 refine hK.out _ _ (HI.out _ HAss.out.t HAss.out.y) ?_
 clear hK K
 try simp only [pu]
 refine pD fun K hK => ?_
 go_simp
 try go_simp
 refine hK.out _ _ (HI.out _ HAss.out.t HAss.out.y) ?_
 clear hK K
 try simp only [pu]
 refine plan_nil ?_
 have q := HAss.out.q
 obtain ⟨c0, c1⟩ := cells2 q
 obtain ⟨f0, f1⟩ := frees2 q
 have HF := Lib.hid (HAss.out.write (W' := ((w6.setCell ⟨(w.heap.size + 1), 0, none⟩ (.int .u64 p1)).setCell ⟨(w.heap.size + 1), 1, none⟩ (.int .u64 p2))) HG.out.2.2.1 HG.out.2.2.2 (by simp) ⟨rfl, rfl, rfl⟩ (fun k hk => st2_other hk _ _) (st2_heap q _ _))
 clear q
 go_wp2_with fail
 generalize ((w6.setCell ⟨(w.heap.size + 1), 0, none⟩ (.int .u64 p1)).setCell ⟨(w.heap.size + 1), 1, none⟩ (.int .u64 p2)) = w7 at *
 have q := HF.out.q
 obtain ⟨e0, e1⟩ := cells2 q
 exact bodyPost_ret (v := .tuple #[.agg #[.int .u64 p1, .int .u64 p2], .int .i64 0]) (by simp [results, Tryz.f82, go_sem, e0, e1]) rfl ⟨rfl, HF.out.st.mono fun k hk => Or.inl hk, HF.out.k, HL.out.1, HL.out.2, Hl2.out⟩
theorem treeF_gone {w : World} {px ps kind td root : Nat} {ty : TypeId} {kv : Value} {S : St} {Y : Nat → Prop} (h : StOn w ps S Y) (hi : Inv S) (hT : TreeF w px ps ty kv kind td root) (hpx : Y px) (k v : Nat) (hk : k < 18446744073709551616) (hv : v < 18446744073709551616) (hg : (getBlob S v).2 ≠ 8) (hi1 : Inv (S.drop k).2) :
 Calls Tryz.prog 83 #[PV px, itV k v, .bool true] w fun e w' => e = .returned (SV (getBlob S v).1) ∧ StOn w' ps ((S.drop k).2.drop v).2 Y ∧ Keep Y w w' := by
 have B1 := (Below.refl w.heap.size w).alloc (Nat.le_refl _) (.cells #[.int .u64 k, .int .u64 v] 137)
 have q1 := heap_alloc_new w (.cells #[.int .u64 k, .int .u64 v] 137)
 have S1 := h.wide B1
 have T1 := hT.below B1
 have hyl := h.yl
 have sw : (w.alloc (.cells #[.int .u64 k, .int .u64 v] 137)).heap.size = w.heap.size + 1 := by simp
 rw [sw] at S1
 have hbl := fun W Z (hW : StOn W ps S Z) => blob_get hW hi v hv hg
 have hd1 := fun W Z (hW : StOn W ps S Z) => st_drop hW hi k hk
 have hd2 := fun W Z (hW : StOn W ps (S.drop k).2 Z) => st_drop hW hi1 v hv
 simp only [itV]
 generalize (getBlob S v).1 = t at *
 generalize (getBlob S v).2 = er at *
 generalize (S.drop k).1 = e1 at *
 generalize (S.drop k).2 = S2 at *
 generalize (S2.drop v).1 = e2 at *
 generalize (S2.drop v).2 = S3 at *
 have HG := kq4 hbl hd1 hd2 (Keep.of_below B1 hyl)
 clear hbl hd1 hd2 h hi hi1 hg
 go_enter Tryz.func83, Tryz.ntmps83
 go_wp2_with fail
 generalize w.alloc (.cells #[.int .u64 k, .int .u64 v] 137) = W at *
 obtain ⟨I, hIi, hIo⟩ := two_class (fun w' => TreeF w' px ps ty kv kind td root) (fun w' => w'.heap[w.heap.size]? = some (.cells #[.int .u64 k, .int .u64 v] 137))
 have hy0 := fun x : Keeps I => (hIi _ x.ok).1
 have hz0 := fun x : Keeps I => (hIi _ x.ok).2
 simp only [TreeF] at hy0
 obtain ⟨m0, m1, m2, m3, m4⟩ := cellsX5 hy0
 obtain ⟨n0, n1⟩ := cellsX2 hz0
 have hI0 : I W.drew := hIo _ T1 q1
 have HI := Lib.hid hIo
 have HW := kq3 S1 T1 q1
 clear S1 T1 q1 B1 hIi hIo hy0 hz0
 refine wp_region_plan I (.take 0 (.take 1 (.take 2 (.take 3 (.take 4 (.take 5 (.go 6 (.take 7 (.take 8 (.take 9 (.take 10 (.take 11 .nil)))))))))))) (by kernel_rfl) (by kernel_rfl) hI0 ?_
 iterate 6
  refine' plan_take _ (by rfl) _ (by rfl) ?_ ?_
  rotate_left
  · rintro _ ⟨x, rfl⟩
    have hxm0 := m0 x
    have hxn0 := n0 x
    have hxn1 := n1 x
    go_simp
    try with_reducible rfl
  try simp only [pu]
 refine pD fun K hK => ?_
 go_simp
 refine (HG.out.1 _ _ (HW.out.1.drewN 1)).mono ?_
 rintro e w2 ⟨rfl, hb2⟩
 have T2 : TreeF w2 px ps ty kv kind td root := TreeF.below (w := W.drew) HW.out.2.1 hb2
 have q2 : w2.heap[w.heap.size]? = _ := (hb2.block w.heap.size (gl HW.out.2.2)).trans HW.out.2.2
 have s2 := (HW.out.1.drewN 1).below hb2
 have k2 : Keep Y W w2 := (Keep.drewN Y W 1).trans ((HW.out.1.drewN 1).keep hb2 |>.mono fun k hk => Or.inl hk)
 have H2 := kq4 s2 T2 q2 (HG.out.2.2.2.trans k2)
 clear s2 T2 q2 hb2 k2
 try go_simp
 refine hK.out _ _ (HI.out _ H2.out.2.1 H2.out.2.2.1) ?_
 clear hK K
 try simp only [pu]
 iterate 5
  refine' plan_take _ (by rfl) _ (by rfl) ?_ ?_
  rotate_left
  · rintro _ ⟨x, rfl⟩
    go_simp
    try with_reducible rfl
  try simp only [pu]
 refine plan_nil ?_
 go_wp2_with fail
 have hI2 : I w2.drew := HI.out _ H2.out.2.1 H2.out.2.2.1
 refine wp_region_plan I (.take 0 (.take 1 (.take 2 (.take 3 (.take 4 (.take 5 (.go 6 .nil))))))) (by kernel_rfl) (by kernel_rfl) hI2 ?_
 iterate 6
  refine' plan_take _ (by rfl) _ (by rfl) ?_ ?_
  rotate_left
  · rintro _ ⟨x, rfl⟩
    have hxm0 := m0 x
    have hxn0 := n0 x
    have hxn1 := n1 x
    go_simp
    try with_reducible rfl
  try simp only [pu]
 refine pD fun K hK => ?_
 go_simp
 refine (HG.out.2.1 _ _ (H2.out.1.drewN 1)).mono ?_
 rintro e w3 ⟨rfl, s3, k3⟩
 have T3 : TreeF w3 px ps ty kv kind td root := TreeF.keep (w := w2.drew) H2.out.2.1 k3 (Or.inl hpx)
 have q3 := (k3.block w.heap.size (Or.inr ⟨Nat.le_refl _, Nat.lt_succ_self _⟩)).trans H2.out.2.2.1
 have H3 := kq4 s3 T3 q3 (H2.out.2.2.2.trans ((Keep.drewN Y w2 1).trans (k3.mono fun k hk => Or.inl hk)))
 clear s3 T3 q3 k3 hI2
 try go_simp
 refine hK.out _ _ (HI.out _ H3.out.2.1 H3.out.2.2.1) ?_
 clear hK K
 try simp only [pu]
 refine plan_nil ?_
 go_wp2_with fail
 have hI3 : I w3.drew := HI.out _ H3.out.2.1 H3.out.2.2.1
 refine wp_region_plan I (.take 0 (.take 1 (.take 2 (.take 3 (.take 4 (.take 5 (.go 6 .nil))))))) (by kernel_rfl) (by kernel_rfl) hI3 ?_
 iterate 6
  refine' plan_take _ (by rfl) _ (by rfl) ?_ ?_
  rotate_left
  · rintro _ ⟨x, rfl⟩
    have hxm0 := m0 x
    have hxn0 := n0 x
    have hxn1 := n1 x
    go_simp
    try with_reducible rfl
  try simp only [pu]
 refine pD fun K hK => ?_
 go_simp
 refine (HG.out.2.2.1 _ _ (H3.out.1.drewN 1)).mono ?_
 rintro e w4 ⟨rfl, s4, k4⟩
 have T4 : TreeF w4 px ps ty kv kind td root := TreeF.keep (w := w3.drew) H3.out.2.1 k4 (Or.inl hpx)
 have q4 := (k4.block w.heap.size (Or.inr ⟨Nat.le_refl _, Nat.lt_succ_self _⟩)).trans H3.out.2.2.1
 have H4 := kq2 (s4.mono (Z := Y) fun k hk => Or.inl hk) (H3.out.2.2.2.trans ((Keep.drewN Y w3 1).trans (k4.mono fun k hk => Or.inl hk)))
 try go_simp
 refine hK.out _ _ (HI.out _ T4 q4) ?_
 clear hK K
 try simp only [pu]
 clear s4 k4 hI3 T4 q4
 refine plan_nil ?_
 go_wp2_with fail
 go_ret
 exact ⟨rfl, H4.out⟩
structure DeF (w W : World) (px ps : Nat) (ty : TypeId) (kv : Value) (kind td root : Nat) (S : St) (Y : Nat → Prop) (b9 ik iv : Nat) : Prop where
 t : TreeF W px ps ty kv kind td root
 st : StOn W ps S Y
 k : Keep Y w W
 q : W.heap[b9]? = some (.cells #[.int .u64 ik, .int .u64 iv] 137)
 l : w.heap.size ≤ b9
theorem treeF_put {w : World} {px ps kind td root : Nat} {ty : TypeId} {kv : Value} {S : St} {Y : Nat → Prop} (h : StOn w ps S Y) (hi : Inv S) (hT : TreeF w px ps ty kv kind td root) (hpx : Y px) (a b : List UInt8) (hm : ItemsOk S a b) {p : Nat × Nat} {S1 : St} (hp : itemsM S a b = some (p, S1)) (was : Bool) (tv : List UInt8) {R : Nat → Nat → Nat → St → Prop} {R2 : Nat → St → Prop} {fm : FuncId} (hme : ∀ (f : Nat) (v : Value) (w : World), (method (f + 1) ty v "loft/backend.insert").run Tryz.prog w = .ok (fm, v) w) (hen : ∀ (args : Array Value) (w : World), (callFunc fm args).run Tryz.prog w = .ok (.enter fm args) w) (hin : ∀ W Z, StOn W ps S1 Z → p.1 < 18446744073709551616 → p.2 < 18446744073709551616 → Calls Tryz.prog fm #[kv, .int .u64 root, itV p.1 p.2] W fun e w' => ∃ (x ik iv : Nat) (S' : St), e = .returned (.tuple #[.int .u64 x, itV ik iv, .bool was, .int .i64 0]) ∧ StOn w' ps S' Z ∧ Keep Z W w' ∧ R x ik iv S') (hgo : ∀ x ik iv S', R x ik iv S' → ∀ W Z, StOn W ps S' Z → TreeF W px ps ty kv kind td x → Z px → Calls Tryz.prog 83 #[PV px, itV ik iv, .bool was] W fun e w' => ∃ S3, e = .returned (SV tv) ∧ StOn w' ps S3 Z ∧ Keep Z W w' ∧ R2 x S3) :
 Calls Tryz.prog 58 #[PV px, prV (a, b)] w fun e w' => ∃ (x : Nat) (S3 : St), e = .returned (.tuple #[SV tv, .bool was, .int .i64 0]) ∧ StOn w' ps S3 Y ∧ Keep (fun k => Y k ∧ k ≠ px) w w' ∧ TreeF w' px ps ty kv kind td x ∧ R2 x S3 := by
 have ha1 : (1000 < (a.length : Int)) = False := eq_false (by have := hm.1; omega)
 have hb1 : (1000 < (b.length : Int)) = False := eq_false (by have := hm.2.1; omega)
 have B0 := (Below.refl w.heap.size w).alloc (Nat.le_refl _) (.cells #[SV a, SV b] 34)
 have hn := treeF_none (hT.below B0)
 have hit := treeF_item (h.below B0) hi (hT.below B0) hpx a b hm hp
 have hY := h.yl
 have hT0 := hT.below B0
 have hK0 := Keep.of_below B0 hY
 obtain ⟨p1, p2⟩ := p
 simp only [prV, itV] at hit hin hgo ⊢
 have HG := kq8 hn hit hin hgo hpx hY hT0 hK0
 clear hn hit hin hgo B0 h hi hT hm hp hY hT0 hK0
 go_enter Tryz.func58, Tryz.ntmps58
 go_wp2_with fail
 refine HG.out.1.mono ?_
 rintro e w0 ⟨rfl, rfl⟩
 go_wp2_with fail
 refine HG.out.2.1.mono ?_
 rintro e w1 ⟨rfl, s1, k1, i1, l1, l2⟩
 have A2 := (Below.refl w1.heap.size w1).alloc (Nat.le_refl _) (.cells #[.int .u64 p1, .int .u64 p2] 137)
 have q2 := heap_alloc_new w1 (.cells #[.int .u64 p1, .int .u64 p2] 137)
 have s2 := s1.wide A2
 have z2 : (w1.alloc (.cells #[.int .u64 p1, .int .u64 p2] 137)).heap.size = w1.heap.size + 1 := by simp
 have K2 := HG.out.2.2.2.2.2.2.2.trans (k1.trans (s1.keep A2))
 have T2 : TreeF (w1.alloc (.cells #[.int .u64 p1, .int .u64 p2] 137)) px ps ty kv kind td root := HG.out.2.2.2.2.2.2.1.keep (k1.trans (s1.keep A2)) HG.out.2.2.2.2.1
 have ins := fun W Z hW => HG.out.2.2.1 W Z hW l1 l2
 have le1 : w.heap.size ≤ w1.heap.size := by have := (HG.out.2.2.2.2.2.2.2.trans k1).size; exact this
 rw [z2] at s2
 clear s1 k1 i1 A2
 go_wp2_with fail
 generalize hw2 : w1.alloc (.cells #[.int .u64 p1, .int .u64 p2] 137) = w2 at *
 generalize hb7 : w1.heap.size = b7 at *
 clear hw2 hb7 w1
 have H2 := kq7 T2 s2 K2 q2 ins le1 z2
 obtain ⟨I, hIi, hIo⟩ := two_class (fun w' => TreeF w' px ps ty kv kind td root) (fun w' => w'.heap[b7]? = some (.cells #[.int .u64 p1, .int .u64 p2] 137))
 have hy0 := fun x : Keeps I => (hIi _ x.ok).1
 have hz0 := fun x : Keeps I => (hIi _ x.ok).2
 simp only [TreeF] at hy0
 obtain ⟨m0, m1, m2, m3, m4⟩ := cellsX5 hy0
 obtain ⟨n0, n1⟩ := cellsX2 hz0
 have hI0 : I w2.drew := hIo _ T2 q2
 have HI := Lib.hid hIo
 clear hIi hIo hy0 hz0 T2 s2 K2 q2 ins le1 z2
 refine wp_region_plan I (.take 0 (.take 1 (.take 2 (.take 3 (.take 4 (.take 5 (.take 6 (.take 7 (.take 8 (.take 9 (.take 10 (.two 11 17 (.take 12 (.take 13 (.take 14 (.take 15 (.take 16 (.go 17 (.go 18 (.go 19 (.go 20 (.go 21 .nil)))))))))) (.go 11 (.take 12 (.take 13 (.take 14 (.take 15 (.take 16 (.go 18 (.go 19 (.go 20 (.go 21 .nil)))))))))))))))))))))) (by kernel_rfl) (by kernel_rfl) hI0 ?_
 clear hI0
 iterate 11
  refine' plan_take _ (by rfl) _ (by rfl) ?_ ?_
  rotate_left
  · rintro _ ⟨x, rfl⟩
    have hxm0 := m0 x
    have hxm1 := m1 x
    have hxm2 := m2 x
    have hxm3 := m3 x
    have hxm4 := m4 x
    have hxn0 := n0 x
    have hxn1 := n1 x
    go_simp
    try with_reducible rfl
  try simp only [pu]
 refine plan_two ?h1 ?h2
 case' h1 =>
  refine pD fun K hK => ?_
  go_simp
  refine (H2.out.2.2.2.2.1 _ _ (H2.out.2.1.below (Below.refl _ _).drew)).mono ?_
  rintro e w3 ⟨x, ik, iv, S', rfl, s3, k3, i3⟩
  have T3 := TreeF.keep (w := w2.drew) H2.out.1 k3 (Or.inl HG.out.2.2.2.2.1)
  have q3 : w3.heap[b7]? = some (.cells #[.int .u64 p1, .int .u64 p2] 137) := (k3.block b7 (Or.inr ⟨Nat.le_refl _, Nat.lt_succ_self _⟩)).trans H2.out.2.2.2.1
  have H3 := kq5 T3 q3 s3 (k3.mono (Z := Y) fun k hk => Or.inl hk) i3
  clear T3 q3 s3 k3 i3
  try go_simp
  refine hK.out _ _ (HI.out _ H3.out.1 H3.out.2.1) ?_
  clear hK K
  try simp only [pu]
  iterate 5
   refine' plan_take _ (by rfl) _ (by rfl) ?_ ?_
   rotate_left
   · rintro _ ⟨x, rfl⟩
     go_simp
     try with_reducible rfl
   try simp only [pu]
  refine pD fun K hK => ?_
  go_simp
  have A4 := (Below.refl w3.heap.size w3).alloc (Nat.le_refl _) (.cells #[.int .u64 0, .int .u64 0] 137)
  have TA := H3.out.1.below A4
  have q4 := (A4.block b7 (gl H3.out.2.1)).trans H3.out.2.1
  have sA := ((H3.out.2.2.1.mono (Z := Y) fun k hk => Or.inl hk).wide A4).mono (Z := fun k => Y k ∨ k = w3.heap.size) (fun k hk => hk.imp id fun e => ⟨by omega, by simp; omega⟩)
  have kA := (H2.out.2.2.1.trans (Keep.drewN Y w2 1)).trans (H3.out.2.2.2.1.trans ((H3.out.2.2.1.mono (Z := Y) fun k hk => Or.inl hk).keep A4))
  have qA := heap_alloc_new w3 (.cells #[.int .u64 0, .int .u64 0] 137)
  have lA : w.heap.size ≤ w3.heap.size := ((H2.out.2.2.1.trans (Keep.drewN Y w2 1)).trans H3.out.2.2.2.1).size
  have iA := H3.out.2.2.2.2
  have nb : b7 ≠ w3.heap.size := Nat.ne_of_lt (gl H3.out.2.1)
  clear A4 H3
  generalize w3.alloc (.cells #[.int .u64 0, .int .u64 0] 137) = W at *
  generalize w3.heap.size = b9 at *
  try go_simp
  refine hK.out _ _ (HI.out _ TA q4) ?_
  clear hK K
  try simp only [pu]
  refine pD fun K hK => ?_
  go_simp
  try go_simp
  refine hK.out _ _ (HI.out _ TA q4) ?_
  clear hK K
  try simp only [pu]
  obtain ⟨c0, c1⟩ := cells2 qA
  obtain ⟨f0, f1⟩ := frees2 qA
  have HA := kq6 TA sA kA qA lA iA
  clear TA sA kA qA lA iA
  refine pD fun K hK => ?_
  go_simp
  have q5 : ((W.setCell ⟨b9, 0, none⟩ (.int .u64 ik)).setCell ⟨b9, 1, none⟩ (.int .u64 iv)).heap[b7]? = some (.cells #[.int .u64 p1, .int .u64 p2] 137) := (st2_other nb _ _).trans q4
  have hne : px ≠ b9 := by have := HG.out.2.2.2.2.2.1 px HG.out.2.2.2.2.1; have := HA.out.2.2.2.2.1; omega
  have qB := st2_heap HA.out.2.2.2.1 (.int .u64 ik) (.int .u64 iv)
  have oB : ∀ k, k ≠ b9 → ((W.setCell ⟨b9, 0, none⟩ (.int .u64 ik)).setCell ⟨b9, 1, none⟩ (.int .u64 iv)).heap[k]? = W.heap[k]? := fun k hk => st2_other hk _ _
  have sB : StOn ((W.setCell ⟨b9, 0, none⟩ (.int .u64 ik)).setCell ⟨b9, 1, none⟩ (.int .u64 iv)) ps S' Y := (HA.out.2.1.write (Or.inr rfl) HA.out.2.2.2.1 ⟨by decide, by decide⟩ (by simp) (by simp) fun k _ hk => oB k hk).mono fun k hk => Or.inl hk
  have kB : Keep Y w ((W.setCell ⟨b9, 0, none⟩ (.int .u64 ik)).setCell ⟨b9, 1, none⟩ (.int .u64 iv)) := HA.out.2.2.1.trans ⟨rfl, rfl, rfl, by simp, fun k hk => oB k (by have := HG.out.2.2.2.2.2.1 k hk; have := HA.out.2.2.2.2.1; omega)⟩
  have P7 : DeF w ((W.setCell ⟨b9, 0, none⟩ (.int .u64 ik)).setCell ⟨b9, 1, none⟩ (.int .u64 iv)) px ps ty kv kind td root S' Y b9 ik iv := ⟨(oB px hne).trans HA.out.1, sB, kB, qB, HA.out.2.2.2.2.1⟩
  have Hi7 := Lib.hid HA.out.2.2.2.2.2
  clear c0 c1 f0 f1 HA qB oB sB kB hne
  have H7 := Lib.hid P7
  clear P7
  generalize ((W.setCell ⟨b9, 0, none⟩ (.int .u64 ik)).setCell ⟨b9, 1, none⟩ (.int .u64 iv)) = W7 at *
  try go_simp
  refine hK.out _ _ (HI.out _ H7.out.t q5) ?_
  clear hK K
  try simp only [pu]
  refine pD fun K hK => ?_
  go_simp
  try go_simp
  refine hK.out _ _ (HI.out _ H7.out.t q5) ?_
  clear hK K
  try simp only [pu]
  refine pD fun K hK => ?_
  go_simp
  try go_simp
  refine hK.out _ _ (HI.out _ H7.out.t q5) ?_
  clear hK K
  try simp only [pu]
  refine plan_nil ?_
  clear q4 q5 w3 nb
 case' h2 =>
  refine pD fun K hK => ?_
  go_simp
  have A3 := ((Below.refl w2.heap.size w2).alloc (Nat.le_refl _) (.cells #[.int .u64 0, .int .u64 0] 137)).drew
  have T3 := H2.out.1.below A3
  have q3 := (A3.block b7 (gl H2.out.2.2.2.1)).trans H2.out.2.2.2.1
  have qz : (w2.alloc (.cells #[.int .u64 0, .int .u64 0] 137)).drew.heap[w2.heap.size]? = _ := heap_alloc_new w2 (.cells #[.int .u64 0, .int .u64 0] 137)
  have s3 := H2.out.2.1.wide A3
  have z3 : (w2.alloc (.cells #[.int .u64 0, .int .u64 0] 137)).drew.heap.size = w2.heap.size + 1 := by show (w2.alloc _).heap.size = _; simp
  have k3 := H2.out.2.2.1.trans ((H2.out.2.1.mono (Z := Y) fun k hk => Or.inl hk).keep A3)
  have nb : b7 ≠ w2.heap.size := by have := H2.out.2.2.2.2.2.2; omega
  have lz : w.heap.size ≤ w2.heap.size := H2.out.2.2.1.size
  rw [z3] at s3
  clear A3 z3
  generalize (w2.alloc (.cells #[.int .u64 0, .int .u64 0] 137)).drew = w3 at *
  generalize w2.heap.size = b9 at *
  try go_simp
  refine hK.out _ _ (HI.out _ T3 q3) ?_
  clear hK K
  try simp only [pu]
  have H3 := kq6 T3 q3 s3 k3 qz lz
  clear T3 q3 s3 k3 qz lz
  refine pD fun K hK => ?_
  go_simp
  refine (H2.out.2.2.2.2.1 _ _ H3.out.2.2.1).mono ?_
  rintro e W ⟨x, ik, iv, S', rfl, s4, k4, i4⟩
  have TA := TreeF.keep (w := w3) H3.out.1 k4 (Or.inl (Or.inl HG.out.2.2.2.2.1))
  have q4 : W.heap[b7]? = some (.cells #[.int .u64 p1, .int .u64 p2] 137) := (k4.block b7 (Or.inl (Or.inr ⟨Nat.le_refl _, Nat.lt_succ_self _⟩))).trans H3.out.2.1
  have sA := s4.mono (Z := fun k => Y k ∨ k = b9) (fun k hk => hk.elim (fun h => Or.inl (Or.inl h)) fun e => Or.inr ⟨by omega, by omega⟩)
  have kA := H3.out.2.2.2.1.trans (k4.mono (Z := Y) fun k hk => Or.inl (Or.inl hk))
  have qA : W.heap[b9]? = some (.cells #[.int .u64 0, .int .u64 0] 137) := (k4.block b9 (Or.inr ⟨Nat.le_refl _, Nat.lt_succ_self _⟩)).trans H3.out.2.2.2.2.1
  have lA := H3.out.2.2.2.2.2
  have iA := i4
  clear s4 k4 i4 H3
  try go_simp
  refine hK.out _ _ (HI.out _ TA q4) ?_
  clear hK K
  try simp only [pu]
  iterate 5
   refine' plan_take _ (by rfl) _ (by rfl) ?_ ?_
   rotate_left
   · rintro _ ⟨x, rfl⟩
     go_simp
     try with_reducible rfl
   try simp only [pu]
  refine pD fun K hK => ?_
  go_simp
  try go_simp
  refine hK.out _ _ (HI.out _ TA q4) ?_
  clear hK K
  try simp only [pu]
  obtain ⟨c0, c1⟩ := cells2 qA
  obtain ⟨f0, f1⟩ := frees2 qA
  have HA := kq6 TA sA kA qA lA iA
  clear TA sA kA qA lA iA
  refine pD fun K hK => ?_
  go_simp
  have q5 : ((W.setCell ⟨b9, 0, none⟩ (.int .u64 ik)).setCell ⟨b9, 1, none⟩ (.int .u64 iv)).heap[b7]? = some (.cells #[.int .u64 p1, .int .u64 p2] 137) := (st2_other nb _ _).trans q4
  have hne : px ≠ b9 := by have := HG.out.2.2.2.2.2.1 px HG.out.2.2.2.2.1; have := HA.out.2.2.2.2.1; omega
  have qB := st2_heap HA.out.2.2.2.1 (.int .u64 ik) (.int .u64 iv)
  have oB : ∀ k, k ≠ b9 → ((W.setCell ⟨b9, 0, none⟩ (.int .u64 ik)).setCell ⟨b9, 1, none⟩ (.int .u64 iv)).heap[k]? = W.heap[k]? := fun k hk => st2_other hk _ _
  have sB : StOn ((W.setCell ⟨b9, 0, none⟩ (.int .u64 ik)).setCell ⟨b9, 1, none⟩ (.int .u64 iv)) ps S' Y := (HA.out.2.1.write (Or.inr rfl) HA.out.2.2.2.1 ⟨by decide, by decide⟩ (by simp) (by simp) fun k _ hk => oB k hk).mono fun k hk => Or.inl hk
  have kB : Keep Y w ((W.setCell ⟨b9, 0, none⟩ (.int .u64 ik)).setCell ⟨b9, 1, none⟩ (.int .u64 iv)) := HA.out.2.2.1.trans ⟨rfl, rfl, rfl, by simp, fun k hk => oB k (by have := HG.out.2.2.2.2.2.1 k hk; have := HA.out.2.2.2.2.1; omega)⟩
  have P7 : DeF w ((W.setCell ⟨b9, 0, none⟩ (.int .u64 ik)).setCell ⟨b9, 1, none⟩ (.int .u64 iv)) px ps ty kv kind td root S' Y b9 ik iv := ⟨(oB px hne).trans HA.out.1, sB, kB, qB, HA.out.2.2.2.2.1⟩
  have Hi7 := Lib.hid HA.out.2.2.2.2.2
  clear c0 c1 f0 f1 HA qB oB sB kB hne
  have H7 := Lib.hid P7
  clear P7
  generalize ((W.setCell ⟨b9, 0, none⟩ (.int .u64 ik)).setCell ⟨b9, 1, none⟩ (.int .u64 iv)) = W7 at *
  try go_simp
  refine hK.out _ _ (HI.out _ H7.out.t q5) ?_
  clear hK K
  try simp only [pu]
  refine pD fun K hK => ?_
  go_simp
  try go_simp
  refine hK.out _ _ (HI.out _ H7.out.t q5) ?_
  clear hK K
  try simp only [pu]
  refine pD fun K hK => ?_
  go_simp
  try go_simp
  refine hK.out _ _ (HI.out _ H7.out.t q5) ?_
  clear hK K
  try simp only [pu]
  refine plan_nil ?_
  clear q4 q5 w3 nb
 all_goals
  clear m0 m1 m2 m3 m4 n0 n1 HI I
  have t7 := H7.out.t
  simp only [TreeF] at t7
  obtain ⟨c0, c1, c2, c3, c4⟩ := cells5 t7
  obtain ⟨f0, f1, f2, f3, f4⟩ := frees5 t7
  have hne : px ≠ b9 := by have := HG.out.2.2.2.2.2.1 px HG.out.2.2.2.2.1; have := H7.out.l; omega
  have t8 : TreeF (W7.setCell ⟨px, 4, none⟩ (.int .u64 x)) px ps ty kv kind td x := heap_setCell t7
  have q8 := (heap_setCell_ne (w := W7) (b := px) (i := 4) (v := .int .u64 x) hne.symm).trans H7.out.q
  have s8 : StOn (W7.setCell ⟨px, 4, none⟩ (.int .u64 x)) ps S' Y := H7.out.st.write HG.out.2.2.2.2.1 t7 ⟨by decide, by decide⟩ (by simp) (by simp) fun k _ hk => heap_setCell_ne hk
  have k8 : Keep (fun k => Y k ∧ k ≠ px) w (W7.setCell ⟨px, 4, none⟩ (.int .u64 x)) := (H7.out.k.mono fun k hk => hk.1).trans ⟨rfl, rfl, rfl, by simp, fun k hk => heap_setCell_ne hk.2⟩
  obtain ⟨e0, e1⟩ := cells2 q8
  have H8 := kq3 t8 s8 k8
  clear t7 t8 s8 k8 hne q8
  go_wp2_with fail
  refine (HG.out.2.2.2.1 x ik iv S' Hi7.out _ _ H8.out.2.1 H8.out.1 HG.out.2.2.2.2.1).mono ?_
  rintro e w9 ⟨S3, rfl, s9, k9, r9⟩
  have hfin : StOn w9 ps S3 Y ∧ Keep (fun k => Y k ∧ k ≠ px) w w9 ∧ TreeF w9 px ps ty kv kind td x ∧ R2 x S3 := ⟨s9, H8.out.2.2.trans (k9.mono fun k hk => hk.1), TreeF.keep H8.out.1 k9 HG.out.2.2.2.2.1, r9⟩
  have HF := Lib.hid hfin
  clear hfin s9 k9 H8 c0 c1 c2 c3 c4 f0 f1 f2 f3 f4 e0 e1
  go_wp2_with fail
  go_ret3
  exact ⟨x, S3, rfl, HF.out⟩
end Go.Proofs.YtcibkdbpicledaaGreatDoor
namespace Go.Proofs.YtcibkdbpicledaaGreatDoor
open Lf
theorem rd_wr_eq {s : Slab} (hw : SlabWF s) {a : Nat} (hp : a / 64 ∈ s.keys) (x : Nat) : (s.wr a x).rd a = x := by
 obtain ⟨l, h1, h2⟩ := page_some hp
 have hl := hw.len _ h2
 unfold Slab.rd
 rw [Lf.Slab.page?_wr, h1]
 simp only [Option.map_some, if_true]
 rw [List.getD_eq_getElem?_getD, List.getElem?_set_self (by simp only at hl; omega)]
 rfl
theorem putH_keys (s : Slab) (p : Nat) (x : Head) : (putH s p x).keys = s.keys := by unfold putH; rw [keys_wr, keys_wr]
theorem putH_length (s : Slab) (p : Nat) (x : Head) : (putH s p x).pages.length = s.pages.length := by unfold putH; rw [pages_wr_length, pages_wr_length]
theorem putH_quota (s : Slab) (p : Nat) (x : Head) : (putH s p x).quota = s.quota := rfl
theorem putH_wf {s : Slab} (hw : SlabWF s) (p : Nat) {x : Head} (h1 : x.kind < 256) (h2 : x.n < 256) (h3 : x.w < 18446744073709551616) : SlabWF (putH s p x) :=
 (hw.wr _ _ (by omega)).wr _ _ h3
theorem putH_rd {s : Slab} (p : Nat) (x : Head) {b : Nat} (h1 : b ≠ p * 64) (h2 : b ≠ p * 64 + 1) : (putH s p x).rd b = s.rd b := by
 unfold putH; rw [Slab.rd_wr_ne _ _ _ _ h2, Slab.rd_wr_ne _ _ _ _ h1]
theorem putH_get {s : Slab} (hw : SlabWF s) {p : Nat} (hp : p ∈ s.keys) {x : Head} (h1 : x.kind < 256) (h2 : x.n < 256) : getH (putH s p x) p = x := by
 have e1 : (p * 64 + 1) / 64 = p := by omega
 have e0 : p * 64 / 64 = p := by omega
 have hw1 : SlabWF (s.wr (p * 64) (x.kind + x.n * 256)) := hw.wr _ _ (by omega)
 have r1 : (putH s p x).rd (p * 64 + 1) = x.w := rd_wr_eq hw1 (by rw [e1, keys_wr]; exact hp) _
 have r0 : (putH s p x).rd (p * 64) = x.kind + x.n * 256 := by
  unfold putH
  rw [Slab.rd_wr_ne _ _ _ _ (by omega)]
  exact rd_wr_eq hw (by rw [e0]; exact hp) _
 unfold getH
 rw [r0, r1]
 obtain ⟨a, b, c⟩ := x
 simp only at h1 h2 ⊢
 congr 1 <;> omega
theorem getH_congr {s s' : Slab} {p : Nat} (h : ∀ b, b / 64 = p → b % 64 < 2 → s'.rd b = s.rd b) : getH s' p = getH s p := by
 unfold getH; rw [h (p * 64) (by omega) (by omega), h (p * 64 + 1) (by omega) (by omega)]
theorem zero_keys (s : Slab) (a : Nat) : ∀ n, (s.zero a n).keys = s.keys
 | 0 => rfl
 | n + 1 => by show (Slab.wr _ _ _).keys = _; rw [keys_wr, zero_keys s a n]
theorem zero_length (s : Slab) (a : Nat) : ∀ n, (s.zero a n).pages.length = s.pages.length
 | 0 => rfl
 | n + 1 => by show (Slab.wr _ _ _).pages.length = _; rw [pages_wr_length, zero_length s a n]
theorem zero_quota (s : Slab) (a : Nat) : ∀ n, (s.zero a n).quota = s.quota
 | 0 => rfl
 | n + 1 => by show (Slab.wr _ _ _).quota = _; exact zero_quota s a n
theorem zero_wf {s : Slab} (hw : SlabWF s) (a : Nat) : ∀ n, SlabWF (s.zero a n)
 | 0 => hw
 | n + 1 => (zero_wf hw a n).wr _ _ (by omega)
theorem zero_rd (s : Slab) (a : Nat) {b : Nat} : ∀ n, (b < a ∨ a + n ≤ b) → (s.zero a n).rd b = s.rd b
 | 0, _ => rfl
 | n + 1, h => by
  show (Slab.wr _ _ _).rd b = _
  rw [Slab.rd_wr_ne _ _ _ _ (by omega)]
  exact zero_rd s a n (by omega)
theorem lookup_cons_ite (a q : Nat) (b : Page) (r : List (Nat × Page)) : ((a, b) :: r).lookup q = if q = a then some b else r.lookup q := by
 rw [List.lookup_cons]
 by_cases e : q = a
 · subst e; simp
 · have : (q == a) = false := by simp [e]
   rw [this, if_neg e]
theorem lookup_ins (p q : Nat) (l : Page) : ∀ r : List (Nat × Page), (ins p l r).lookup q = if q = p then some l else r.lookup q
 | [] => by
  unfold ins
  rw [lookup_cons_ite]
 | x :: r => by
  obtain ⟨a, b⟩ := x
  unfold ins
  simp only
  split
  · rename_i h
    rw [lookup_cons_ite, lookup_ins p q l r, lookup_cons_ite]
    by_cases e : q = a
    · rw [if_pos e, if_neg (by omega), if_pos e]
    · rw [if_neg e, if_neg e]
  · rw [lookup_cons_ite]
theorem page?_add (s : Slab) (p q : Nat) : (s.add p).page? q = if q = p then some zeros else s.page? q := lookup_ins p q zeros s.pages
theorem addRun_rd (s : Slab) (p : Nat) {b : Nat} : ∀ n, (b / 64 < p ∨ p + n ≤ b / 64) → (s.addRun p n).rd b = s.rd b
 | 0, _ => rfl
 | n + 1, h => by
  rw [← addRun_rd s p n (by omega)]
  show ((s.addRun p n).add (p + n)).rd b = _
  unfold Slab.rd
  rw [page?_add, if_neg (by omega)]
theorem addRun_wf {s : Slab} (hw : SlabWF s) {p : Nat} : ∀ n, (∀ k, k < n → p + k ∉ s.keys) → p + n ≤ 1048576 → (s.pages.length + n) * 64 ≤ s.quota → SlabWF (s.addRun p n)
 | 0, _, _, _ => hw
 | n + 1, h1, h2, h3 => by
  refine (addRun_wf hw n (fun k hk => h1 k (by omega)) (by omega) (by omega)).add ?_ (by omega) ?_
  · rw [addRun_keys]
    rintro (h | h)
    · exact h1 n (by omega) h
    · omega
  · rw [addRun_length, addRun_quota]; omega
theorem lookup_filter_ne (p q : Nat) : ∀ r : List (Nat × Page), q ≠ p → (r.filter fun x => x.1 ≠ p).lookup q = r.lookup q
 | [], _ => rfl
 | x :: r, h => by
  obtain ⟨a, b⟩ := x
  rw [List.filter_cons]
  split
  · rw [lookup_cons_ite, lookup_cons_ite, lookup_filter_ne p q r h]
  · rename_i h1
    have : a = p := by simpa using h1
    subst this
    rw [lookup_filter_ne a q r h, lookup_cons_ite, if_neg h]
theorem del_rd (s : Slab) {p b : Nat} (h : b / 64 ≠ p) : (s.del p).rd b = s.rd b := by
 unfold Slab.rd
 have : (s.del p).page? (b / 64) = s.page? (b / 64) := lookup_filter_ne p _ s.pages h
 rw [this]
theorem delRun_rd (s : Slab) (p : Nat) {b : Nat} : ∀ n, (b / 64 < p ∨ p + n ≤ b / 64) → (s.delRun p n).rd b = s.rd b
 | 0, _ => rfl
 | n + 1, h => by
  rw [← delRun_rd s p n (by omega)]
  exact del_rd _ (by omega)
theorem delRun_wf {s : Slab} (hw : SlabWF s) (p : Nat) : ∀ n, SlabWF (s.delRun p n)
 | 0 => hw
 | n + 1 => (delRun_wf hw p n).del _
theorem delRun_quota (s : Slab) (p : Nat) : ∀ n, (s.delRun p n).quota = s.quota
 | 0 => rfl
 | n + 1 => delRun_quota s p n
theorem delRun_length (s : Slab) (p : Nat) : ∀ n, (s.delRun p n).pages.length ≤ s.pages.length
 | 0 => Nat.le_refl _
 | n + 1 => Nat.le_trans (List.length_filter_le _ _) (delRun_length s p n)
def spanH (x : Head) : Nat := if x.kind = 2 then x.n else 1
def HeadOk (x : Head) : Prop := (x.kind = 1 ∧ x.n < 8) ∨ (x.kind = 2 ∧ 1 ≤ x.n ∧ x.n ≤ 64)
structure Own (s : Slab) (o : Nat → Nat) : Prop where
 wf : SlabWF s
 up : ∀ p ∈ s.keys, o p ∈ s.keys ∧ o (o p) = o p ∧ o p ≤ p ∧ p < o p + spanH (getH s (o p))
 down : ∀ h ∈ s.keys, o h = h → HeadOk (getH s h) ∧ ∀ k, k < spanH (getH s h) → h + k ∈ s.keys ∧ o (h + k) = h
theorem HeadOk.small {x : Head} (h : HeadOk x) : x.kind < 256 ∧ x.n < 256 := by rcases h with h | h <;> omega
theorem mem_headsFrom_own {s : Slab} {o : Nat → Nat} (h : Own s o) : ∀ (ks : List Nat) (nx : Nat), ks.Pairwise (· < ·) → (∀ q ∈ ks, q ∈ s.keys) → (∀ q ∈ ks, o q ∈ ks → nx ≤ q) → (∀ q ∈ ks, o q ∉ ks → q < nx) → ∀ y, y ∈ headsFrom s nx ks ↔ (y.1 ∈ ks ∧ o y.1 = y.1 ∧ y.2 = getH s y.1)
 | [], nx, _, _, _, _, y => by simp [headsFrom]
 | p :: r, nx, hs, hk, h1, h2, y => by
  have hpr := (List.pairwise_cons.1 hs).1
  have hrs := (List.pairwise_cons.1 hs).2
  have hpk := hk p (List.mem_cons_self ..)
  have up := h.up p hpk
  unfold headsFrom
  by_cases hlt : p < nx
  · rw [if_pos hlt]
    have hop : o p ∉ p :: r := fun hm => by have := h1 p (List.mem_cons_self ..) hm; omega
    have hne : o p ≠ p := fun e => hop (by rw [e]; exact List.mem_cons_self ..)
    have hmem : ∀ q ∈ r, o q ∈ p :: r → o q ∈ r := fun q hq hm => by
     rcases List.mem_cons.1 hm with e | e
     · exfalso
       have := (h.up q (hk q (List.mem_cons_of_mem _ hq))).2.1
       rw [e] at this
       exact hne this
     · exact e
    rw [mem_headsFrom_own h r nx hrs (fun q hq => hk q (List.mem_cons_of_mem _ hq)) (fun q hq hm => h1 q (List.mem_cons_of_mem _ hq) (List.mem_cons_of_mem _ hm))
     (fun q hq hm => h2 q (List.mem_cons_of_mem _ hq) fun hm2 => hm (hmem q hq hm2)) y]
    constructor
    · rintro ⟨a, b, c⟩; exact ⟨List.mem_cons_of_mem _ a, b, c⟩
    · rintro ⟨a, b, c⟩
      rcases List.mem_cons.1 a with e | e
      · exfalso; rw [e] at b; exact hne b
      · exact ⟨e, b, c⟩
  · rw [if_neg hlt]
    have hin : o p ∈ p :: r := Classical.byContradiction fun hn => hlt (h2 p (List.mem_cons_self ..) hn)
    have hop : o p = p := by
     rcases List.mem_cons.1 hin with e | e
     · exact e
     · have := hpr _ e; omega
    have dn := h.down p hpk hop
    have sp : p < p + spanH (getH s p) := by have := up.2.2.2; rw [hop] at this; exact this
    rw [List.mem_cons, mem_headsFrom_own h r _ hrs (fun q hq => hk q (List.mem_cons_of_mem _ hq)) ?_ ?_ y]
    · constructor
      · rintro (e | ⟨a, b, c⟩)
        · subst e; exact ⟨List.mem_cons_self .., hop, rfl⟩
        · exact ⟨List.mem_cons_of_mem _ a, b, c⟩
      · rintro ⟨a, b, c⟩
        rcases List.mem_cons.1 a with e | e
        · left; obtain ⟨y1, y2⟩ := y; simp only at e c ⊢; rw [c, e]
        · exact Or.inr ⟨e, b, c⟩
    · intro q hq hm
      have hpq := hpr q hq
      have hnq := h1 q (List.mem_cons_of_mem _ hq) (List.mem_cons_of_mem _ hm)
      split
      · rename_i hk2
        refine Classical.byContradiction fun hn => ?_
        have hs2 : spanH (getH s p) = (getH s p).n := by unfold spanH; rw [if_pos hk2]
        have := (dn.2 (q - p) (by rw [hs2]; omega)).2
        rw [show p + (q - p) = q by omega] at this
        rw [this] at hm
        have := hpr p hm
        omega
      · exact hnq
    · intro q hq hm
      have hpq := hpr q hq
      by_cases e : o q = p
      · have hu := (h.up q (hk q (List.mem_cons_of_mem _ hq))).2.2.2
        rw [e] at hu
        unfold spanH at hu
        split
        · rename_i hk2; rw [if_pos hk2] at hu; exact hu
        · rename_i hk2; rw [if_neg hk2] at hu; omega
      · have := h2 q (List.mem_cons_of_mem _ hq) (fun h3 => by
         rcases List.mem_cons.1 h3 with e2 | e2
         · exact e e2
         · exact hm e2)
        omega
theorem Own.mem_heads {s : Slab} {o : Nat → Nat} (h : Own s o) (y : Nat × Head) : y ∈ heads s ↔ (y.1 ∈ s.keys ∧ o y.1 = y.1 ∧ y.2 = getH s y.1) :=
 mem_headsFrom_own h s.keys 0 h.wf.sorted (fun _ hq => hq) (fun _ _ _ => Nat.zero_le _) (fun q hq hn => absurd (h.up q hq).1 hn) y
theorem slot_room {c k : Nat} (hc : c < 8) (hk : k < classSlots c) (h : Nat) : placeH h c k = h * 64 + 2 + k * classSize c ∧ k * classSize c + classSize c ≤ 62 ∧ 2 ≤ classSize c := by
 have e : placeH h c k = h * 64 + 2 + k * classSize c := by unfold placeH classPlace; rw [if_pos ⟨hc, hk⟩]; omega
 refine ⟨e, ?_⟩
 have : c = 0 ∨ c = 1 ∨ c = 2 ∨ c = 3 ∨ c = 4 ∨ c = 5 ∨ c = 6 ∨ c = 7 := by omega
 rcases this with rfl | rfl | rfl | rfl | rfl | rfl | rfl | rfl <;> simp [classSlots, classSize, sizes] at hk ⊢ <;> omega
theorem slot_apart {c k k' : Nat} (h : k ≠ k') : k * classSize c + classSize c ≤ k' * classSize c ∨ k' * classSize c + classSize c ≤ k * classSize c := by
 rcases Nat.lt_or_gt_of_ne h with h | h
 · left
   have := Nat.mul_le_mul_right (classSize c) (show k + 1 ≤ k' from h)
   rw [Nat.add_mul] at this
   omega
 · right
   have := Nat.mul_le_mul_right (classSize c) (show k' + 1 ≤ k from h)
   rw [Nat.add_mul] at this
   omega
theorem slots_lt {c k : Nat} (h : k < classSlots c) : c < 8 ∧ k < 31 := by
 have hc : c < 8 := by
  unfold classSlots at h
  split at h
  · assumption
  · omega
 refine ⟨hc, ?_⟩
 have : c = 0 ∨ c = 1 ∨ c = 2 ∨ c = 3 ∨ c = 4 ∨ c = 5 ∨ c = 6 ∨ c = 7 := by omega
 rcases this with rfl | rfl | rfl | rfl | rfl | rfl | rfl | rfl <;> simp [classSlots, sizes] at h <;> omega
def BlkOf (x : Head) (h a r : Nat) : Prop := (x.kind = 1 ∧ ∃ k, k < classSlots x.n ∧ x.w.testBit k = true ∧ a = placeH h x.n k ∧ r = classSize x.n) ∨ (x.kind = 2 ∧ a = h * 64 + 2 ∧ r + 2 = x.n * 64)
def PlaceAt (s : Slab) (o : Nat → Nat) (h a r : Nat) : Prop := h ∈ s.keys ∧ o h = h ∧ BlkOf (getH s h) h a r
def Place (s : Slab) (o : Nat → Nat) (a r : Nat) : Prop := ∃ h, PlaceAt s o h a r
theorem BlkOf.pos {x : Head} {h a r : Nat} (hx : HeadOk x) (hb : BlkOf x h a r) : 2 ≤ r ∧ a / 64 = h ∧ 2 ≤ a % 64 := by
 rcases hb with ⟨h1, k, h2, h3, h4, h5⟩ | ⟨h1, h2, h3⟩
 · obtain ⟨e1, e2, e3⟩ := slot_room (slots_lt h2).1 h2 h
   rw [h5, h4, e1]
   omega
 · rcases hx with hx | hx
   · omega
   · refine ⟨by omega, by omega, by omega⟩
theorem PlaceAt.word {s : Slab} {o : Nat → Nat} (ho : Own s o) {h a r b : Nat} (hp : PlaceAt s o h a r) (hb : b < r) : (a + b) / 64 ∈ s.keys ∧ o ((a + b) / 64) = h ∧ ((a + b) / 64 = h → 2 ≤ (a + b) % 64) := by
 obtain ⟨h1, h2, h3⟩ := hp
 obtain ⟨hd, dn⟩ := ho.down h h1 h2
 rcases h3 with ⟨g1, k, g2, g3, g4, g5⟩ | ⟨g1, g2, g3⟩
 · obtain ⟨e1, e2, e3⟩ := slot_room (slots_lt g2).1 g2 h
   have e4 : (a + b) / 64 = h := by omega
   rw [e4]
   exact ⟨h1, h2, fun _ => by omega⟩
 · have hs : spanH (getH s h) = (getH s h).n := by unfold spanH; rw [if_pos g1]
   have := dn ((a + b) / 64 - h) (by rw [hs]; omega)
   rw [show h + ((a + b) / 64 - h) = (a + b) / 64 by omega] at this
   exact ⟨this.1, this.2, fun _ => by omega⟩
theorem PlaceAt.not_head {s : Slab} {o : Nat → Nat} (ho : Own s o) {h a r b h' : Nat} (hp : PlaceAt s o h a r) (hb : b < r) (hh : o h' = h') (e : (a + b) / 64 = h') : 2 ≤ (a + b) % 64 := by
 obtain ⟨_, h2, h3⟩ := hp.word ho hb
 rw [e, hh] at h2
 exact h3 (e.trans h2)
theorem PlaceAt.pos {s : Slab} {o : Nat → Nat} (ho : Own s o) {h a r : Nat} (hp : PlaceAt s o h a r) : 2 ≤ r ∧ a / 64 = h ∧ 2 ≤ a % 64 := hp.2.2.pos (ho.down h hp.1 hp.2.1).1
theorem PlaceAt.apart {s : Slab} {o : Nat → Nat} (ho : Own s o) {h a r h' a' r' : Nat} (hp : PlaceAt s o h a r) (hp' : PlaceAt s o h' a' r') : (a = a' ∧ r = r') ∨ a + r ≤ a' ∨ a' + r' ≤ a := by
 by_cases e : h = h'
 · subst e
   rcases hp.2.2 with ⟨g1, k, g2, g3, g4, g5⟩ | ⟨g1, g2, g3⟩
   · rcases hp'.2.2 with ⟨f1, k', f2, f3, f4, f5⟩ | ⟨f1, f2, f3⟩
     · by_cases ek : k = k'
       · subst ek; left; exact ⟨g4.trans f4.symm, g5.trans f5.symm⟩
       · right
         have hc := (slots_lt g2).1
         rw [(slot_room hc g2 h).1] at g4
         rw [(slot_room hc f2 h).1] at f4
         have := slot_apart (c := (getH s h).n) ek
         omega
     · omega
   · rcases hp'.2.2 with ⟨f1, k', f2, f3, f4, f5⟩ | ⟨f1, f2, f3⟩
     · omega
     · left; omega
 · right
   refine Classical.byContradiction fun hn => e ?_
   have p1 := (hp.pos ho).1
   have p2 := (hp'.pos ho).1
   rcases Nat.le_total a a' with hl | hl
   · have w1 := (hp.word ho (b := a' - a) (by omega)).2.1
     have w2 := (hp'.word ho (b := 0) (by omega)).2.1
     rw [show a + (a' - a) = a' + 0 by omega] at w1
     rw [← w1, ← w2]
   · have w1 := (hp'.word ho (b := a - a') (by omega)).2.1
     have w2 := (hp.word ho (b := 0) (by omega)).2.1
     rw [show a' + (a - a') = a + 0 by omega] at w1
     rw [← w1, ← w2]
theorem Place.apart {s : Slab} {o : Nat → Nat} (ho : Own s o) {a r a' r' : Nat} (hp : Place s o a r) (hp' : Place s o a' r') : (a = a' ∧ r = r') ∨ a + r ≤ a' ∨ a' + r' ≤ a := by
 obtain ⟨h, hp⟩ := hp
 obtain ⟨h', hp'⟩ := hp'
 exact hp.apart ho hp'
theorem Place.ok {s : Slab} {o : Nat → Nat} (ho : Own s o) {a r b : Nat} (hp : Place s o a r) (hb : b < r) : s.err (a + b) = 0 ∧ a + b ≤ lastAddr ∧ (a + b) / 64 ∈ s.keys := by
 obtain ⟨h, hp⟩ := hp
 have hk := (hp.word ho hb).1
 have := ho.wf.top _ hk
 have hl : a + b ≤ lastAddr := by unfold lastAddr; omega
 exact ⟨err_ok hl hk, hl, hk⟩
theorem Own.same {s s' : Slab} {o : Nat → Nat} (h : Own s o) (hw : SlabWF s') (hk : s'.keys = s.keys) (hg : ∀ p ∈ s.keys, o p = p → getH s' p = getH s p) : Own s' o where
 wf := hw
 up p hp := by
  rw [hk] at hp ⊢
  have := h.up p hp
  rw [hg _ this.1 this.2.1]
  exact this
 down p hp ho := by
  rw [hk] at hp ⊢
  rw [hg p hp ho]
  exact h.down p hp ho
theorem PlaceAt.same {s s' : Slab} {o : Nat → Nat} (hk : s'.keys = s.keys) (hg : ∀ p ∈ s.keys, o p = p → getH s' p = getH s p) {h a r : Nat} (hp : PlaceAt s o h a r) : PlaceAt s' o h a r :=
 ⟨by rw [hk]; exact hp.1, hp.2.1, by rw [hg h hp.1 hp.2.1]; exact hp.2.2⟩
theorem Own.wr {s : Slab} {o : Nat → Nat} (h : Own s o) {a r b x : Nat} (hp : Place s o a r) (hb : b < r) (hx : x < 18446744073709551616) : Own (s.wr (a + b) x) o ∧ (∀ a0 r0, Place s o a0 r0 → Place (s.wr (a + b) x) o a0 r0) := by
 obtain ⟨h0, hp⟩ := hp
 have hg : ∀ p ∈ s.keys, o p = p → getH (s.wr (a + b) x) p = getH s p := fun p _ ho => getH_congr fun c e1 e2 => Slab.rd_wr_ne _ _ _ _ (by
  rintro rfl
  have := hp.not_head h hb ho e1
  omega)
 exact ⟨h.same (h.wf.wr _ _ hx) (keys_wr _ _ _) hg, fun a0 r0 ⟨h1, q⟩ => ⟨h1, q.same (keys_wr _ _ _) hg⟩⟩
