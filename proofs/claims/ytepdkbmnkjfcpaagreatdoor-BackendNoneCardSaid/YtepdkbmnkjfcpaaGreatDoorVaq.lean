/- The heap: a slot is left, a block is freed: the walks. The store: a record less: the walk. -/
import Derived.Test.YtepdkbmnkjfcpaaGreatDoorVap
import Derived.Test.YtepdkbmnkjfcpaaGreatDoorVag
import Derived.Test.YtepdkbmnkjfcpaaGreatDoorVaj
import Derived.Test.YtepdkbmnkjfcpaaGreatDoorVah
set_option maxRecDepth 100000
set_option maxHeartbeats 1600000
namespace Go.Proofs.YtepdkbmnkjfcpaaGreatDoor
open Go.RowKit Go.BigFrame Go.Maps Go.WideMaps Lf
theorem slab_release_big {w : World} {pa pm : Nat} {s : Slab} {Y : Nat → Prop} {blk : Nat → Nat} (h : SlabOn w pa pm s Y blk) (p n : Nat) (hg : 4096 < n) :
    Calls Tryz.prog 168 #[PV pa, .int .i64 p, .int .i64 n] w fun e w' => e = .returned (.int .i64 ((s.release p n).1 : Nat)) ∧ SlabOn w' pa pm (s.release p n).2 Y blk ∧ Keep Y w w' := by
  have hno := Lib.hid (slab_none h)
  have he : s.release p n = (2, s) := by unfold Slab.release; rw [if_pos (by omega)]
  rw [he]
  have H := Lib.hid h
  have hg1 : 1 ≤ n := by omega
  clear h he
  go_enter Tryz.func168, Tryz.ntmps168
  go_wp2_with fail
  refine hno.out.mono ?_
  rintro e w' ⟨rfl, rfl⟩
  go_wp2_with fail
  go_ret
  exact ⟨rfl, H.out, Keep.refl _ _⟩
theorem HeapOn.release {w : World} {ph pa pm : Nat} {s : Slab} {Y : Nat → Prop} (h : HeapOn w ph pa pm s Y) (p n : Nat) (hp : p ≤ 1048575) :
    Calls Tryz.prog 168 #[PV pa, .int .i64 p, .int .i64 n] w fun e w' => e = .returned (.int .i64 ((s.release p n).1 : Nat)) ∧ HeapOn w' ph pa pm (s.release p n).2 Y ∧ Keep Y w w' := by
  obtain ⟨blk, hs⟩ := h.slab
  by_cases hn : n ≤ 100000000
  · refine (slab_release hs p n hp hn).mono ?_
    rintro e w' ⟨he, h1, h2⟩
    exact ⟨he, h.step ⟨blk, h1⟩ h2, h2⟩
  · refine (slab_release_big hs p n (by omega)).mono ?_
    rintro e w' ⟨he, h1, h2⟩
    exact ⟨he, h.step ⟨blk, h1⟩ h2, h2⟩
theorem head_eql (a b c d e f : Int) (W : World) : (binOp .eql 204 (.agg #[.int .i64 a, .int .i64 b, .int .u64 c]) (.agg #[.int .i64 d, .int .i64 e, .int .u64 f])).run Tryz.prog W = .ok (.bool (decide (a = d ∧ b = e ∧ c = f))) W := by
  go_simp
  by_cases h1 : a = d <;> by_cases h2 : b = e <;> by_cases h3 : c = f <;> simp [h1, h2, h3]
theorem bitClear_lt {w k : Nat} (hw : w < 18446744073709551616) : bitClear w k < 18446744073709551616 := Nat.lt_of_le_of_lt Nat.and_le_left hw
theorem heap_leave {w : World} {ph pa pm : Nat} {s : Slab} {Y : Nat → Prop} (h : HeapOn w ph pa pm s Y) (p k : Nat) (hp : p ≤ 1048575) (hk : k < 64) :
    Calls Tryz.prog 169 #[PV ph, .int .i64 p, .int .i64 k] w fun e w' => e = .returned (.tuple #[]) ∧ HeapOn w' ph pa pm (leaveH s p k) Y ∧ Keep Y w w' := by
  have hgl := getH_lt h p
  have hget := heap_get h p (by omega)
  have ht : leaveH s p k = if (⟨(getH s p).kind, (getH s p).n, bitClear (getH s p).w k⟩ : Head) = ⟨1, (getH s p).n, 0⟩ then ((putH s p ⟨(getH s p).kind, (getH s p).n, bitClear (getH s p).w k⟩).release p 1).2 else putH s p ⟨(getH s p).kind, (getH s p).n, bitClear (getH s p).w k⟩ := rfl
  rw [ht]
  clear ht
  generalize getH s p = x at *
  obtain ⟨kd, xn, xw⟩ := x
  simp only at hgl hget ⊢
  obtain ⟨hg1, hg2, hg3⟩ := hgl
  have hset := fun W => bits_clear xw k W hg3 hk
  have hbl := bitClear_lt (k := k) hg3
  have hput : ∀ W, HeapOn W ph pa pm s Y → _ := fun W hW => heap_put (hW.own (.cells #[.int .i64 kd, .int .i64 xn, .int .u64 (bitClear xw k : Nat)] 204)) p ⟨kd, xn, bitClear xw k⟩ (by omega) hg1 hg2 hbl
  simp only [headV] at hget hput
  generalize bitClear xw k = bs at *
  generalize putH s p ⟨kd, xn, bs⟩ = s1 at *
  have hrel := fun W (hW : HeapOn W ph pa pm s1 Y) => hW.release p 1 hp
  obtain ⟨B, hB⟩ : ∃ B, decide ((kd : Int) = 1 ∧ (xn : Int) = xn ∧ (bs : Int) = 0) = B := ⟨_, rfl⟩
  have hql := fun W => head_eql kd xn bs 1 xn 0 W
  rw [hB] at hql
  have hBe : ((⟨kd, xn, bs⟩ : Head) = ⟨1, xn, 0⟩) = (B = true) := by
    rw [← hB]
    simp
    omega
  simp only [hBe]
  have hc := h.cell
  have HG := Lib.hid (And.intro hget (And.intro hset (And.intro hput (And.intro hrel h))))
  clear hget hset hput hrel h hB hBe
  go_enter Tryz.func169, Tryz.ntmps169
  go_wp2_with fail
  refine HG.out.1.mono ?_
  rintro e w1 ⟨rfl, hb1⟩
  have H1 := Lib.hid (And.intro (HG.out.2.2.2.2.below hb1) (HG.out.2.2.2.2.keep hb1))
  clear hb1
  go_wp2_with fail
  refine (HG.out.2.1 _).mono ?_
  rintro e w2 ⟨rfl, rfl⟩
  go_wp2_with fail
  refine (HG.out.2.2.1 w1 H1.out.1).mono ?_
  rintro e w3 ⟨rfl, h3, k3⟩
  have hnew : (w1.alloc (.cells #[.int .i64 kd, .int .i64 xn, .int .u64 (bs : Nat)] 204)).heap[w1.heap.size]? = some (.cells #[.int .i64 kd, .int .i64 xn, .int .u64 (bs : Nat)] 204 (0, 0)) := by
    show (w1.heap.push _)[w1.heap.size]? = _; simp
  have hn3 := (k3.block w1.heap.size (Or.inr rfl)).trans hnew
  have b0 : (w3).cell? ⟨w1.heap.size, 0, none⟩ = some (.int .i64 kd) := by rw [cell_of_block hn3]; rfl
  have b1 : (w3).cell? ⟨w1.heap.size, 1, none⟩ = some (.int .i64 xn) := by rw [cell_of_block hn3]; rfl
  have b2 : (w3).cell? ⟨w1.heap.size, 2, none⟩ = some (.int .u64 (bs : Nat)) := by rw [cell_of_block hn3]; rfl
  have hka : Keep Y w1 (w1.alloc (.cells #[.int .i64 kd, .int .i64 xn, .int .u64 (bs : Nat)] 204)) := H1.out.1.keep ((Below.refl _ w1).alloc (Nat.le_refl _) _)
  have h3' := h3.mono (fun k hk => Or.inl hk) HG.out.2.2.2.2.yh HG.out.2.2.2.2.yt
  have c3 := h3'.cell
  have H3 := Lib.hid (And.intro h3' (H1.out.2.trans (hka.trans (k3.mono fun k hk => Or.inl hk))))
  clear h3 k3 hnew hka hn3 h3'
  cases B with
  | true =>
    go_wp2_with fail
    refine (HG.out.2.2.2.1 _ H3.out.1).mono ?_
    rintro e w4 ⟨rfl, h4, k4⟩
    have H4 := Lib.hid (And.intro h4 (H3.out.2.trans k4))
    clear h4 k4
    go_wp2_with fail
    go_end0
    exact ⟨rfl, H4.out⟩
  | false =>
    go_wp2_with fail
    go_end0
    exact ⟨rfl, H3.out⟩
theorem findIn_mem (addr : Nat) {p k : Nat} {x : Head} : ∀ l : List (Nat × Head), findIn addr l = some (p, k, x) → (p, x) ∈ l ∧ k < 64
  | (q, y) :: l, h => by
    rw [findIn_cons] at h
    split at h
    · injection h with h
      injection h with h1 h2
      injection h2 with h2 h3
      subst h1 h2 h3
      exact ⟨by simp, by omega⟩
    · split at h
      · exact ⟨List.mem_cons_of_mem _ (findIn_mem addr l h).1, (findIn_mem addr l h).2⟩
      · split at h
        · rename_i j hj
          injection h with h
          injection h with h1 h2
          injection h2 with h2 h3
          subst h1 h2 h3
          refine ⟨by simp, ?_⟩
          unfold slotAt at hj
          have h4 := List.mem_of_find?_eq_some hj
          have h5 := classSlots_le y.n
          have h6 := List.mem_range.1 h4
          omega
        · exact ⟨List.mem_cons_of_mem _ (findIn_mem addr l h).1, (findIn_mem addr l h).2⟩
theorem findH_at {w : World} {ph pa pm : Nat} {s : Slab} {Y : Nat → Prop} (h : HeapOn w ph pa pm s Y) {addr p k : Nat} {x : Head} (hf : findH s addr = some (p, k, x)) : p ≤ 1048575 ∧ k < 64 ∧ x.kind < 256 ∧ x.n < 72057594037927936 ∧ x.w < 18446744073709551616 := by
  obtain ⟨h1, h2⟩ := findIn_mem addr _ hf
  obtain ⟨h3, h4⟩ := mem_headsFrom _ _ h1
  have h5 := getH_lt h p
  simp only at h3 h4
  rw [← h4] at h5
  exact ⟨h.wf.top p h3, h2, h5⟩
theorem heap_free {w : World} {ph pa pm : Nat} {s : Slab} {Y : Nat → Prop} (h : HeapOn w ph pa pm s Y) (addr : Nat) (ha : addr ≤ 4611686018427387903) :
    Calls Tryz.prog 122 #[PV ph, .int .i64 addr] w fun e w' => e = .returned (.int .i64 ((freeH s addr).1 : Nat)) ∧ HeapOn w' ph pa pm (freeH s addr).2 Y ∧ Keep Y w w' := by
  have hno := heap_none h
  have hfd := heap_find h addr ha
  obtain ⟨R, hR⟩ : ∃ R, freeH s addr = R := ⟨_, rfl⟩
  rw [hR]
  cases hf : findH s addr with
  | none =>
    rw [hf] at hfd
    have hRe : R = (5, s) := by rw [← hR]; unfold freeH; rw [hf]
    simp only [findV, headV] at hfd
    have HG := Lib.hid (And.intro hno (And.intro hfd (And.intro hRe h)))
    clear hno hfd hRe h hR hf
    go_enter Tryz.func122, Tryz.ntmps122
    go_wp2_with fail
    refine HG.out.1.mono ?_
    rintro e w1 ⟨rfl, rfl⟩
    go_wp2_with fail
    refine HG.out.2.1.mono ?_
    rintro e w1 ⟨rfl, hb1⟩
    have hb2 := hb1.alloc hb1.size (.cells #[.int .i64 (0 : Nat), .int .i64 (0 : Nat), .int .u64 (0 : Nat)] 204)
    have H1 := Lib.hid (And.intro (HG.out.2.2.2.below hb2) (HG.out.2.2.2.keep hb2))
    clear hb1 hb2
    go_wp2_with fail
    go_ret
    obtain rfl := HG.out.2.2.1
    exact ⟨rfl, H1.out⟩
  | some r =>
    obtain ⟨p, k, x⟩ := r
    have hat := findH_at h hf
    rw [hf] at hfd
    have hRe : R = if x.kind = 2 then s.release p x.n else (0, leaveH s p k) := by rw [← hR]; unfold freeH; rw [hf]
    obtain ⟨kd, xn, xw⟩ := x
    simp only [findV, headV] at hfd hat hRe
    obtain ⟨h1, h2, h3, h4, h5⟩ := hat
    have hrel := fun W Z (hW : HeapOn W ph pa pm s Z) => hW.release p xn h1
    have hlv := fun W (hW : HeapOn W ph pa pm s Y) => heap_leave hW p k h1 h2
    have HG := Lib.hid (And.intro hno (And.intro hfd (And.intro hRe (And.intro h (And.intro hrel hlv)))))
    clear hno hfd hRe h hrel hlv hR hf
    by_cases hk2 : kd = 2
    · obtain rfl := hk2
      go_enter Tryz.func122, Tryz.ntmps122
      go_wp2_with fail
      refine HG.out.1.mono ?_
      rintro e w1 ⟨rfl, rfl⟩
      go_wp2_with fail
      refine HG.out.2.1.mono ?_
      rintro e w1 ⟨rfl, hb1⟩
      have ho := (HG.out.2.2.2.1.below hb1).own (.cells #[.int .i64 (2 : Nat), .int .i64 xn, .int .u64 (xw : Nat)] 204)
      have hb2 := hb1.alloc hb1.size (.cells #[.int .i64 (2 : Nat), .int .i64 xn, .int .u64 (xw : Nat)] 204)
      have hnew := heap_alloc_new w1 (.cells #[.int .i64 (2 : Nat), .int .i64 xn, .int .u64 (xw : Nat)] 204)
      have hlt := hb1.size
      have H1 := Lib.hid (And.intro ho (And.intro (HG.out.2.2.2.1.keep hb2) hnew))
      clear hb1 hb2 ho
      go_wp2_with fail
      generalize w1.alloc (.cells #[.int .i64 (2 : Nat), .int .i64 xn, .int .u64 (xw : Nat)] 204) = W at *
      obtain ⟨I, hIi, hIo⟩ : ∃ I : World → Prop, (∀ W', HeapOn W' ph pa pm s (And1 Y w1.heap.size) ∨ HeapOn W' ph pa pm (s.release p xn).2 (And1 Y w1.heap.size) → W'.heap[w1.heap.size]? = some (.cells #[.int .i64 (2 : Nat), .int .i64 xn, .int .u64 (xw : Nat)] 204 (0, 0)) → I W') ∧ (∀ W', I W' → W'.cell? ⟨ph, 0, none⟩ = some (PV pa) ∧ W'.heap[w1.heap.size]? = some (.cells #[.int .i64 (2 : Nat), .int .i64 xn, .int .u64 (xw : Nat)] 204 (0, 0))) :=
        ⟨fun W' => W'.cell? ⟨ph, 0, none⟩ = some (PV pa) ∧ W'.heap[w1.heap.size]? = some (.cells #[.int .i64 (2 : Nat), .int .i64 xn, .int .u64 (xw : Nat)] 204 (0, 0)), fun W' h1 h2 => ⟨h1.elim (·.cell) (·.cell), h2⟩, fun W' h => h⟩
      have hx0 : ∀ x : Keeps I, x.to.cell? ⟨ph, 0, none⟩ = some (PV pa) := fun x => (hIo _ x.ok).1
      have hq := fun x : Keeps I => (hIo _ x.ok).2
      have hb0 : ∀ x : Keeps I, x.to.cell? ⟨w1.heap.size, 0, none⟩ = some (.int .i64 (2 : Nat)) := fun x => by rw [cell_of_block (hq x)]; rfl
      have hb1 : ∀ x : Keeps I, x.to.cell? ⟨w1.heap.size, 1, none⟩ = some (.int .i64 xn) := fun x => by rw [cell_of_block (hq x)]; rfl
      have hb2 : ∀ x : Keeps I, x.to.cell? ⟨w1.heap.size, 2, none⟩ = some (.int .u64 xw) := fun x => by rw [cell_of_block (hq x)]; rfl
      have hI0 : I W.drew := hIi _ (Or.inl (H1.out.1.drewN 1)) hnew
      clear hnew
      refine wp_region_plan I (.take 0 (.take 1 (.take 2 (.take 3 (.take 4 (.take 5 (.take 6 (.go 7 (.take 8 .nil))))))))) (by kernel_rfl) (by kernel_rfl) hI0 ?_
      refine' plan_take _ (by rfl) _ (by rfl) ?_ ?_
      rotate_left
      · rintro _ ⟨x, rfl⟩
        have hxhx0 := hx0 x
        have hxhb1 := hb1 x
        go_simp
        try with_reducible rfl
      try simp only [Act.put, List.setIfInBounds_toArray, List.set_cons_zero, List.set_cons_succ]
      refine' plan_take _ (by rfl) _ (by rfl) ?_ ?_
      rotate_left
      · rintro _ ⟨x, rfl⟩
        have hxhx0 := hx0 x
        have hxhb1 := hb1 x
        go_simp
        try with_reducible rfl
      try simp only [Act.put, List.setIfInBounds_toArray, List.set_cons_zero, List.set_cons_succ]
      refine' plan_take _ (by rfl) _ (by rfl) ?_ ?_
      rotate_left
      · rintro _ ⟨x, rfl⟩
        have hxhx0 := hx0 x
        have hxhb1 := hb1 x
        go_simp
        try with_reducible rfl
      try simp only [Act.put, List.setIfInBounds_toArray, List.set_cons_zero, List.set_cons_succ]
      refine' plan_take _ (by rfl) _ (by rfl) ?_ ?_
      rotate_left
      · rintro _ ⟨x, rfl⟩
        have hxhx0 := hx0 x
        have hxhb1 := hb1 x
        go_simp
        try with_reducible rfl
      try simp only [Act.put, List.setIfInBounds_toArray, List.set_cons_zero, List.set_cons_succ]
      refine' plan_take _ (by rfl) _ (by rfl) ?_ ?_
      rotate_left
      · rintro _ ⟨x, rfl⟩
        have hxhx0 := hx0 x
        have hxhb1 := hb1 x
        go_simp
        try with_reducible rfl
      try simp only [Act.put, List.setIfInBounds_toArray, List.set_cons_zero, List.set_cons_succ]
      refine' plan_take _ (by rfl) _ (by rfl) ?_ ?_
      rotate_left
      · rintro _ ⟨x, rfl⟩
        have hxhx0 := hx0 x
        have hxhb1 := hb1 x
        go_simp
        try with_reducible rfl
      try simp only [Act.put, List.setIfInBounds_toArray, List.set_cons_zero, List.set_cons_succ]
      refine' plan_take _ (by rfl) _ (by rfl) ?_ ?_
      rotate_left
      · rintro _ ⟨x, rfl⟩
        have hxhx0 := hx0 x
        have hxhb1 := hb1 x
        go_simp
        try with_reducible rfl
      try simp only [Act.put, List.setIfInBounds_toArray, List.set_cons_zero, List.set_cons_succ]
      refine plan_do _ (by rfl) (by rfl) (fun K hK => ?_)
      go_simp
      refine (HG.out.2.2.2.2.1 _ _ (H1.out.1.drewN 1)).mono ?_
      rintro e w2 ⟨rfl, ho2, hk2⟩
      have hn2 := (hk2.block w1.heap.size (Or.inr rfl)).trans H1.out.2.2
      have hk3 : Keep Y w w2 := H1.out.2.1.trans ((H1.out.1.keep (Below.refl _ _).drew).trans hk2 |>.mono fun k hk => Or.inl hk)
      have H2 := Lib.hid (And.intro (ho2.mono (fun k hk => Or.inl hk) HG.out.2.2.2.1.yh HG.out.2.2.2.1.yt) hk3)
      try go_simp
      refine hK.out _ _ (hIi _ (Or.inr ho2) hn2) ?_
      clear hK K
      try simp only [Act.put, List.setIfInBounds_toArray, List.set_cons_zero, List.set_cons_succ]
      clear hk2 ho2 hn2 hk3
      refine' plan_take _ (by rfl) _ (by rfl) ?_ ?_
      rotate_left
      · rintro _ ⟨x, rfl⟩
        go_simp
        try with_reducible rfl
      try simp only [Act.put, List.setIfInBounds_toArray, List.set_cons_zero, List.set_cons_succ]
      refine plan_nil ?_
      go_wp2_with fail
      go_ret
      have hRe := HG.out.2.2.1
      rw [if_pos trivial] at hRe
      subst hRe
      exact ⟨rfl, H2.out⟩
    · have hne : ((kd : Int) == 2) = false := by simp; omega
      go_enter Tryz.func122, Tryz.ntmps122
      go_wp2_with fail
      refine HG.out.1.mono ?_
      rintro e w1 ⟨rfl, rfl⟩
      go_wp2_with fail
      refine HG.out.2.1.mono ?_
      rintro e w1 ⟨rfl, hb1⟩
      have hb2 := hb1.alloc hb1.size (.cells #[.int .i64 kd, .int .i64 xn, .int .u64 xw] 204)
      have H1 := Lib.hid (And.intro (HG.out.2.2.2.1.below hb2) (HG.out.2.2.2.1.keep hb2))
      clear hb1 hb2
      go_wp2_with fail
      refine (HG.out.2.2.2.2.2 _ H1.out.1).mono ?_
      rintro e w2 ⟨rfl, ho2, hk3⟩
      have H2 := Lib.hid (And.intro ho2 (H1.out.2.trans hk3))
      clear ho2 hk3
      go_wp2_with fail
      go_ret
      have hRe := HG.out.2.2.1
      rw [if_neg hk2] at hRe
      subst hRe
      exact ⟨rfl, H2.out⟩
end Go.Proofs.YtepdkbmnkjfcpaaGreatDoor
namespace Go.Proofs.YtepdkbmnkjfcpaaGreatDoor
open Go.RowKit Go.BigFrame Go.Maps Go.WideMaps Lf
theorem close_same (t : Tab) (hh : Nat) : (t.close hh).2.most = t.most ∧ (t.close hh).2.last = t.last := by
  unfold Tab.close
  split <;> exact ⟨rfl, rfl⟩
theorem st_drop {w : World} {ps : Nat} {S : St} {Y : Nat → Prop} (h : StOn w ps S Y) (hi : Inv S) (hh : Nat) (hl : hh < 18446744073709551616) :
    Calls Tryz.prog 92 #[PV ps, .int .u64 hh] w fun e w' => e = .returned (.int .i64 ((S.drop hh).1 : Nat)) ∧ StOn w' ps (S.drop hh).2 Y ∧ Keep Y w w' := by
  have hat := st_at h hi hh hl
  have hle := hi.addr_le hh
  rcases S.at_cases hh with ⟨addr, n, h1, h2, _⟩ | ⟨h1, h2⟩
  · have hR : S.drop hh = ((S.t.close hh).1, ⟨(freeH S.a addr).2, (S.t.close hh).2⟩) := by unfold St.drop; rw [h1]; rfl
    rw [hR]
    rw [h1] at hat hle
    simp only at hat hle
    have HG := Lib.hid (And.intro hat h)
    clear hat hR h1 h2 h
    go_enter Tryz.func92, Tryz.ntmps92
    go_wp2_with fail
    refine HG.out.1.mono ?_
    rintro e w1 ⟨rfl, rfl⟩
    have hS := HG.out.2
    have hk0 := Keep.refl Y w
    obtain ⟨pa, pm, ph, pt, v, hS⟩ := hS
    obtain ⟨_, _, _, c3, c4⟩ := hS.cells
    have H1 := Lib.hid (And.intro hS hk0)
    clear hS hk0
    go_wp2_with fail
    refine (heap_free H1.out.1.heap addr (by omega)).mono ?_
    rintro e w2 ⟨rfl, hA2, hk2⟩
    have hS2 := H1.out.1.arena hA2 hk2
    obtain ⟨_, _, _, _, c4'⟩ := hS2.cells
    have H2 := Lib.hid (And.intro hS2 (H1.out.2.trans (hk2.mono fun k hk => Or.inl hk)))
    clear c3 c4 hA2 hk2 hS2
    go_wp2_with fail
    refine (tab_close H2.out.1.tab hh hl (fun k => k < w2.heap.size ∧ k ≠ pt ∧ v.ownBlock ≠ some k) (fun b hb e => hb.2.2 e.symm)).mono ?_
    rintro e w3 ⟨rfl, ht3, hk3⟩
    have hS3 := H2.out.1.table ht3 (close_same _ _) _ (fun k h1 h2 h3 => ⟨h1, h2, h3⟩) hk3 (fun b hb => hb.2.2)
    have H3 := Lib.hid (And.intro hS3 (H2.out.2.trans (hk3.mono fun k hk => ⟨H2.out.1.yl k hk, (H2.out.1.off k (Or.inl hk)).1, (H2.out.1.off k (Or.inl hk)).2⟩)))
    clear ht3 hk3 hS3
    go_wp2_with fail
    go_ret
    exact ⟨rfl, ⟨_, _, _, _, _, H3.out.1⟩, H3.out.2⟩
  · have hR : S.drop hh = (7, S) := by unfold St.drop; rw [h1]; rfl
    rw [hR]
    rw [h1] at hat
    have HG := Lib.hid (And.intro hat h)
    clear hat hR h1 h2 h
    go_enter Tryz.func92, Tryz.ntmps92
    go_wp2_with fail
    refine HG.out.1.mono ?_
    rintro e w1 ⟨rfl, rfl⟩
    have H1 := Lib.hid (And.intro HG.out.2 (Keep.refl Y w))
    go_wp2_with fail
    go_ret
    exact ⟨rfl, H1.out⟩
end Go.Proofs.YtepdkbmnkjfcpaaGreatDoor
