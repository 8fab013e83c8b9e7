/- Cursors: a world that a cursor stands in: plain. Cursors: key: the walk. -/
import Derived.Test.YtoaabbnieakidaaGreatDoorRGbn
namespace Go.Proofs.YtoaabbnieakidaaGreatDoorR
open Go.RowKit Go.BigFrame Go.Maps Go.WideMaps Lf

/-- where the walk of a cursor's calls stands -/
structure CuAt (limit : Nat) (w : World) (ps pm px pc : Nat) (S : St) (root : Nat) (Y : Nat → Prop) (hh is : Nat) (wr : World) : Prop where
  md : MdK 1 limit w ps pm px S root Y wr
  c : CurOn wr pc pm ps hh is
  yc : Y pc
  nm : pc ≠ pm
  nx : pc ≠ px
  nc : w.heap.size ≤ pc
theorem CuAt.below {limit : Nat} {w wr w' : World} {ps pm px pc root hh is : Nat} {S : St} {Y : Nat → Prop} (h : CuAt limit w ps pm px pc S root Y hh is wr) (hb : Below wr.heap.size wr w') : CuAt limit w ps pm px pc S root Y hh is w' :=
  ⟨h.md.below hb, h.c.below hb, h.yc, h.nm, h.nx, h.nc⟩
theorem CuAt.wide {limit : Nat} {w wr w' : World} {ps pm px pc root hh is : Nat} {S : St} {Y : Nat → Prop} (h : CuAt limit w ps pm px pc S root Y hh is wr) (hb : Below wr.heap.size wr w') : CuAt limit w ps pm px pc S root (fun k => Y k ∨ (wr.heap.size ≤ k ∧ k < w'.heap.size)) hh is w' :=
  ⟨⟨h.md.st.wide hb, h.md.inv, h.md.m.below hb, h.md.t.below hb, h.md.bl.trans (hb.mono h.md.bl.size), fun k hk => Or.inl (h.md.y k hk), Or.inl h.md.yx, Or.inl h.md.ym, h.md.nx, h.md.ne⟩, h.c.below hb, Or.inl h.yc, h.nm, h.nx, h.nc⟩
theorem CuAt.mono {limit : Nat} {w wr : World} {ps pm px pc root hh is : Nat} {S : St} {Y Z : Nat → Prop} (h : CuAt limit w ps pm px pc S root Y hh is wr) (hz : ∀ k, Z k → Y k) (z1 : ∀ k, k < w.heap.size → Z k) (z2 : Z px) (z3 : Z pm) (z4 : Z pc) : CuAt limit w ps pm px pc S root Z hh is wr :=
  ⟨⟨h.md.st.mono hz, h.md.inv, h.md.m, h.md.t, h.md.bl, z1, z2, z3, h.md.nx, h.md.ne⟩, h.c, z4, h.nm, h.nx, h.nc⟩
theorem CuAt.narrow {limit : Nat} {w wr : World} {ps pm px pc root root' hh hh' is is' : Nat} {S S' : St} {Y Y' : Nat → Prop} {w1 : World} (h : CuAt limit w ps pm px pc S root (fun k => Y k ∨ Y' k) hh is wr) (h0 : CuAt limit w ps pm px pc S' root' Y hh' is' w1) : CuAt limit w ps pm px pc S root Y hh is wr :=
  h.mono (fun _ hk => Or.inl hk) h0.md.y h0.md.yx h0.md.ym h0.yc
/-- a block of the caller's own is written -/
theorem CuAt.write {limit : Nat} {w wr w' : World} {ps pm px pc root hh is b : Nat} {S : St} {Y : Nat → Prop} {cs : Array Value} {t : TypeId} {fr : Nat × Nat} (h : CuAt limit w ps pm px pc S root Y hh is wr) (hy : Y b) (hb : wr.heap[b]? = some (.cells cs t fr)) (ht : t ≠ 121 ∧ t ≠ 206) (hz : cs.size < 64)
    (hs : wr.heap.size ≤ w'.heap.size) (hw : ∀ k, k ≠ b → w'.heap[k]? = wr.heap[k]?) (ho : w'.os = wr.os ∧ w'.tape = wr.tape ∧ w'.output = wr.output) (n1 : b ≠ pm) (n2 : b ≠ px) (n3 : b ≠ pc) (n4 : w.heap.size ≤ b) : CuAt limit w ps pm px pc S root Y hh is w' :=
  ⟨⟨h.md.st.write hy hb ht hz hs fun _ _ hk => hw _ hk, h.md.inv, (hw pm n1.symm).trans h.md.m, (hw px n2.symm).trans h.md.t, ⟨ho.1.trans h.md.bl.os, ho.2.1.trans h.md.bl.tape, ho.2.2.trans h.md.bl.output, Nat.le_trans h.md.bl.size hs, fun k hk => (hw k (by omega)).trans (h.md.bl.block k hk)⟩, h.md.y, h.md.yx, h.md.ym, h.md.nx, h.md.ne⟩, (hw pc n3.symm).trans h.c, h.yc, h.nm, h.nx, h.nc⟩
theorem CuAt.put {limit : Nat} {w wr w' : World} {ps pm px pc root hh is is' : Nat} {S S' : St} {Y : Nat → Prop} (h : CuAt limit w ps pm px pc S root Y hh is wr) (h1 : StOn w' ps S' Y) (h2 : Keep (fun k => Y k ∧ k ≠ pc) wr w') (h3 : CurOn w' pc pm ps hh is') (h4 : Inv S') : CuAt limit w ps pm px pc S' root Y hh is' w' :=
  ⟨⟨h1, h4, (h2.block pm ⟨h.md.ym, h.nm.symm⟩).trans h.md.m, (h2.block px ⟨h.md.yx, h.nx.symm⟩).trans h.md.t, ⟨h2.os.trans h.md.bl.os, h2.tape.trans h.md.bl.tape, h2.output.trans h.md.bl.output, Nat.le_trans h.md.bl.size h2.size, fun k hk => (h2.block k ⟨h.md.y k hk, by have := h.nc; omega⟩).trans (h.md.bl.block k hk)⟩, h.md.y, h.md.yx, h.md.ym, h.md.nx, h.md.ne⟩, h3, h.yc, h.nm, h.nx, h.nc⟩
/-- the map is changed -/
theorem CuAt.change {limit : Nat} {w wr w' : World} {ps pm px pc root root' hh is : Nat} {S S' : St} {Y : Nat → Prop} (h : CuAt limit w ps pm px pc S root Y hh is wr) (h1 : StOn w' ps S' Y) (h2 : Keep (fun k => Y k ∧ k ≠ px) wr w') (h3 : TreeOn w' px ps 1 root') (h4 : Inv S') : CuAt limit w ps pm px pc S' root' Y hh is w' :=
  ⟨h.md.next h1 h2 h3 h4, h.c.keep h2 ⟨h.yc, h.nx⟩, h.yc, h.nm, h.nx, h.nc⟩
end Go.Proofs.YtoaabbnieakidaaGreatDoorR

namespace Go.Proofs.YtoaabbnieakidaaGreatDoorR
open Go.RowKit Go.BigFrame Go.Maps Go.WideMaps Lf

set_option maxRecDepth 100000 in
set_option maxHeartbeats 3200000 in
theorem cur_key {w : World} {pc pm ps hh is : Nat} {S : St} {Y : Nat → Prop} (h : StOn w ps S Y) (hi : Inv S) (hC : CurOn w pc pm ps hh is) (hl : hh < 18446744073709551616) (t : List UInt8) (ht : t.length ≤ 1000) (h0 : (S.get hh 0).1 = t.length) (hw : (List.range (many t.length)).map (fun k => (S.get hh k).1) = wordsOf t) :
    Calls Tryz.prog 99 #[PV pc] w fun e w' => e = .returned (SV t) ∧ Below w.heap.size w w' := by
  have hg0 := fun W (hW : Below w.heap.size w W) => st_get (h.below hW) hi hh 0 hl (by omega)
  have hgk := fun W k (hW : Below w.heap.size w W) (hk : k ≤ 200) => st_get (h.below hW) hi hh k hl (by omega)
  rw [h0] at hg0
  have hma := fun W => text_many t.length W (by omega)
  have hml : many t.length ≤ 200 := by unfold many; split <;> omega
  have hof := fun {W : World} {B : Nat} {v : Value} (hr : RowU W B v (wordsOf t)) => text_of hr ht
  have hwk : ∀ k (hk : k < many t.length), (wordsOf t)[k]? = some (S.get hh k).1 := fun k hk => by
    rw [← hw, List.getElem?_map, List.getElem?_range hk]; rfl
  have hwl : (wordsOf t).length = many t.length := by rw [← hw]; simp
  have hlt := wordsOf_lt t (by omega)
  have hm0 : many t.length ≠ 0 := by unfold many; split <;> omega
  obtain ⟨n, hn⟩ : ∃ n, t.length = n := ⟨_, rfl⟩
  rw [hn] at hg0 hma hml hwk hwl ht hm0
  have hn1 : (n : Int) ≤ 1000 := by omega
  obtain ⟨m, hm⟩ : ∃ m, many n = m := ⟨_, rfl⟩
  rw [hm] at hma hml hwk hwl hm0
  obtain ⟨ws, hws⟩ : ∃ ws, wordsOf t = ws := ⟨_, rfl⟩
  rw [hws] at hof hwk hwl hlt
  obtain ⟨gs, hgs⟩ : ∃ gs : Nat → Nat × Nat, (fun k => S.get hh k) = gs := ⟨_, rfl⟩
  have hgs' : ∀ k, S.get hh k = gs k := fun k => congrFun hgs k
  simp only [hgs'] at hg0 hgk hwk
  obtain ⟨I, hIi, hIo⟩ := cur_class pc pm ps hh is
  have hy0 := fun x : Keeps I => hIi _ x.ok
  simp only [CurOn] at hy0
  have m0 : ∀ x : Keeps I, x.to.cell? ⟨pc, 0, none⟩ = some (PV pm) := fun x => by rw [cell_of_block (hy0 x)]; rfl
  have m1 : ∀ x : Keeps I, x.to.cell? ⟨pc, 1, none⟩ = some (PV ps) := fun x => by rw [cell_of_block (hy0 x)]; rfl
  have m2 : ∀ x : Keeps I, x.to.cell? ⟨pc, 2, none⟩ = some (.int .u64 hh) := fun x => by rw [cell_of_block (hy0 x)]; rfl
  have m3 : ∀ x : Keeps I, x.to.cell? ⟨pc, 3, none⟩ = some (.int .i64 is) := fun x => by rw [cell_of_block (hy0 x)]; rfl
  have hI0 : I w.drew := hIo _ (hC.below (Below.refl _ _).drew)
  obtain ⟨i0, hi, hz0, hz1, hz2⟩ := info_parts infoU64
  have HG := Lib.hid (And.intro hg0 (And.intro hgk (And.intro hma (And.intro (@hof) (And.intro hwk (And.intro hwl (And.intro hC (And.intro hIo (And.intro hlt hm0)))))))))
  clear hg0 hgk hma hof hwk hwl hC hIi hIo hy0 hws hm hn ht h0 hw hgs hgs' h hlt hm0
  go_enter Tryz.func99, Tryz.ntmps99
  go_wp2_with fail
  refine wp_region_plan I (.take 0 (.take 1 (.take 2 (.take 3 (.take 4 (.take 5 (.take 6 (.take 7 (.go 8 (.take 9 (.take 10 (.take 11 (.take 12 (.take 13 .nil)))))))))))))) (by kernel_rfl) (by kernel_rfl) hI0 ?_
  clear hI0
  refine' plan_take _ (by rfl) _ (by rfl) ?_ ?_
  rotate_left
  · rintro _ ⟨x, rfl⟩
    have hxm1 := m1 x
    have hxm2 := m2 x
    go_simp
    try with_reducible rfl
  try simp only [Act.put, List.setIfInBounds_toArray, List.set_cons_zero, List.set_cons_succ]
  refine' plan_take _ (by rfl) _ (by rfl) ?_ ?_
  rotate_left
  · rintro _ ⟨x, rfl⟩
    have hxm1 := m1 x
    have hxm2 := m2 x
    go_simp
    try with_reducible rfl
  try simp only [Act.put, List.setIfInBounds_toArray, List.set_cons_zero, List.set_cons_succ]
  refine' plan_take _ (by rfl) _ (by rfl) ?_ ?_
  rotate_left
  · rintro _ ⟨x, rfl⟩
    have hxm1 := m1 x
    have hxm2 := m2 x
    go_simp
    try with_reducible rfl
  try simp only [Act.put, List.setIfInBounds_toArray, List.set_cons_zero, List.set_cons_succ]
  refine' plan_take _ (by rfl) _ (by rfl) ?_ ?_
  rotate_left
  · rintro _ ⟨x, rfl⟩
    have hxm1 := m1 x
    have hxm2 := m2 x
    go_simp
    try with_reducible rfl
  try simp only [Act.put, List.setIfInBounds_toArray, List.set_cons_zero, List.set_cons_succ]
  refine' plan_take _ (by rfl) _ (by rfl) ?_ ?_
  rotate_left
  · rintro _ ⟨x, rfl⟩
    have hxm1 := m1 x
    have hxm2 := m2 x
    go_simp
    try with_reducible rfl
  try simp only [Act.put, List.setIfInBounds_toArray, List.set_cons_zero, List.set_cons_succ]
  refine' plan_take _ (by rfl) _ (by rfl) ?_ ?_
  rotate_left
  · rintro _ ⟨x, rfl⟩
    have hxm1 := m1 x
    have hxm2 := m2 x
    go_simp
    try with_reducible rfl
  try simp only [Act.put, List.setIfInBounds_toArray, List.set_cons_zero, List.set_cons_succ]
  refine' plan_take _ (by rfl) _ (by rfl) ?_ ?_
  rotate_left
  · rintro _ ⟨x, rfl⟩
    have hxm1 := m1 x
    have hxm2 := m2 x
    go_simp
    try with_reducible rfl
  try simp only [Act.put, List.setIfInBounds_toArray, List.set_cons_zero, List.set_cons_succ]
  refine' plan_take _ (by rfl) _ (by rfl) ?_ ?_
  rotate_left
  · rintro _ ⟨x, rfl⟩
    have hxm1 := m1 x
    have hxm2 := m2 x
    go_simp
    try with_reducible rfl
  try simp only [Act.put, List.setIfInBounds_toArray, List.set_cons_zero, List.set_cons_succ]
  refine plan_do _ (by rfl) (by rfl) (fun K hK => ?_)
  go_simp
  refine (HG.out.1 _ (Below.refl _ _).drew).mono ?_
  rintro e w1 ⟨rfl, e1⟩
  have B1 : Below w.heap.size w w1 := e1 ▸ (Below.refl _ _).drew
  have C1 := HG.out.2.2.2.2.2.2.1.below B1
  try go_simp
  refine hK.out _ _ (HG.out.2.2.2.2.2.2.2.1 _ C1) ?_
  clear hK K
  try simp only [Act.put, List.setIfInBounds_toArray, List.set_cons_zero, List.set_cons_succ]
  refine' plan_take _ (by rfl) _ (by rfl) ?_ ?_
  rotate_left
  · rintro _ ⟨x, rfl⟩
    go_simp
    try with_reducible rfl
  try simp only [Act.put, List.setIfInBounds_toArray, List.set_cons_zero, List.set_cons_succ]
  refine' plan_take _ (by rfl) _ (by rfl) ?_ ?_
  rotate_left
  · rintro _ ⟨x, rfl⟩
    go_simp
    try with_reducible rfl
  try simp only [Act.put, List.setIfInBounds_toArray, List.set_cons_zero, List.set_cons_succ]
  refine' plan_take _ (by rfl) _ (by rfl) ?_ ?_
  rotate_left
  · rintro _ ⟨x, rfl⟩
    go_simp
    try with_reducible rfl
  try simp only [Act.put, List.setIfInBounds_toArray, List.set_cons_zero, List.set_cons_succ]
  refine' plan_take _ (by rfl) _ (by rfl) ?_ ?_
  rotate_left
  · rintro _ ⟨x, rfl⟩
    go_simp
    try with_reducible rfl
  try simp only [Act.put, List.setIfInBounds_toArray, List.set_cons_zero, List.set_cons_succ]
  refine' plan_take _ (by rfl) _ (by rfl) ?_ ?_
  rotate_left
  · rintro _ ⟨x, rfl⟩
    go_simp
    try with_reducible rfl
  try simp only [Act.put, List.setIfInBounds_toArray, List.set_cons_zero, List.set_cons_succ]
  refine plan_nil ?_
  have H1 := Lib.hid B1
  clear B1 C1 e1
  go_wp2_with fail
  refine (HG.out.2.2.1 _).mono ?_
  rintro e w2 ⟨rfl, rfl⟩
  go_wp2_with fail
  go_loopw [5, 6, 7, 8, 26] (fun v _ _ _ i wr => ∃ k : Nat, k ≤ m ∧ i = .int .i64 k ∧ wr.ownsRow w.heap.size 60 1 v k (uV (ws.take k)) ∧ Below w.heap.size w wr) (fun _ _ _ _ i _ => m - (intOf i).toNat)
  case atStart => exact ⟨0, by omega, rfl, ⟨rfl, Or.inl ⟨rfl, rfl⟩⟩, H1.out⟩
  case round =>
    obtain ⟨k, hk, rfl, hrow, hB⟩ := hrel
    by_cases hlt : k < m
    · have hlt' : (k : Int) < m := by omega
      have hC1 := HG.out.2.2.2.2.2.2.1.below hB
      have hI0 : I wr.drew := HG.out.2.2.2.2.2.2.2.1 _ (hC1.below (Below.refl _ _).drew)
      have hgt := HG.out.2.1 _ k (hB.drew) (by omega)
      have hwt := HG.out.2.2.2.2.1 k hlt
      have hx := HG.out.2.2.2.2.2.2.2.2.1 _ (List.mem_of_getElem? hwt)
      have htk : uV (ws.take k) ++ [.int .u64 ((gs k).1 : Nat)] = uV (ws.take (k + 1)) := by
        rw [List.take_add_one, hwt]; simp [uV]
      generalize (gs k).1 = x at *
      generalize (gs k).2 = er at *
      have HI := Lib.hid (And.intro hrow (And.intro hB (And.intro hgt htk)))
      clear hrow hB hgt htk hwt hC1
      go_wp2_with fail
      refine wp_region_plan I (.take 0 (.take 1 (.take 2 (.take 3 (.take 4 (.take 5 (.take 6 (.take 7 (.take 8 (.go 9 (.take 10 (.take 11 (.take 12 (.take 13 (.take 14 .nil))))))))))))))) (by kernel_rfl) (by kernel_rfl) hI0 ?_
      clear hI0
      refine' plan_take _ (by rfl) _ (by rfl) ?_ ?_
      rotate_left
      · rintro _ ⟨x, rfl⟩
        have hxm1 := m1 x
        have hxm2 := m2 x
        go_simp
        try with_reducible rfl
      try simp only [Act.put, List.setIfInBounds_toArray, List.set_cons_zero, List.set_cons_succ]
      refine' plan_take _ (by rfl) _ (by rfl) ?_ ?_
      rotate_left
      · rintro _ ⟨x, rfl⟩
        have hxm1 := m1 x
        have hxm2 := m2 x
        go_simp
        try with_reducible rfl
      try simp only [Act.put, List.setIfInBounds_toArray, List.set_cons_zero, List.set_cons_succ]
      refine' plan_take _ (by rfl) _ (by rfl) ?_ ?_
      rotate_left
      · rintro _ ⟨x, rfl⟩
        have hxm1 := m1 x
        have hxm2 := m2 x
        go_simp
        try with_reducible rfl
      try simp only [Act.put, List.setIfInBounds_toArray, List.set_cons_zero, List.set_cons_succ]
      refine' plan_take _ (by rfl) _ (by rfl) ?_ ?_
      rotate_left
      · rintro _ ⟨x, rfl⟩
        have hxm1 := m1 x
        have hxm2 := m2 x
        go_simp
        try with_reducible rfl
      try simp only [Act.put, List.setIfInBounds_toArray, List.set_cons_zero, List.set_cons_succ]
      refine' plan_take _ (by rfl) _ (by rfl) ?_ ?_
      rotate_left
      · rintro _ ⟨x, rfl⟩
        have hxm1 := m1 x
        have hxm2 := m2 x
        go_simp
        try with_reducible rfl
      try simp only [Act.put, List.setIfInBounds_toArray, List.set_cons_zero, List.set_cons_succ]
      refine' plan_take _ (by rfl) _ (by rfl) ?_ ?_
      rotate_left
      · rintro _ ⟨x, rfl⟩
        have hxm1 := m1 x
        have hxm2 := m2 x
        go_simp
        try with_reducible rfl
      try simp only [Act.put, List.setIfInBounds_toArray, List.set_cons_zero, List.set_cons_succ]
      refine' plan_take _ (by rfl) _ (by rfl) ?_ ?_
      rotate_left
      · rintro _ ⟨x, rfl⟩
        have hxm1 := m1 x
        have hxm2 := m2 x
        go_simp
        try with_reducible rfl
      try simp only [Act.put, List.setIfInBounds_toArray, List.set_cons_zero, List.set_cons_succ]
      refine' plan_take _ (by rfl) _ (by rfl) ?_ ?_
      rotate_left
      · rintro _ ⟨x, rfl⟩
        have hxm1 := m1 x
        have hxm2 := m2 x
        go_simp
        try with_reducible rfl
      try simp only [Act.put, List.setIfInBounds_toArray, List.set_cons_zero, List.set_cons_succ]
      refine' plan_take _ (by rfl) _ (by rfl) ?_ ?_
      rotate_left
      · rintro _ ⟨x, rfl⟩
        have hxm1 := m1 x
        have hxm2 := m2 x
        go_simp
        try with_reducible rfl
      try simp only [Act.put, List.setIfInBounds_toArray, List.set_cons_zero, List.set_cons_succ]
      refine plan_do _ (by rfl) (by rfl) (fun K hK => ?_)
      go_simp
      refine HI.out.2.2.1.mono ?_
      rintro e w4 ⟨rfl, e4⟩
      have B4 : Below wr.heap.size wr w4 := e4 ▸ (Below.refl _ _).drew
      have C4 := HG.out.2.2.2.2.2.2.1.below (HI.out.2.1.trans (B4.mono HI.out.2.1.size))
      try go_simp
      refine hK.out _ _ (HG.out.2.2.2.2.2.2.2.1 _ C4) ?_
      clear hK K
      try simp only [Act.put, List.setIfInBounds_toArray, List.set_cons_zero, List.set_cons_succ]
      refine' plan_take _ (by rfl) _ (by rfl) ?_ ?_
      rotate_left
      · rintro _ ⟨x, rfl⟩
        go_simp
        try with_reducible rfl
      try simp only [Act.put, List.setIfInBounds_toArray, List.set_cons_zero, List.set_cons_succ]
      refine' plan_take _ (by rfl) _ (by rfl) ?_ ?_
      rotate_left
      · rintro _ ⟨x, rfl⟩
        go_simp
        try with_reducible rfl
      try simp only [Act.put, List.setIfInBounds_toArray, List.set_cons_zero, List.set_cons_succ]
      refine' plan_take _ (by rfl) _ (by rfl) ?_ ?_
      rotate_left
      · rintro _ ⟨x, rfl⟩
        go_simp
        try with_reducible rfl
      try simp only [Act.put, List.setIfInBounds_toArray, List.set_cons_zero, List.set_cons_succ]
      refine' plan_take _ (by rfl) _ (by rfl) ?_ ?_
      rotate_left
      · rintro _ ⟨x, rfl⟩
        go_simp
        try with_reducible rfl
      try simp only [Act.put, List.setIfInBounds_toArray, List.set_cons_zero, List.set_cons_succ]
      refine' plan_take _ (by rfl) _ (by rfl) ?_ ?_
      rotate_left
      · rintro _ ⟨x, rfl⟩
        go_simp
        try with_reducible rfl
      try simp only [Act.put, List.setIfInBounds_toArray, List.set_cons_zero, List.set_cons_succ]
      refine plan_nil ?_
      have R4 := e4 ▸ HI.out.1.drew
      have H4 := Lib.hid (And.intro R4 (And.intro (HI.out.2.1.trans (B4.mono HI.out.2.1.size)) HI.out.2.2.2))
      clear B4 C4 R4 e4 HI
      go_wp2_with (at_builtin; refine wpList_append_own_at _ rfl _ _ 209 rfl w.heap.size 60 i0 (.int .u64 0) 1 8 Tryz.underlying209 hi hz0 hz1 hz2 rfl (by decide) _ _ _ rfl (H4.out.1.alloc _) ⟨w4.heap.size, 0, none⟩ 1 1 [.int .u64 x] rfl rfl (cell_one_new _ _ _) ?c2 ?c3 ?c4 ?c5 ?_)
      case c2 => simp [Value.oneCell']
      case c3 => unfold maxLen; omega
      case c4 => omega
      case c5 => have := H4.out.2.1.size; simp; omega
      intro v' w5 hown hgrow _ hat
      have hBW := H4.out.2.1.size
      have hbA : Below w.heap.size w4 w5 := ((Below.refl _ w4).mono hBW |>.alloc hBW (.cells #[.int .u64 x] 60)).grown hgrow (by simp; omega) (fun k e => (H4.out.1.lt k e).1)
      rw [H4.out.2.2] at hown
      have HW := Lib.hid (And.intro hown (H4.out.2.1.trans hbA))
      clear hown hgrow hat hBW hbA
      go_wp2_with fail
      go_roundw
      case rel => exact ⟨k + 1, by omega, by simp, HW.out⟩
      case measure => simp [intOf]; omega
    · obtain rfl : k = m := by omega
      have hr2 : RowU wr w.heap.size u5 ws := rowU_of_owns (by rw [HG.out.2.2.2.2.2.1]; rw [List.take_of_length_le (by rw [HG.out.2.2.2.2.2.1]; exact Nat.le_refl _)] at hrow; exact hrow) (fun e => HG.out.2.2.2.2.2.2.2.2.2 (by rw [← HG.out.2.2.2.2.2.1, e]; rfl))
      have HI := Lib.hid (And.intro hr2 hB)
      clear hrow hB hr2
      go_wp2_with fail
      refine (HG.out.2.2.2.1 HI.out.1).mono ?_
      rintro e w2 ⟨rfl, hb2⟩
      have HE := Lib.hid (HI.out.2.trans (hb2.mono HI.out.2.size))
      clear hb2
      go_wp2_with fail
      go_ret
      exact ⟨rfl, HE.out⟩
end Go.Proofs.YtoaabbnieakidaaGreatDoorR
