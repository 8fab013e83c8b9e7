/- Cursors: a world that a cursor stands in: plain. Cursors: key: the walk. Cursors: end, pair, Next, Prev, Open: the walks. Cursors: Prev, Open: the walks. -/
import Derived.Test.YtepdkbmnkjfcpaaGreatDoorHad
import Derived.Test.YtepdkbmnkjfcpaaGreatDoorGbr
namespace Go.Proofs.YtepdkbmnkjfcpaaGreatDoor
open Go.RowKit Go.BigFrame Go.Maps Go.WideMaps Lf

/-- where the walk of a cursor's calls stands -/
structure CuAt (limit : Nat) (w : World) (ps pm px pc : Nat) (S : St) (root : Nat) (Y : Nat → Prop) (hh is : Nat) (wr : World) : Prop where
  md : MdK 1 limit w ps pm px S root Y wr
  c : CurOn wr pc pm ps hh is
  yc : Y pc
  nm : pc ≠ pm
  nx : pc ≠ px
  nc : w.heap.size ≤ pc
theorem CuAt.below {limit : Nat} {w wr w' : World} {ps pm px pc root hh is : Nat} {S : St} {Y : Nat → Prop} (h : CuAt limit w ps pm px pc S root Y hh is wr) (hb : Below wr.heap.size wr w') : CuAt limit w ps pm px pc S root Y hh is w' :=
  ⟨h.md.below hb, h.c.below hb, h.yc, h.nm, h.nx, h.nc⟩
theorem CuAt.wide {limit : Nat} {w wr w' : World} {ps pm px pc root hh is : Nat} {S : St} {Y : Nat → Prop} (h : CuAt limit w ps pm px pc S root Y hh is wr) (hb : Below wr.heap.size wr w') : CuAt limit w ps pm px pc S root (fun k => Y k ∨ (wr.heap.size ≤ k ∧ k < w'.heap.size)) hh is w' :=
  ⟨⟨h.md.st.wide hb, h.md.inv, h.md.m.below hb, h.md.t.below hb, h.md.bl.trans (hb.mono h.md.bl.size), fun k hk => Or.inl (h.md.y k hk), Or.inl h.md.yx, Or.inl h.md.ym, h.md.nx, h.md.ne⟩, h.c.below hb, Or.inl h.yc, h.nm, h.nx, h.nc⟩
theorem CuAt.mono {limit : Nat} {w wr : World} {ps pm px pc root hh is : Nat} {S : St} {Y Z : Nat → Prop} (h : CuAt limit w ps pm px pc S root Y hh is wr) (hz : ∀ k, Z k → Y k) (z1 : ∀ k, k < w.heap.size → Z k) (z2 : Z px) (z3 : Z pm) (z4 : Z pc) : CuAt limit w ps pm px pc S root Z hh is wr :=
  ⟨⟨h.md.st.mono hz, h.md.inv, h.md.m, h.md.t, h.md.bl, z1, z2, z3, h.md.nx, h.md.ne⟩, h.c, z4, h.nm, h.nx, h.nc⟩
theorem CuAt.narrow {limit : Nat} {w wr : World} {ps pm px pc root root' hh hh' is is' : Nat} {S S' : St} {Y Y' : Nat → Prop} {w1 : World} (h : CuAt limit w ps pm px pc S root (fun k => Y k ∨ Y' k) hh is wr) (h0 : CuAt limit w ps pm px pc S' root' Y hh' is' w1) : CuAt limit w ps pm px pc S root Y hh is wr :=
  h.mono (fun _ hk => Or.inl hk) h0.md.y h0.md.yx h0.md.ym h0.yc
/-- a block of the caller's own is written -/
theorem CuAt.write {limit : Nat} {w wr w' : World} {ps pm px pc root hh is b : Nat} {S : St} {Y : Nat → Prop} {cs : Array Value} {t : TypeId} {fr : Nat × Nat} (h : CuAt limit w ps pm px pc S root Y hh is wr) (hy : Y b) (hb : wr.heap[b]? = some (.cells cs t fr)) (ht : t ≠ 99 ∧ t ≠ 160) (hz : cs.size < 64)
    (hs : wr.heap.size ≤ w'.heap.size) (hw : ∀ k, k ≠ b → w'.heap[k]? = wr.heap[k]?) (ho : w'.os = wr.os ∧ w'.tape = wr.tape ∧ w'.output = wr.output) (n1 : b ≠ pm) (n2 : b ≠ px) (n3 : b ≠ pc) (n4 : w.heap.size ≤ b) : CuAt limit w ps pm px pc S root Y hh is w' :=
  ⟨⟨h.md.st.write hy hb ht hz hs fun _ _ hk => hw _ hk, h.md.inv, (hw pm n1.symm).trans h.md.m, (hw px n2.symm).trans h.md.t, ⟨ho.1.trans h.md.bl.os, ho.2.1.trans h.md.bl.tape, ho.2.2.trans h.md.bl.output, Nat.le_trans h.md.bl.size hs, fun k hk => (hw k (by omega)).trans (h.md.bl.block k hk)⟩, h.md.y, h.md.yx, h.md.ym, h.md.nx, h.md.ne⟩, (hw pc n3.symm).trans h.c, h.yc, h.nm, h.nx, h.nc⟩
theorem CuAt.put {limit : Nat} {w wr w' : World} {ps pm px pc root hh is is' : Nat} {S S' : St} {Y : Nat → Prop} (h : CuAt limit w ps pm px pc S root Y hh is wr) (h1 : StOn w' ps S' Y) (h2 : Keep (fun k => Y k ∧ k ≠ pc) wr w') (h3 : CurOn w' pc pm ps hh is') (h4 : Inv S') : CuAt limit w ps pm px pc S' root Y hh is' w' :=
  ⟨⟨h1, h4, (h2.block pm ⟨h.md.ym, h.nm.symm⟩).trans h.md.m, (h2.block px ⟨h.md.yx, h.nx.symm⟩).trans h.md.t, ⟨h2.os.trans h.md.bl.os, h2.tape.trans h.md.bl.tape, h2.output.trans h.md.bl.output, Nat.le_trans h.md.bl.size h2.size, fun k hk => (h2.block k ⟨h.md.y k hk, by have := h.nc; omega⟩).trans (h.md.bl.block k hk)⟩, h.md.y, h.md.yx, h.md.ym, h.md.nx, h.md.ne⟩, h3, h.yc, h.nm, h.nx, h.nc⟩
/-- the map is changed -/
theorem CuAt.change {limit : Nat} {w wr w' : World} {ps pm px pc root root' hh is : Nat} {S S' : St} {Y : Nat → Prop} (h : CuAt limit w ps pm px pc S root Y hh is wr) (h1 : StOn w' ps S' Y) (h2 : Keep (fun k => Y k ∧ k ≠ px) wr w') (h3 : TreeOn w' px ps 1 root') (h4 : Inv S') : CuAt limit w ps pm px pc S' root' Y hh is w' :=
  ⟨h.md.next h1 h2 h3 h4, h.c.keep h2 ⟨h.yc, h.nx⟩, h.yc, h.nm, h.nx, h.nc⟩
end Go.Proofs.YtepdkbmnkjfcpaaGreatDoor

namespace Go.Proofs.YtepdkbmnkjfcpaaGreatDoor
open Go.RowKit Go.BigFrame Go.Maps Go.WideMaps Lf

set_option maxRecDepth 100000 in
set_option maxHeartbeats 3200000 in
theorem cur_key {w : World} {pc pm ps hh is : Nat} {S : St} {Y : Nat → Prop} (h : StOn w ps S Y) (hi : Inv S) (hC : CurOn w pc pm ps hh is) (hl : hh < 18446744073709551616) (t : List UInt8) (ht : t.length ≤ 1000) (h0 : (S.get hh 0).1 = t.length) (hw : (List.range (many t.length)).map (fun k => (S.get hh k).1) = wordsOf t) :
    Calls Tryz.prog 89 #[PV pc] w fun e w' => e = .returned (SV t) ∧ Below w.heap.size w w' := by
  have hg0 := fun W (hW : Below w.heap.size w W) => st_get (h.below hW) hi hh 0 hl (by omega)
  have hgk := fun W k (hW : Below w.heap.size w W) (hk : k ≤ 200) => st_get (h.below hW) hi hh k hl (by omega)
  rw [h0] at hg0
  have hma := fun W => text_many t.length W (by omega)
  have hml : many t.length ≤ 200 := by unfold many; split <;> omega
  have hof := fun {W : World} {B : Nat} {v : Value} (hr : RowU W B v (wordsOf t)) => text_of hr ht
  have hwk : ∀ k (hk : k < many t.length), (wordsOf t)[k]? = some (S.get hh k).1 := fun k hk => by
    rw [← hw, List.getElem?_map, List.getElem?_range hk]; rfl
  have hwl : (wordsOf t).length = many t.length := by rw [← hw]; simp
  have hlt := wordsOf_lt t (by omega)
  have hm0 : many t.length ≠ 0 := by unfold many; split <;> omega
  obtain ⟨n, hn⟩ : ∃ n, t.length = n := ⟨_, rfl⟩
  rw [hn] at hg0 hma hml hwk hwl ht hm0
  have hn1 : (n : Int) ≤ 1000 := by omega
  obtain ⟨m, hm⟩ : ∃ m, many n = m := ⟨_, rfl⟩
  rw [hm] at hma hml hwk hwl hm0
  obtain ⟨ws, hws⟩ : ∃ ws, wordsOf t = ws := ⟨_, rfl⟩
  rw [hws] at hof hwk hwl hlt
  obtain ⟨gs, hgs⟩ : ∃ gs : Nat → Nat × Nat, (fun k => S.get hh k) = gs := ⟨_, rfl⟩
  have hgs' : ∀ k, S.get hh k = gs k := fun k => congrFun hgs k
  simp only [hgs'] at hg0 hgk hwk
  obtain ⟨I, hIi, hIo⟩ := cur_class pc pm ps hh is
  have hy0 := fun x : Keeps I => hIi _ x.ok
  simp only [CurOn] at hy0
  have m0 : ∀ x : Keeps I, x.to.cell? ⟨pc, 0, none⟩ = some (PV pm) := fun x => by rw [cell_of_block (hy0 x)]; rfl
  have m1 : ∀ x : Keeps I, x.to.cell? ⟨pc, 1, none⟩ = some (PV ps) := fun x => by rw [cell_of_block (hy0 x)]; rfl
  have m2 : ∀ x : Keeps I, x.to.cell? ⟨pc, 2, none⟩ = some (.int .u64 hh) := fun x => by rw [cell_of_block (hy0 x)]; rfl
  have m3 : ∀ x : Keeps I, x.to.cell? ⟨pc, 3, none⟩ = some (.int .i64 is) := fun x => by rw [cell_of_block (hy0 x)]; rfl
  have hI0 : I w.drew := hIo _ (hC.below (Below.refl _ _).drew)
  obtain ⟨i0, hi, hz0, hz1, hz2⟩ := info_parts infoU64
  have HG := Lib.hid (And.intro hg0 (And.intro hgk (And.intro hma (And.intro (@hof) (And.intro hwk (And.intro hwl (And.intro hC (And.intro hIo (And.intro hlt hm0)))))))))
  clear hg0 hgk hma hof hwk hwl hC hIi hIo hy0 hws hm hn ht h0 hw hgs hgs' h hlt hm0
  go_enter Tryz.func89, Tryz.ntmps89
  go_wp2_with fail
  refine wp_region_plan I (.take 0 (.take 1 (.take 2 (.take 3 (.take 4 (.take 5 (.take 6 (.take 7 (.go 8 (.take 9 (.take 10 (.take 11 (.take 12 (.take 13 .nil)))))))))))))) (by kernel_rfl) (by kernel_rfl) hI0 ?_
  clear hI0
  refine' plan_take _ (by rfl) _ (by rfl) ?_ ?_
  rotate_left
  · rintro _ ⟨x, rfl⟩
    have hxm1 := m1 x
    have hxm2 := m2 x
    go_simp
    try with_reducible rfl
  try simp only [Act.put, List.setIfInBounds_toArray, List.set_cons_zero, List.set_cons_succ]
  refine' plan_take _ (by rfl) _ (by rfl) ?_ ?_
  rotate_left
  · rintro _ ⟨x, rfl⟩
    have hxm1 := m1 x
    have hxm2 := m2 x
    go_simp
    try with_reducible rfl
  try simp only [Act.put, List.setIfInBounds_toArray, List.set_cons_zero, List.set_cons_succ]
  refine' plan_take _ (by rfl) _ (by rfl) ?_ ?_
  rotate_left
  · rintro _ ⟨x, rfl⟩
    have hxm1 := m1 x
    have hxm2 := m2 x
    go_simp
    try with_reducible rfl
  try simp only [Act.put, List.setIfInBounds_toArray, List.set_cons_zero, List.set_cons_succ]
  refine' plan_take _ (by rfl) _ (by rfl) ?_ ?_
  rotate_left
  · rintro _ ⟨x, rfl⟩
    have hxm1 := m1 x
    have hxm2 := m2 x
    go_simp
    try with_reducible rfl
  try simp only [Act.put, List.setIfInBounds_toArray, List.set_cons_zero, List.set_cons_succ]
  refine' plan_take _ (by rfl) _ (by rfl) ?_ ?_
  rotate_left
  · rintro _ ⟨x, rfl⟩
    have hxm1 := m1 x
    have hxm2 := m2 x
    go_simp
    try with_reducible rfl
  try simp only [Act.put, List.setIfInBounds_toArray, List.set_cons_zero, List.set_cons_succ]
  refine' plan_take _ (by rfl) _ (by rfl) ?_ ?_
  rotate_left
  · rintro _ ⟨x, rfl⟩
    have hxm1 := m1 x
    have hxm2 := m2 x
    go_simp
    try with_reducible rfl
  try simp only [Act.put, List.setIfInBounds_toArray, List.set_cons_zero, List.set_cons_succ]
  refine' plan_take _ (by rfl) _ (by rfl) ?_ ?_
  rotate_left
  · rintro _ ⟨x, rfl⟩
    have hxm1 := m1 x
    have hxm2 := m2 x
    go_simp
    try with_reducible rfl
  try simp only [Act.put, List.setIfInBounds_toArray, List.set_cons_zero, List.set_cons_succ]
  refine' plan_take _ (by rfl) _ (by rfl) ?_ ?_
  rotate_left
  · rintro _ ⟨x, rfl⟩
    have hxm1 := m1 x
    have hxm2 := m2 x
    go_simp
    try with_reducible rfl
  try simp only [Act.put, List.setIfInBounds_toArray, List.set_cons_zero, List.set_cons_succ]
  refine plan_do _ (by rfl) (by rfl) (fun K hK => ?_)
  go_simp
  refine (HG.out.1 _ (Below.refl _ _).drew).mono ?_
  rintro e w1 ⟨rfl, e1⟩
  have B1 : Below w.heap.size w w1 := e1 ▸ (Below.refl _ _).drew
  have C1 := HG.out.2.2.2.2.2.2.1.below B1
  try go_simp
  refine hK.out _ _ (HG.out.2.2.2.2.2.2.2.1 _ C1) ?_
  clear hK K
  try simp only [Act.put, List.setIfInBounds_toArray, List.set_cons_zero, List.set_cons_succ]
  refine' plan_take _ (by rfl) _ (by rfl) ?_ ?_
  rotate_left
  · rintro _ ⟨x, rfl⟩
    go_simp
    try with_reducible rfl
  try simp only [Act.put, List.setIfInBounds_toArray, List.set_cons_zero, List.set_cons_succ]
  refine' plan_take _ (by rfl) _ (by rfl) ?_ ?_
  rotate_left
  · rintro _ ⟨x, rfl⟩
    go_simp
    try with_reducible rfl
  try simp only [Act.put, List.setIfInBounds_toArray, List.set_cons_zero, List.set_cons_succ]
  refine' plan_take _ (by rfl) _ (by rfl) ?_ ?_
  rotate_left
  · rintro _ ⟨x, rfl⟩
    go_simp
    try with_reducible rfl
  try simp only [Act.put, List.setIfInBounds_toArray, List.set_cons_zero, List.set_cons_succ]
  refine' plan_take _ (by rfl) _ (by rfl) ?_ ?_
  rotate_left
  · rintro _ ⟨x, rfl⟩
    go_simp
    try with_reducible rfl
  try simp only [Act.put, List.setIfInBounds_toArray, List.set_cons_zero, List.set_cons_succ]
  refine' plan_take _ (by rfl) _ (by rfl) ?_ ?_
  rotate_left
  · rintro _ ⟨x, rfl⟩
    go_simp
    try with_reducible rfl
  try simp only [Act.put, List.setIfInBounds_toArray, List.set_cons_zero, List.set_cons_succ]
  refine plan_nil ?_
  have H1 := Lib.hid B1
  clear B1 C1 e1
  go_wp2_with fail
  refine (HG.out.2.2.1 _).mono ?_
  rintro e w2 ⟨rfl, rfl⟩
  go_wp2_with fail
  go_loopw [5, 6, 7, 8, 26] (fun v _ _ _ i wr => ∃ k : Nat, k ≤ m ∧ i = .int .i64 k ∧ wr.ownsRow w.heap.size 42 1 v k (uV (ws.take k)) ∧ Below w.heap.size w wr) (fun _ _ _ _ i _ => m - (intOf i).toNat)
  case atStart => exact ⟨0, by omega, rfl, ⟨rfl, Or.inl ⟨rfl, rfl⟩⟩, H1.out⟩
  case round =>
    obtain ⟨k, hk, rfl, hrow, hB⟩ := hrel
    by_cases hlt : k < m
    · have hlt' : (k : Int) < m := by omega
      have hC1 := HG.out.2.2.2.2.2.2.1.below hB
      have hI0 : I wr.drew := HG.out.2.2.2.2.2.2.2.1 _ (hC1.below (Below.refl _ _).drew)
      have hgt := HG.out.2.1 _ k (hB.drew) (by omega)
      have hwt := HG.out.2.2.2.2.1 k hlt
      have hx := HG.out.2.2.2.2.2.2.2.2.1 _ (List.mem_of_getElem? hwt)
      have htk : uV (ws.take k) ++ [.int .u64 ((gs k).1 : Nat)] = uV (ws.take (k + 1)) := by
        rw [List.take_add_one, hwt]; simp [uV]
      generalize (gs k).1 = x at *
      generalize (gs k).2 = er at *
      have HI := Lib.hid (And.intro hrow (And.intro hB (And.intro hgt htk)))
      clear hrow hB hgt htk hwt hC1
      go_wp2_with fail
      refine wp_region_plan I (.take 0 (.take 1 (.take 2 (.take 3 (.take 4 (.take 5 (.take 6 (.take 7 (.take 8 (.go 9 (.take 10 (.take 11 (.take 12 (.take 13 (.take 14 .nil))))))))))))))) (by kernel_rfl) (by kernel_rfl) hI0 ?_
      clear hI0
      refine' plan_take _ (by rfl) _ (by rfl) ?_ ?_
      rotate_left
      · rintro _ ⟨x, rfl⟩
        have hxm1 := m1 x
        have hxm2 := m2 x
        go_simp
        try with_reducible rfl
      try simp only [Act.put, List.setIfInBounds_toArray, List.set_cons_zero, List.set_cons_succ]
      refine' plan_take _ (by rfl) _ (by rfl) ?_ ?_
      rotate_left
      · rintro _ ⟨x, rfl⟩
        have hxm1 := m1 x
        have hxm2 := m2 x
        go_simp
        try with_reducible rfl
      try simp only [Act.put, List.setIfInBounds_toArray, List.set_cons_zero, List.set_cons_succ]
      refine' plan_take _ (by rfl) _ (by rfl) ?_ ?_
      rotate_left
      · rintro _ ⟨x, rfl⟩
        have hxm1 := m1 x
        have hxm2 := m2 x
        go_simp
        try with_reducible rfl
      try simp only [Act.put, List.setIfInBounds_toArray, List.set_cons_zero, List.set_cons_succ]
      refine' plan_take _ (by rfl) _ (by rfl) ?_ ?_
      rotate_left
      · rintro _ ⟨x, rfl⟩
        have hxm1 := m1 x
        have hxm2 := m2 x
        go_simp
        try with_reducible rfl
      try simp only [Act.put, List.setIfInBounds_toArray, List.set_cons_zero, List.set_cons_succ]
      refine' plan_take _ (by rfl) _ (by rfl) ?_ ?_
      rotate_left
      · rintro _ ⟨x, rfl⟩
        have hxm1 := m1 x
        have hxm2 := m2 x
        go_simp
        try with_reducible rfl
      try simp only [Act.put, List.setIfInBounds_toArray, List.set_cons_zero, List.set_cons_succ]
      refine' plan_take _ (by rfl) _ (by rfl) ?_ ?_
      rotate_left
      · rintro _ ⟨x, rfl⟩
        have hxm1 := m1 x
        have hxm2 := m2 x
        go_simp
        try with_reducible rfl
      try simp only [Act.put, List.setIfInBounds_toArray, List.set_cons_zero, List.set_cons_succ]
      refine' plan_take _ (by rfl) _ (by rfl) ?_ ?_
      rotate_left
      · rintro _ ⟨x, rfl⟩
        have hxm1 := m1 x
        have hxm2 := m2 x
        go_simp
        try with_reducible rfl
      try simp only [Act.put, List.setIfInBounds_toArray, List.set_cons_zero, List.set_cons_succ]
      refine' plan_take _ (by rfl) _ (by rfl) ?_ ?_
      rotate_left
      · rintro _ ⟨x, rfl⟩
        have hxm1 := m1 x
        have hxm2 := m2 x
        go_simp
        try with_reducible rfl
      try simp only [Act.put, List.setIfInBounds_toArray, List.set_cons_zero, List.set_cons_succ]
      refine' plan_take _ (by rfl) _ (by rfl) ?_ ?_
      rotate_left
      · rintro _ ⟨x, rfl⟩
        have hxm1 := m1 x
        have hxm2 := m2 x
        go_simp
        try with_reducible rfl
      try simp only [Act.put, List.setIfInBounds_toArray, List.set_cons_zero, List.set_cons_succ]
      refine plan_do _ (by rfl) (by rfl) (fun K hK => ?_)
      go_simp
      refine HI.out.2.2.1.mono ?_
      rintro e w4 ⟨rfl, e4⟩
      have B4 : Below wr.heap.size wr w4 := e4 ▸ (Below.refl _ _).drew
      have C4 := HG.out.2.2.2.2.2.2.1.below (HI.out.2.1.trans (B4.mono HI.out.2.1.size))
      try go_simp
      refine hK.out _ _ (HG.out.2.2.2.2.2.2.2.1 _ C4) ?_
      clear hK K
      try simp only [Act.put, List.setIfInBounds_toArray, List.set_cons_zero, List.set_cons_succ]
      refine' plan_take _ (by rfl) _ (by rfl) ?_ ?_
      rotate_left
      · rintro _ ⟨x, rfl⟩
        go_simp
        try with_reducible rfl
      try simp only [Act.put, List.setIfInBounds_toArray, List.set_cons_zero, List.set_cons_succ]
      refine' plan_take _ (by rfl) _ (by rfl) ?_ ?_
      rotate_left
      · rintro _ ⟨x, rfl⟩
        go_simp
        try with_reducible rfl
      try simp only [Act.put, List.setIfInBounds_toArray, List.set_cons_zero, List.set_cons_succ]
      refine' plan_take _ (by rfl) _ (by rfl) ?_ ?_
      rotate_left
      · rintro _ ⟨x, rfl⟩
        go_simp
        try with_reducible rfl
      try simp only [Act.put, List.setIfInBounds_toArray, List.set_cons_zero, List.set_cons_succ]
      refine' plan_take _ (by rfl) _ (by rfl) ?_ ?_
      rotate_left
      · rintro _ ⟨x, rfl⟩
        go_simp
        try with_reducible rfl
      try simp only [Act.put, List.setIfInBounds_toArray, List.set_cons_zero, List.set_cons_succ]
      refine' plan_take _ (by rfl) _ (by rfl) ?_ ?_
      rotate_left
      · rintro _ ⟨x, rfl⟩
        go_simp
        try with_reducible rfl
      try simp only [Act.put, List.setIfInBounds_toArray, List.set_cons_zero, List.set_cons_succ]
      refine plan_nil ?_
      have R4 := e4 ▸ HI.out.1.drew
      have H4 := Lib.hid (And.intro R4 (And.intro (HI.out.2.1.trans (B4.mono HI.out.2.1.size)) HI.out.2.2.2))
      clear B4 C4 R4 e4 HI
      go_wp2_with (at_builtin; refine wpList_append_own_at _ rfl _ _ 163 rfl w.heap.size 42 i0 (.int .u64 0) 1 8 Tryz.underlying163 hi hz0 hz1 hz2 rfl (by decide) _ _ _ rfl (H4.out.1.alloc _) ⟨w4.heap.size, 0, none⟩ 1 1 [.int .u64 x] rfl rfl (cell_one_new _ _ _) ?c2 ?c3 ?c4 ?c5 ?_)
      case c2 => simp [Value.oneCell']
      case c3 => unfold maxLen; omega
      case c4 => omega
      case c5 => have := H4.out.2.1.size; simp; omega
      intro v' w5 hown hgrow _ hat
      have hBW := H4.out.2.1.size
      have hbA : Below w.heap.size w4 w5 := ((Below.refl _ w4).mono hBW |>.alloc hBW (.cells #[.int .u64 x] 42)).grown hgrow (by simp; omega) (fun k e => (H4.out.1.lt k e).1)
      rw [H4.out.2.2] at hown
      have HW := Lib.hid (And.intro hown (H4.out.2.1.trans hbA))
      clear hown hgrow hat hBW hbA
      go_wp2_with fail
      go_roundw
      case rel => exact ⟨k + 1, by omega, by simp, HW.out⟩
      case measure => simp [intOf]; omega
    · obtain rfl : k = m := by omega
      have hr2 : RowU wr w.heap.size u5 ws := rowU_of_owns (by rw [HG.out.2.2.2.2.2.1]; rw [List.take_of_length_le (by rw [HG.out.2.2.2.2.2.1]; exact Nat.le_refl _)] at hrow; exact hrow) (fun e => HG.out.2.2.2.2.2.2.2.2.2 (by rw [← HG.out.2.2.2.2.2.1, e]; rfl))
      have HI := Lib.hid (And.intro hr2 hB)
      clear hrow hB hr2
      go_wp2_with fail
      refine (HG.out.2.2.2.1 HI.out.1).mono ?_
      rintro e w2 ⟨rfl, hb2⟩
      have HE := Lib.hid (HI.out.2.trans (hb2.mono HI.out.2.size))
      clear hb2
      go_wp2_with fail
      go_ret
      exact ⟨rfl, HE.out⟩
end Go.Proofs.YtepdkbmnkjfcpaaGreatDoor

namespace Go.Proofs.YtepdkbmnkjfcpaaGreatDoor
open Go.RowKit Go.BigFrame Go.Maps Go.WideMaps Lf

theorem CuAt.grow {limit : Nat} {w wr w' : World} {ps pm px pc root hh is : Nat} {S : St} {Y : Nat → Prop} (h : CuAt limit w ps pm px pc S root Y hh is wr) (hb : Below wr.heap.size wr w') : ∃ Z : Nat → Prop, (∀ k, Y k → Z k) ∧ (∀ k, wr.heap.size ≤ k → k < w'.heap.size → Z k) ∧ CuAt limit w ps pm px pc S root Z hh is w' :=
  ⟨_, fun _ hk => Or.inl hk, fun _ h1 h2 => Or.inr ⟨h1, h2⟩, h.wide hb⟩
theorem CuAt.lt {limit : Nat} {w wr : World} {ps pm px pc root hh is : Nat} {S : St} {Y : Nat → Prop} (h : CuAt limit w ps pm px pc S root Y hh is wr) : pc < wr.heap.size := (Array.getElem?_eq_some_iff.1 h.c).1
theorem CuAt.ltm {limit : Nat} {w wr : World} {ps pm px pc root hh is : Nat} {S : St} {Y : Nat → Prop} (h : CuAt limit w ps pm px pc S root Y hh is wr) : pm < wr.heap.size := (Array.getElem?_eq_some_iff.1 h.md.m).1
theorem CuAt.ltx {limit : Nat} {w wr : World} {ps pm px pc root hh is : Nat} {S : St} {Y : Nat → Prop} (h : CuAt limit w ps pm px pc S root Y hh is wr) : px < wr.heap.size := (Array.getElem?_eq_some_iff.1 h.md.t).1
/-- a pair's block, made since, is written; the rest is as at the beginning -/
theorem CuAt.back {limit : Nat} {w wr w2 : World} {ps pm px pc root hh is is' : Nat} {S S' : St} {Y Z : Nat → Prop} {t : TypeId} {cs : Array Value} (h : CuAt limit w ps pm px pc S root Y hh is wr) (h2 : CuAt limit w ps pm px pc S' root Z hh is' w2) (hz : ∀ k, Y k → Z k) (zb : Z wr.heap.size) (q : w2.heap[wr.heap.size]? = some (.cells cs t)) (ht : t ≠ 99 ∧ t ≠ 160) (hs : cs.size < 64) (hk : Keep (fun k => Y k ∧ k ≠ pc) wr w2) (v0 v1 : Value) :
    CuAt limit w ps pm px pc S' root Y hh is' ((w2.setCell ⟨wr.heap.size, 0, none⟩ (v0)).setCell ⟨wr.heap.size, 1, none⟩ (v1)) ∧ Keep (fun k => Y k ∧ k ≠ pc) wr ((w2.setCell ⟨wr.heap.size, 0, none⟩ (v0)).setCell ⟨wr.heap.size, 1, none⟩ (v1)) := by
  have hw : ∀ k, k ≠ wr.heap.size → ((w2.setCell ⟨wr.heap.size, 0, none⟩ (v0)).setCell ⟨wr.heap.size, 1, none⟩ (v1)).heap[k]? = w2.heap[k]? := fun k hk => st2_other hk v0 v1
  refine ⟨(h2.write zb q ht hs (by simp) hw ⟨rfl, rfl, rfl⟩ (Nat.ne_of_gt h.ltm) (Nat.ne_of_gt h.ltx) (Nat.ne_of_gt h.lt) h.md.bl.size).mono hz h.md.y h.md.yx h.md.ym h.yc, hk.trans ⟨rfl, rfl, rfl, by simp, fun k hk => hw k ?_⟩⟩
  have := h.md.st.yl k hk.1
  omega

set_option maxRecDepth 100000 in
set_option maxHeartbeats 3200000 in
theorem cu_put {limit : Nat} {w wr : World} {ps pm px pc root hh is : Nat} {S : St} {Y : Nat → Prop} (h : CuAt limit w ps pm px pc S root Y hh is wr) (hl : hh < 18446744073709551616) (hlim : limit ≤ 1000) (l : List UInt8) (hll : l.length ≤ 1000) :
    Calls Tryz.prog 90 #[PV pc, SV l] wr fun e w' => e = .returned (.tuple #[]) ∧ CuAt limit w ps pm px pc (curPut S hh (wordsOf l) (many limit)) root Y hh 1 w' ∧ Keep (fun k => Y k ∧ k ≠ pc) wr w' := by
  refine (cur_put h.md.st h.md.inv h.md.m h.c h.yc hl hlim l hll).mono ?_
  rintro e w' ⟨rfl, h1, h2, h3⟩
  exact ⟨rfl, h.put h1 h2 h3 (curPut_inv h.md.inv _ _ _), h2⟩

set_option maxRecDepth 100000 in
set_option maxHeartbeats 3200000 in
theorem cu_end {limit : Nat} {w wr : World} {ps pm px pc root hh is : Nat} {S : St} {Y : Nat → Prop} (h : CuAt limit w ps pm px pc S root Y hh is wr) (h0 : hh ≠ 0) (hl : hh < 18446744073709551616) (hlim : limit ≤ 1000) (is' : Nat) :
    Calls Tryz.prog 91 #[PV pc, .int .i64 is'] wr fun e w' => e = .returned (.int .i64 0) ∧ CuAt limit w ps pm px pc (curPut S hh (wordsOf []) (many limit)) root Y hh is' w' ∧ Keep (fun k => Y k ∧ k ≠ pc) wr w' := by
  have hp := cu_put h hl hlim [] (by simp)
  have HG := Lib.hid (And.intro (cur_asked h.c h0) hp)
  clear hp h
  go_enter Tryz.func91, Tryz.ntmps91
  go_wp2_with fail
  refine HG.out.1.mono ?_
  rintro e w1 ⟨rfl, rfl⟩
  go_wp2_with fail
  refine HG.out.2.mono ?_
  rintro e w2 ⟨rfl, h2, k2⟩
  have hC := h2.c
  unfold CurOn at hC
  have c0 : (w2).cell? ⟨pc, 0, none⟩ = some (PV pm) := by rw [cell_of_block hC]; rfl
  have c1 : (w2).cell? ⟨pc, 1, none⟩ = some (PV ps) := by rw [cell_of_block hC]; rfl
  have c2 : (w2).cell? ⟨pc, 2, none⟩ = some (.int .u64 hh) := by rw [cell_of_block hC]; rfl
  have c3 : (w2).cell? ⟨pc, 3, none⟩ = some (.int .i64 1) := by rw [cell_of_block hC]; rfl
  have f0 : (w2).frozen? ⟨pc, 0, none⟩ = false := frozen_of_block hC
  have f1 : (w2).frozen? ⟨pc, 1, none⟩ = false := frozen_of_block hC
  have f2 : (w2).frozen? ⟨pc, 2, none⟩ = false := frozen_of_block hC
  have f3 : (w2).frozen? ⟨pc, 3, none⟩ = false := frozen_of_block hC
  have q3 := heap_setCell (i := 3) (v := .int .i64 is') hC
  have h3 : CuAt limit w ps pm px pc (curPut S hh (wordsOf []) (many limit)) root Y hh is' (w2.setCell ⟨pc, 3, none⟩ (.int .i64 is')) :=
    ⟨⟨h2.md.st.write h2.yc hC ⟨by decide, by decide⟩ (by simp) (by simp) fun k _ hk => heap_setCell_ne hk, h2.md.inv, (heap_setCell_ne h2.nm.symm).trans h2.md.m, (heap_setCell_ne h2.nx.symm).trans h2.md.t, h2.md.bl.trans ⟨rfl, rfl, rfl, by simp, fun k hk => heap_setCell_ne (by have := h2.nc; omega)⟩, h2.md.y, h2.md.yx, h2.md.ym, h2.md.nx, h2.md.ne⟩, q3, h2.yc, h2.nm, h2.nx, h2.nc⟩
  have k3 : Keep (fun k => Y k ∧ k ≠ pc) wr (w2.setCell ⟨pc, 3, none⟩ (.int .i64 is')) := k2.trans ⟨rfl, rfl, rfl, by simp, fun k hk => heap_setCell_ne hk.2⟩
  have H3 := Lib.hid (And.intro h3 k3)
  clear h3 h2 q3 hC k2 k3
  go_wp2_with fail
  go_ret
  exact ⟨rfl, H3.out⟩

set_option maxRecDepth 100000 in
set_option maxHeartbeats 3200000 in
theorem cu_pair_ok {limit : Nat} {w wr : World} {ps pm px pc root hh is : Nat} {S : St} {Y : Nat → Prop} (h : CuAt limit w ps pm px pc S root Y hh is wr) (hl : hh < 18446744073709551616) (hr : root < 18446744073709551616) (hlim : limit ≤ 1000) (k is' : Nat) (hk : k < 4611686018427387904) (p : List UInt8 × List UInt8) (hp : treeAtM S root k = some p) (hpl : p.1.length ≤ 1000) :
    Calls Tryz.prog 88 #[PV pc, .int .i64 k, .int .i64 is'] wr fun e w' => e = .returned (.tuple #[prV p, .int .i64 0]) ∧ CuAt limit w ps pm px pc (curPut S hh (wordsOf p.1) (many limit)) root Y hh 1 w' ∧ Keep (fun k => Y k ∧ k ≠ pc) wr w' := by
  obtain ⟨p1, p2⟩ := p
  simp only [prV] at hpl ⊢
  have A0 := (Below.refl wr.heap.size wr).alloc (Nat.le_refl _) (.cells #[.string ⟨#[]⟩, .string ⟨#[]⟩] 38)
  have q0 := heap_alloc_new wr (.cells #[.string ⟨#[]⟩, .string ⟨#[]⟩] 38)
  obtain ⟨Z, z1, z2, h1⟩ := h.grow A0
  have zb : Z wr.heap.size := z2 _ (Nat.le_refl _) (by simp)
  have hse := map_select h1.md.st h1.md.inv h1.md.m h1.md.t hr k hk hp
  simp only [prV] at hse
  have hpu := fun {W : World} {Z : Nat → Prop} (hW : CuAt limit w ps pm px pc S root Z hh is W) => cu_put hW hl hlim p1 hpl
  have HG := Lib.hid (And.intro hse (And.intro (@hpu) (And.intro h1 (And.intro q0 (And.intro h (And.intro z1 (And.intro zb A0)))))))
  have hC := h1.c
  unfold CurOn at hC
  have c0 : ((wr.alloc (.cells #[.string ⟨#[]⟩, .string ⟨#[]⟩] 38))).cell? ⟨pc, 0, none⟩ = some (PV pm) := by rw [cell_of_block hC]; rfl
  have c1 : ((wr.alloc (.cells #[.string ⟨#[]⟩, .string ⟨#[]⟩] 38))).cell? ⟨pc, 1, none⟩ = some (PV ps) := by rw [cell_of_block hC]; rfl
  have c2 : ((wr.alloc (.cells #[.string ⟨#[]⟩, .string ⟨#[]⟩] 38))).cell? ⟨pc, 2, none⟩ = some (.int .u64 hh) := by rw [cell_of_block hC]; rfl
  have c3 : ((wr.alloc (.cells #[.string ⟨#[]⟩, .string ⟨#[]⟩] 38))).cell? ⟨pc, 3, none⟩ = some (.int .i64 is) := by rw [cell_of_block hC]; rfl
  clear hse hpu h1 h q0 A0 hC hp z1 z2 zb
  go_enter Tryz.func88, Tryz.ntmps88
  go_wp2_with fail
  refine HG.out.1.mono ?_
  rintro e w1 ⟨rfl, hb1⟩
  have q1 := (hb1.block wr.heap.size (by simp)).trans HG.out.2.2.2.1
  have lt1 := (Array.getElem?_eq_some_iff.1 q1).1
  have A1 := (Below.refl w1.heap.size w1).alloc (Nat.le_refl _) (.cells #[SV p1, SV p2] 38)
  have y1 := heap_alloc_new w1 (.cells #[SV p1, SV p2] 38)
  have q2 := (A1.block wr.heap.size lt1).trans q1
  obtain ⟨X, x1, x2, h3⟩ := (HG.out.2.2.1.below hb1).grow A1
  have xb : X w1.heap.size := x2 _ (Nat.le_refl _) (by simp)
  have kA : Keep (fun k => Y k ∧ k ≠ pc) wr (w1.alloc (.cells #[SV p1, SV p2] 38)) := Keep.of_below ((HG.out.2.2.2.2.2.2.2.trans (hb1.mono (by simp))).trans (A1.mono (Nat.le_of_lt lt1))) fun k hk => HG.out.2.2.2.2.1.md.st.yl k hk.1
  have d0 : ((w1.alloc (.cells #[SV p1, SV p2] 38))).cell? ⟨w1.heap.size, 0, none⟩ = some (SV p1) := by rw [cell_of_block y1]; rfl
  have d1 : ((w1.alloc (.cells #[SV p1, SV p2] 38))).cell? ⟨w1.heap.size, 1, none⟩ = some (SV p2) := by rw [cell_of_block y1]; rfl
  have HA := Lib.hid (And.intro h3 (And.intro y1 (And.intro q2 (And.intro lt1 (And.intro x1 (And.intro xb kA))))))
  clear hb1 q1 A1 y1 lt1 q2 h3 x1 x2 xb kA
  go_wp2_with fail
  refine (HG.out.2.1 HA.out.1).mono ?_
  rintro e w2 ⟨rfl, h4, k4⟩
  have np := HG.out.2.2.2.2.1.lt
  have q4 := (k4.block wr.heap.size ⟨HA.out.2.2.2.2.1 _ HG.out.2.2.2.2.2.2.1, by omega⟩).trans HA.out.2.2.1
  have y4 := (k4.block w1.heap.size ⟨HA.out.2.2.2.2.2.1, by have := HA.out.2.2.2.1; omega⟩).trans HA.out.2.1
  have e0 : (w2).cell? ⟨w1.heap.size, 0, none⟩ = some (SV p1) := by rw [cell_of_block y4]; rfl
  have e1 : (w2).cell? ⟨w1.heap.size, 1, none⟩ = some (SV p2) := by rw [cell_of_block y4]; rfl
  have g0 : (w2).cell? ⟨wr.heap.size, 0, none⟩ = some (.string ⟨#[]⟩) := by rw [cell_of_block q4]; rfl
  have g1 : (w2).cell? ⟨wr.heap.size, 1, none⟩ = some (.string ⟨#[]⟩) := by rw [cell_of_block q4]; rfl
  have f0 : (w2).frozen? ⟨wr.heap.size, 0, none⟩ = false := frozen_of_block q4
  have f1 : (w2).frozen? ⟨wr.heap.size, 1, none⟩ = false := frozen_of_block q4
  have q5 := st2_heap q4 (SV p1) (SV p2)
  have h5 := HG.out.2.2.2.2.1.back h4 (fun k hk => HA.out.2.2.2.2.1 k (HG.out.2.2.2.2.2.1 k hk)) (HA.out.2.2.2.2.1 _ HG.out.2.2.2.2.2.2.1) q4 ⟨by decide, by decide⟩ (by simp) (HA.out.2.2.2.2.2.2.trans (k4.mono fun k hk => ⟨HA.out.2.2.2.2.1 k (HG.out.2.2.2.2.2.1 k hk.1), hk.2⟩)) (SV p1) (SV p2)
  have HB := Lib.hid (And.intro q5 h5)
  clear h4 k4 q4 y4 q5 h5 np
  go_wp2_with fail
  obtain ⟨q5, h5⟩ := HB.out
  generalize ((w2.setCell ⟨wr.heap.size, 0, none⟩ (SV p1)).setCell ⟨wr.heap.size, 1, none⟩ (SV p2)) = w3 at *
  have k0 : (w3).cell? ⟨wr.heap.size, 0, none⟩ = some (SV p1) := by rw [cell_of_block q5]; rfl
  have k1 : (w3).cell? ⟨wr.heap.size, 1, none⟩ = some (SV p2) := by rw [cell_of_block q5]; rfl
  exact bodyPost_ret (v := .tuple #[.agg #[SV p1, SV p2], .int .i64 0]) (by simp [results, Tryz.f88, go_sem, k0, k1]) rfl ⟨rfl, h5⟩

set_option maxRecDepth 100000 in
set_option maxHeartbeats 3200000 in
theorem cu_pair_no {limit : Nat} {w wr : World} {ps pm px pc root hh is : Nat} {S : St} {Y : Nat → Prop} (h : CuAt limit w ps pm px pc S root Y hh is wr) (h0 : hh ≠ 0) (hl : hh < 18446744073709551616) (hr : root < 18446744073709551616) (hlim : limit ≤ 1000) (k is' : Nat) (hk : k < 4611686018427387904) (hp : walkAtM S root k = some (0, 2)) :
    Calls Tryz.prog 88 #[PV pc, .int .i64 k, .int .i64 is'] wr fun e w' => e = .returned (.tuple #[prV ([], []), .int .i64 5]) ∧ CuAt limit w ps pm px pc (curPut S hh (wordsOf []) (many limit)) root Y hh is' w' ∧ Keep (fun k => Y k ∧ k ≠ pc) wr w' := by
  show Calls _ _ _ _ fun e w' => e = .returned (.tuple #[.agg #[.string ⟨#[]⟩, .string ⟨#[]⟩], .int .i64 5]) ∧ _
  have A0 := (Below.refl wr.heap.size wr).alloc (Nat.le_refl _) (.cells #[.string ⟨#[]⟩, .string ⟨#[]⟩] 38)
  have q0 := heap_alloc_new wr (.cells #[.string ⟨#[]⟩, .string ⟨#[]⟩] 38)
  obtain ⟨Z, z1, z2, h1⟩ := h.grow A0
  have zb : Z wr.heap.size := z2 _ (Nat.le_refl _) (by simp)
  have hse := map_select_over h1.md.st h1.md.inv h1.md.m h1.md.t hr k hk hp
  have hpu := fun {W : World} {Z : Nat → Prop} (hW : CuAt limit w ps pm px pc S root Z hh is W) => cu_end hW h0 hl hlim is'
  have HG := Lib.hid (And.intro hse (And.intro (@hpu) (And.intro h1 (And.intro q0 (And.intro h (And.intro z1 (And.intro zb A0)))))))
  have hC := h1.c
  unfold CurOn at hC
  have c0 : ((wr.alloc (.cells #[.string ⟨#[]⟩, .string ⟨#[]⟩] 38))).cell? ⟨pc, 0, none⟩ = some (PV pm) := by rw [cell_of_block hC]; rfl
  have c1 : ((wr.alloc (.cells #[.string ⟨#[]⟩, .string ⟨#[]⟩] 38))).cell? ⟨pc, 1, none⟩ = some (PV ps) := by rw [cell_of_block hC]; rfl
  have c2 : ((wr.alloc (.cells #[.string ⟨#[]⟩, .string ⟨#[]⟩] 38))).cell? ⟨pc, 2, none⟩ = some (.int .u64 hh) := by rw [cell_of_block hC]; rfl
  have c3 : ((wr.alloc (.cells #[.string ⟨#[]⟩, .string ⟨#[]⟩] 38))).cell? ⟨pc, 3, none⟩ = some (.int .i64 is) := by rw [cell_of_block hC]; rfl
  clear hse hpu h1 h q0 A0 hC hp z1 z2 zb
  go_enter Tryz.func88, Tryz.ntmps88
  go_wp2_with fail
  refine HG.out.1.mono ?_
  rintro e w1 ⟨rfl, hb1⟩
  have q1 := (hb1.block wr.heap.size (by simp)).trans HG.out.2.2.2.1
  have lt1 := (Array.getElem?_eq_some_iff.1 q1).1
  have A1 := (Below.refl w1.heap.size w1).alloc (Nat.le_refl _) (.cells #[.string ⟨#[]⟩, .string ⟨#[]⟩] 38)
  have y1 := heap_alloc_new w1 (.cells #[.string ⟨#[]⟩, .string ⟨#[]⟩] 38)
  have q2 := (A1.block wr.heap.size lt1).trans q1
  obtain ⟨X, x1, x2, h3⟩ := (HG.out.2.2.1.below hb1).grow A1
  have xb : X w1.heap.size := x2 _ (Nat.le_refl _) (by simp)
  have kA : Keep (fun k => Y k ∧ k ≠ pc) wr (w1.alloc (.cells #[.string ⟨#[]⟩, .string ⟨#[]⟩] 38)) := Keep.of_below ((HG.out.2.2.2.2.2.2.2.trans (hb1.mono (by simp))).trans (A1.mono (Nat.le_of_lt lt1))) fun k hk => HG.out.2.2.2.2.1.md.st.yl k hk.1
  have d0 : ((w1.alloc (.cells #[.string ⟨#[]⟩, .string ⟨#[]⟩] 38))).cell? ⟨w1.heap.size, 0, none⟩ = some (.string ⟨#[]⟩) := by rw [cell_of_block y1]; rfl
  have d1 : ((w1.alloc (.cells #[.string ⟨#[]⟩, .string ⟨#[]⟩] 38))).cell? ⟨w1.heap.size, 1, none⟩ = some (.string ⟨#[]⟩) := by rw [cell_of_block y1]; rfl
  have HA := Lib.hid (And.intro h3 (And.intro y1 (And.intro q2 (And.intro lt1 (And.intro x1 (And.intro xb kA))))))
  clear hb1 q1 A1 y1 lt1 q2 h3 x1 x2 xb kA
  go_wp2_with fail
  refine (HG.out.2.1 HA.out.1).mono ?_
  rintro e w2 ⟨rfl, h4, k4⟩
  have np := HG.out.2.2.2.2.1.lt
  have q4 := (k4.block wr.heap.size ⟨HA.out.2.2.2.2.1 _ HG.out.2.2.2.2.2.2.1, by omega⟩).trans HA.out.2.2.1
  have y4 := (k4.block w1.heap.size ⟨HA.out.2.2.2.2.2.1, by have := HA.out.2.2.2.1; omega⟩).trans HA.out.2.1
  have e0 : (w2).cell? ⟨w1.heap.size, 0, none⟩ = some (.string ⟨#[]⟩) := by rw [cell_of_block y4]; rfl
  have e1 : (w2).cell? ⟨w1.heap.size, 1, none⟩ = some (.string ⟨#[]⟩) := by rw [cell_of_block y4]; rfl
  have g0 : (w2).cell? ⟨wr.heap.size, 0, none⟩ = some (.string ⟨#[]⟩) := by rw [cell_of_block q4]; rfl
  have g1 : (w2).cell? ⟨wr.heap.size, 1, none⟩ = some (.string ⟨#[]⟩) := by rw [cell_of_block q4]; rfl
  have f0 : (w2).frozen? ⟨wr.heap.size, 0, none⟩ = false := frozen_of_block q4
  have f1 : (w2).frozen? ⟨wr.heap.size, 1, none⟩ = false := frozen_of_block q4
  have q5 := st2_heap q4 (.string ⟨#[]⟩) (.string ⟨#[]⟩)
  have h5 := HG.out.2.2.2.2.1.back h4 (fun k hk => HA.out.2.2.2.2.1 k (HG.out.2.2.2.2.2.1 k hk)) (HA.out.2.2.2.2.1 _ HG.out.2.2.2.2.2.2.1) q4 ⟨by decide, by decide⟩ (by simp) (HA.out.2.2.2.2.2.2.trans (k4.mono fun k hk => ⟨HA.out.2.2.2.2.1 k (HG.out.2.2.2.2.2.1 k hk.1), hk.2⟩)) (.string ⟨#[]⟩) (.string ⟨#[]⟩)
  have HB := Lib.hid (And.intro q5 h5)
  clear h4 k4 q4 y4 q5 h5 np
  go_wp2_with fail
  obtain ⟨q5, h5⟩ := HB.out
  generalize ((w2.setCell ⟨wr.heap.size, 0, none⟩ (.string ⟨#[]⟩)).setCell ⟨wr.heap.size, 1, none⟩ (.string ⟨#[]⟩)) = w3 at *
  have k0 : (w3).cell? ⟨wr.heap.size, 0, none⟩ = some (.string ⟨#[]⟩) := by rw [cell_of_block q5]; rfl
  have k1 : (w3).cell? ⟨wr.heap.size, 1, none⟩ = some (.string ⟨#[]⟩) := by rw [cell_of_block q5]; rfl
  exact bodyPost_ret (v := .tuple #[.agg #[.string ⟨#[]⟩, .string ⟨#[]⟩], .int .i64 5]) (by simp [results, Tryz.f88, go_sem, k0, k1]) rfl ⟨rfl, h5⟩

set_option maxRecDepth 100000 in
set_option maxHeartbeats 3200000 in
theorem cu_next_ahead {limit : Nat} {w wr : World} {ps pm px pc root hh : Nat} {S : St} {Y : Nat → Prop} (h : CuAt limit w ps pm px pc S root Y hh 0 wr) (h0 : hh ≠ 0) {S' : St} {is' : Nat} (p : List UInt8 × List UInt8) (er : Nat) (hp : ∀ W Z, CuAt limit w ps pm px pc S root Z hh 0 W → Calls Tryz.prog 88 #[PV pc, .int .i64 (0 : Nat), .int .i64 (2 : Nat)] W fun e w' => e = .returned (.tuple #[prV p, .int .i64 er]) ∧ CuAt limit w ps pm px pc S' root Z hh is' w' ∧ Keep (fun k => Z k ∧ k ≠ pc) W w') :
    Calls Tryz.prog 50 #[PV pc] wr fun e w' => e = .returned (.tuple #[prV p, .int .i64 er]) ∧ CuAt limit w ps pm px pc S' root Y hh is' w' ∧ Keep (fun k => Y k ∧ k ≠ pc) wr w' := by
  obtain ⟨p1, p2⟩ := p
  simp only [prV] at hp ⊢
  have A0 := (Below.refl wr.heap.size wr).alloc (Nat.le_refl _) (.cells #[.string ⟨#[]⟩, .string ⟨#[]⟩] 38)
  have q0 := heap_alloc_new wr (.cells #[.string ⟨#[]⟩, .string ⟨#[]⟩] 38)
  obtain ⟨Z, z1, z2, h1⟩ := h.grow A0
  have zb : Z wr.heap.size := z2 _ (Nat.le_refl _) (by simp)
  have HG := Lib.hid (And.intro (cur_asked h1.c h0) (And.intro hp (And.intro h1 (And.intro q0 (And.intro h (And.intro z1 (And.intro zb A0)))))))
  have hC := h1.c
  unfold CurOn at hC
  have c0 : ((wr.alloc (.cells #[.string ⟨#[]⟩, .string ⟨#[]⟩] 38))).cell? ⟨pc, 0, none⟩ = some (PV pm) := by rw [cell_of_block hC]; rfl
  have c1 : ((wr.alloc (.cells #[.string ⟨#[]⟩, .string ⟨#[]⟩] 38))).cell? ⟨pc, 1, none⟩ = some (PV ps) := by rw [cell_of_block hC]; rfl
  have c2 : ((wr.alloc (.cells #[.string ⟨#[]⟩, .string ⟨#[]⟩] 38))).cell? ⟨pc, 2, none⟩ = some (.int .u64 hh) := by rw [cell_of_block hC]; rfl
  have c3 : ((wr.alloc (.cells #[.string ⟨#[]⟩, .string ⟨#[]⟩] 38))).cell? ⟨pc, 3, none⟩ = some (.int .i64 0) := by rw [cell_of_block hC]; rfl
  clear h1 h q0 A0 hC hp z1 z2 zb
  go_enter Tryz.func50, Tryz.ntmps50
  go_wp2_with fail
  refine HG.out.1.mono ?_
  rintro e w0 ⟨rfl, rfl⟩
  go_wp2_with fail
  have q1 := HG.out.2.2.2.1
  have h2 := HG.out.2.2.1
  have kA : Keep (fun k => Y k ∧ k ≠ pc) wr (wr.alloc (.cells #[.string ⟨#[]⟩, .string ⟨#[]⟩] 38)) := Keep.of_below HG.out.2.2.2.2.2.2.2 fun k hk => HG.out.2.2.2.2.1.md.st.yl k hk.1
  have H1 := Lib.hid (And.intro q1 (And.intro h2 kA))
  clear q1 h2 kA

  refine (HG.out.2.1 _ _ H1.out.2.1).mono ?_
  rintro e w5 ⟨rfl, h5, k5⟩
  have np := HG.out.2.2.2.2.1.lt
  have q5 := (k5.block wr.heap.size ⟨HG.out.2.2.2.2.2.2.1, by omega⟩).trans H1.out.1
  have x0 : (w5).cell? ⟨wr.heap.size, 0, none⟩ = some (.string ⟨#[]⟩) := by rw [cell_of_block q5]; rfl
  have x1 : (w5).cell? ⟨wr.heap.size, 1, none⟩ = some (.string ⟨#[]⟩) := by rw [cell_of_block q5]; rfl
  have f0 : (w5).frozen? ⟨wr.heap.size, 0, none⟩ = false := frozen_of_block q5
  have f1 : (w5).frozen? ⟨wr.heap.size, 1, none⟩ = false := frozen_of_block q5
  have q6 := st2_heap q5 (SV p1) (SV p2)
  have h6 := HG.out.2.2.2.2.1.back h5 HG.out.2.2.2.2.2.1 HG.out.2.2.2.2.2.2.1 q5 ⟨by decide, by decide⟩ (by simp) (H1.out.2.2.trans (k5.mono fun k hk => ⟨HG.out.2.2.2.2.2.1 k hk.1, hk.2⟩)) (SV p1) (SV p2)
  have HB := Lib.hid (And.intro q6 h6)
  clear h5 k5 q5 q6 h6 np
  go_wp2_with fail
  obtain ⟨q6, h6⟩ := HB.out
  generalize ((w5.setCell ⟨wr.heap.size, 0, none⟩ (SV p1)).setCell ⟨wr.heap.size, 1, none⟩ (SV p2)) = w6 at *
  have k0 : (w6).cell? ⟨wr.heap.size, 0, none⟩ = some (SV p1) := by rw [cell_of_block q6]; rfl
  have k1 : (w6).cell? ⟨wr.heap.size, 1, none⟩ = some (SV p2) := by rw [cell_of_block q6]; rfl
  exact bodyPost_ret (v := .tuple #[.agg #[SV p1, SV p2], .int .i64 er]) (by simp [results, Tryz.f50, go_sem, k0, k1]) rfl ⟨rfl, h6⟩

set_option maxRecDepth 100000 in
set_option maxHeartbeats 3200000 in
theorem cu_next_found {limit : Nat} {w wr : World} {ps pm px pc root hh : Nat} {S : St} {Y : Nat → Prop} (h : CuAt limit w ps pm px pc S root Y hh 1 wr) (h0 : hh ≠ 0) (hl : hh < 18446744073709551616) (hr : root < 18446744073709551616) (t : List UInt8) (ht : t.length ≤ 1000) (g0 : (S.get hh 0).1 = t.length) (gw : (List.range (many t.length)).map (fun k => (S.get hh k).1) = wordsOf t) (n : Nat) (hn : rankM S root t = some n) (v : List UInt8) (hg : ∀ W Z, CuAt limit w ps pm px pc S root Z hh 1 W → Calls Tryz.prog 31 #[PV pm, SV t] W fun e w' => e = .returned (.tuple #[SV v, .int .i64 0]) ∧ Below W.heap.size W w') {S' : St} {is' : Nat} (p : List UInt8 × List UInt8) (er : Nat) (hp : ∀ W Z, CuAt limit w ps pm px pc S root Z hh 1 W → Calls Tryz.prog 88 #[PV pc, .int .i64 ((n + 1 : Nat)), .int .i64 (2 : Nat)] W fun e w' => e = .returned (.tuple #[prV p, .int .i64 er]) ∧ CuAt limit w ps pm px pc S' root Z hh is' w' ∧ Keep (fun k => Z k ∧ k ≠ pc) W w') :
    Calls Tryz.prog 50 #[PV pc] wr fun e w' => e = .returned (.tuple #[prV p, .int .i64 er]) ∧ CuAt limit w ps pm px pc S' root Y hh is' w' ∧ Keep (fun k => Y k ∧ k ≠ pc) wr w' := by
  obtain ⟨p1, p2⟩ := p
  simp only [prV] at hp ⊢
  have A0 := (Below.refl wr.heap.size wr).alloc (Nat.le_refl _) (.cells #[.string ⟨#[]⟩, .string ⟨#[]⟩] 38)
  have q0 := heap_alloc_new wr (.cells #[.string ⟨#[]⟩, .string ⟨#[]⟩] 38)
  obtain ⟨Z, z1, z2, h1⟩ := h.grow A0
  have zb : Z wr.heap.size := z2 _ (Nat.le_refl _) (by simp)
  have hke := cur_key h1.md.st h1.md.inv h1.c hl t ht g0 gw
  have hra := fun W (hW : CuAt limit w ps pm px pc S root Z hh 1 W) => map_rank hW.md.st h.md.inv hW.md.m hW.md.t hr t hn
  have hnl := rankM_lt hn
  have HK := Lib.hid (And.intro hke (And.intro hra hg))
  clear hke hra hg g0 gw hn ht hl hr
  have HG := Lib.hid (And.intro (cur_asked h1.c h0) (And.intro hp (And.intro h1 (And.intro q0 (And.intro h (And.intro z1 (And.intro zb A0)))))))
  have hC := h1.c
  unfold CurOn at hC
  have c0 : ((wr.alloc (.cells #[.string ⟨#[]⟩, .string ⟨#[]⟩] 38))).cell? ⟨pc, 0, none⟩ = some (PV pm) := by rw [cell_of_block hC]; rfl
  have c1 : ((wr.alloc (.cells #[.string ⟨#[]⟩, .string ⟨#[]⟩] 38))).cell? ⟨pc, 1, none⟩ = some (PV ps) := by rw [cell_of_block hC]; rfl
  have c2 : ((wr.alloc (.cells #[.string ⟨#[]⟩, .string ⟨#[]⟩] 38))).cell? ⟨pc, 2, none⟩ = some (.int .u64 hh) := by rw [cell_of_block hC]; rfl
  have c3 : ((wr.alloc (.cells #[.string ⟨#[]⟩, .string ⟨#[]⟩] 38))).cell? ⟨pc, 3, none⟩ = some (.int .i64 1) := by rw [cell_of_block hC]; rfl
  clear h1 h q0 A0 hC hp z1 z2 zb
  go_enter Tryz.func50, Tryz.ntmps50
  go_wp2_with fail
  refine HG.out.1.mono ?_
  rintro e w0 ⟨rfl, rfl⟩
  go_wp2_with fail
  refine HK.out.1.mono ?_
  rintro e w1 ⟨rfl, hb1⟩
  have h2 := HG.out.2.2.1.below hb1
  have hC := h2.c
  unfold CurOn at hC
  have d0 : (w1).cell? ⟨pc, 0, none⟩ = some (PV pm) := by rw [cell_of_block hC]; rfl
  have d1 : (w1).cell? ⟨pc, 1, none⟩ = some (PV ps) := by rw [cell_of_block hC]; rfl
  have d2 : (w1).cell? ⟨pc, 2, none⟩ = some (.int .u64 hh) := by rw [cell_of_block hC]; rfl
  have d3 : (w1).cell? ⟨pc, 3, none⟩ = some (.int .i64 1) := by rw [cell_of_block hC]; rfl
  have H2 := Lib.hid (And.intro hb1 h2)
  clear hb1 h2 hC
  go_wp2_with fail
  refine (HK.out.2.1 _ H2.out.2).mono ?_
  rintro e w2 ⟨rfl, hb2⟩
  have h3 := H2.out.2.below hb2
  have hC := h3.c
  unfold CurOn at hC
  have g0 : (w2).cell? ⟨pc, 0, none⟩ = some (PV pm) := by rw [cell_of_block hC]; rfl
  have g1 : (w2).cell? ⟨pc, 1, none⟩ = some (PV ps) := by rw [cell_of_block hC]; rfl
  have g2 : (w2).cell? ⟨pc, 2, none⟩ = some (.int .u64 hh) := by rw [cell_of_block hC]; rfl
  have g3 : (w2).cell? ⟨pc, 3, none⟩ = some (.int .i64 1) := by rw [cell_of_block hC]; rfl
  have H3 := Lib.hid (And.intro (H2.out.1.trans (hb2.mono H2.out.1.size)) h3)
  clear hb2 h3 hC
  go_wp2_with fail
  refine (HK.out.2.2 _ _ H3.out.2).mono ?_
  rintro e w3 ⟨rfl, hb3⟩
  have h4 := H3.out.2.below hb3
  have hb4 := H3.out.1.trans (hb3.mono H3.out.1.size)
  have q1 := (hb4.block wr.heap.size (by simp)).trans HG.out.2.2.2.1
  have kA : Keep (fun k => Y k ∧ k ≠ pc) wr w3 := Keep.of_below (HG.out.2.2.2.2.2.2.2.trans (hb4.mono (by simp))) fun k hk => HG.out.2.2.2.2.1.md.st.yl k hk.1
  have H1 := Lib.hid (And.intro q1 (And.intro h4 kA))
  clear q1 h4 kA hb4 hb3
  go_wp2_with fail
  refine (HG.out.2.1 _ _ H1.out.2.1).mono ?_
  rintro e w5 ⟨rfl, h5, k5⟩
  have np := HG.out.2.2.2.2.1.lt
  have q5 := (k5.block wr.heap.size ⟨HG.out.2.2.2.2.2.2.1, by omega⟩).trans H1.out.1
  have x0 : (w5).cell? ⟨wr.heap.size, 0, none⟩ = some (.string ⟨#[]⟩) := by rw [cell_of_block q5]; rfl
  have x1 : (w5).cell? ⟨wr.heap.size, 1, none⟩ = some (.string ⟨#[]⟩) := by rw [cell_of_block q5]; rfl
  have f0 : (w5).frozen? ⟨wr.heap.size, 0, none⟩ = false := frozen_of_block q5
  have f1 : (w5).frozen? ⟨wr.heap.size, 1, none⟩ = false := frozen_of_block q5
  have q6 := st2_heap q5 (SV p1) (SV p2)
  have h6 := HG.out.2.2.2.2.1.back h5 HG.out.2.2.2.2.2.1 HG.out.2.2.2.2.2.2.1 q5 ⟨by decide, by decide⟩ (by simp) (H1.out.2.2.trans (k5.mono fun k hk => ⟨HG.out.2.2.2.2.2.1 k hk.1, hk.2⟩)) (SV p1) (SV p2)
  have HB := Lib.hid (And.intro q6 h6)
  clear h5 k5 q5 q6 h6 np
  go_wp2_with fail
  obtain ⟨q6, h6⟩ := HB.out
  generalize ((w5.setCell ⟨wr.heap.size, 0, none⟩ (SV p1)).setCell ⟨wr.heap.size, 1, none⟩ (SV p2)) = w6 at *
  have k0 : (w6).cell? ⟨wr.heap.size, 0, none⟩ = some (SV p1) := by rw [cell_of_block q6]; rfl
  have k1 : (w6).cell? ⟨wr.heap.size, 1, none⟩ = some (SV p2) := by rw [cell_of_block q6]; rfl
  exact bodyPost_ret (v := .tuple #[.agg #[SV p1, SV p2], .int .i64 er]) (by simp [results, Tryz.f50, go_sem, k0, k1]) rfl ⟨rfl, h6⟩

set_option maxRecDepth 100000 in
set_option maxHeartbeats 3200000 in
theorem cu_next_none {limit : Nat} {w wr : World} {ps pm px pc root hh : Nat} {S : St} {Y : Nat → Prop} (h : CuAt limit w ps pm px pc S root Y hh 1 wr) (h0 : hh ≠ 0) (hl : hh < 18446744073709551616) (hr : root < 18446744073709551616) (t : List UInt8) (ht : t.length ≤ 1000) (g0 : (S.get hh 0).1 = t.length) (gw : (List.range (many t.length)).map (fun k => (S.get hh k).1) = wordsOf t) (n : Nat) (hn : rankM S root t = some n) (v : List UInt8) (hg : ∀ W Z, CuAt limit w ps pm px pc S root Z hh 1 W → Calls Tryz.prog 31 #[PV pm, SV t] W fun e w' => e = .returned (.tuple #[SV v, .int .i64 5]) ∧ Below W.heap.size W w') {S' : St} {is' : Nat} (p : List UInt8 × List UInt8) (er : Nat) (hp : ∀ W Z, CuAt limit w ps pm px pc S root Z hh 1 W → Calls Tryz.prog 88 #[PV pc, .int .i64 (n : Nat), .int .i64 (2 : Nat)] W fun e w' => e = .returned (.tuple #[prV p, .int .i64 er]) ∧ CuAt limit w ps pm px pc S' root Z hh is' w' ∧ Keep (fun k => Z k ∧ k ≠ pc) W w') :
    Calls Tryz.prog 50 #[PV pc] wr fun e w' => e = .returned (.tuple #[prV p, .int .i64 er]) ∧ CuAt limit w ps pm px pc S' root Y hh is' w' ∧ Keep (fun k => Y k ∧ k ≠ pc) wr w' := by
  obtain ⟨p1, p2⟩ := p
  simp only [prV] at hp ⊢
  have A0 := (Below.refl wr.heap.size wr).alloc (Nat.le_refl _) (.cells #[.string ⟨#[]⟩, .string ⟨#[]⟩] 38)
  have q0 := heap_alloc_new wr (.cells #[.string ⟨#[]⟩, .string ⟨#[]⟩] 38)
  obtain ⟨Z, z1, z2, h1⟩ := h.grow A0
  have zb : Z wr.heap.size := z2 _ (Nat.le_refl _) (by simp)
  have hke := cur_key h1.md.st h1.md.inv h1.c hl t ht g0 gw
  have hra := fun W (hW : CuAt limit w ps pm px pc S root Z hh 1 W) => map_rank hW.md.st h.md.inv hW.md.m hW.md.t hr t hn
  have hnl := rankM_lt hn
  have HK := Lib.hid (And.intro hke (And.intro hra hg))
  clear hke hra hg g0 gw hn ht hl hr
  have HG := Lib.hid (And.intro (cur_asked h1.c h0) (And.intro hp (And.intro h1 (And.intro q0 (And.intro h (And.intro z1 (And.intro zb A0)))))))
  have hC := h1.c
  unfold CurOn at hC
  have c0 : ((wr.alloc (.cells #[.string ⟨#[]⟩, .string ⟨#[]⟩] 38))).cell? ⟨pc, 0, none⟩ = some (PV pm) := by rw [cell_of_block hC]; rfl
  have c1 : ((wr.alloc (.cells #[.string ⟨#[]⟩, .string ⟨#[]⟩] 38))).cell? ⟨pc, 1, none⟩ = some (PV ps) := by rw [cell_of_block hC]; rfl
  have c2 : ((wr.alloc (.cells #[.string ⟨#[]⟩, .string ⟨#[]⟩] 38))).cell? ⟨pc, 2, none⟩ = some (.int .u64 hh) := by rw [cell_of_block hC]; rfl
  have c3 : ((wr.alloc (.cells #[.string ⟨#[]⟩, .string ⟨#[]⟩] 38))).cell? ⟨pc, 3, none⟩ = some (.int .i64 1) := by rw [cell_of_block hC]; rfl
  clear h1 h q0 A0 hC hp z1 z2 zb
  go_enter Tryz.func50, Tryz.ntmps50
  go_wp2_with fail
  refine HG.out.1.mono ?_
  rintro e w0 ⟨rfl, rfl⟩
  go_wp2_with fail
  refine HK.out.1.mono ?_
  rintro e w1 ⟨rfl, hb1⟩
  have h2 := HG.out.2.2.1.below hb1
  have hC := h2.c
  unfold CurOn at hC
  have d0 : (w1).cell? ⟨pc, 0, none⟩ = some (PV pm) := by rw [cell_of_block hC]; rfl
  have d1 : (w1).cell? ⟨pc, 1, none⟩ = some (PV ps) := by rw [cell_of_block hC]; rfl
  have d2 : (w1).cell? ⟨pc, 2, none⟩ = some (.int .u64 hh) := by rw [cell_of_block hC]; rfl
  have d3 : (w1).cell? ⟨pc, 3, none⟩ = some (.int .i64 1) := by rw [cell_of_block hC]; rfl
  have H2 := Lib.hid (And.intro hb1 h2)
  clear hb1 h2 hC
  go_wp2_with fail
  refine (HK.out.2.1 _ H2.out.2).mono ?_
  rintro e w2 ⟨rfl, hb2⟩
  have h3 := H2.out.2.below hb2
  have hC := h3.c
  unfold CurOn at hC
  have g0 : (w2).cell? ⟨pc, 0, none⟩ = some (PV pm) := by rw [cell_of_block hC]; rfl
  have g1 : (w2).cell? ⟨pc, 1, none⟩ = some (PV ps) := by rw [cell_of_block hC]; rfl
  have g2 : (w2).cell? ⟨pc, 2, none⟩ = some (.int .u64 hh) := by rw [cell_of_block hC]; rfl
  have g3 : (w2).cell? ⟨pc, 3, none⟩ = some (.int .i64 1) := by rw [cell_of_block hC]; rfl
  have H3 := Lib.hid (And.intro (H2.out.1.trans (hb2.mono H2.out.1.size)) h3)
  clear hb2 h3 hC
  go_wp2_with fail
  refine (HK.out.2.2 _ _ H3.out.2).mono ?_
  rintro e w3 ⟨rfl, hb3⟩
  have h4 := H3.out.2.below hb3
  have hb4 := H3.out.1.trans (hb3.mono H3.out.1.size)
  have q1 := (hb4.block wr.heap.size (by simp)).trans HG.out.2.2.2.1
  have kA : Keep (fun k => Y k ∧ k ≠ pc) wr w3 := Keep.of_below (HG.out.2.2.2.2.2.2.2.trans (hb4.mono (by simp))) fun k hk => HG.out.2.2.2.2.1.md.st.yl k hk.1
  have H1 := Lib.hid (And.intro q1 (And.intro h4 kA))
  clear q1 h4 kA hb4 hb3
  go_wp2_with fail
  refine (HG.out.2.1 _ _ H1.out.2.1).mono ?_
  rintro e w5 ⟨rfl, h5, k5⟩
  have np := HG.out.2.2.2.2.1.lt
  have q5 := (k5.block wr.heap.size ⟨HG.out.2.2.2.2.2.2.1, by omega⟩).trans H1.out.1
  have x0 : (w5).cell? ⟨wr.heap.size, 0, none⟩ = some (.string ⟨#[]⟩) := by rw [cell_of_block q5]; rfl
  have x1 : (w5).cell? ⟨wr.heap.size, 1, none⟩ = some (.string ⟨#[]⟩) := by rw [cell_of_block q5]; rfl
  have f0 : (w5).frozen? ⟨wr.heap.size, 0, none⟩ = false := frozen_of_block q5
  have f1 : (w5).frozen? ⟨wr.heap.size, 1, none⟩ = false := frozen_of_block q5
  have q6 := st2_heap q5 (SV p1) (SV p2)
  have h6 := HG.out.2.2.2.2.1.back h5 HG.out.2.2.2.2.2.1 HG.out.2.2.2.2.2.2.1 q5 ⟨by decide, by decide⟩ (by simp) (H1.out.2.2.trans (k5.mono fun k hk => ⟨HG.out.2.2.2.2.2.1 k hk.1, hk.2⟩)) (SV p1) (SV p2)
  have HB := Lib.hid (And.intro q6 h6)
  clear h5 k5 q5 q6 h6 np
  go_wp2_with fail
  obtain ⟨q6, h6⟩ := HB.out
  generalize ((w5.setCell ⟨wr.heap.size, 0, none⟩ (SV p1)).setCell ⟨wr.heap.size, 1, none⟩ (SV p2)) = w6 at *
  have k0 : (w6).cell? ⟨wr.heap.size, 0, none⟩ = some (SV p1) := by rw [cell_of_block q6]; rfl
  have k1 : (w6).cell? ⟨wr.heap.size, 1, none⟩ = some (SV p2) := by rw [cell_of_block q6]; rfl
  exact bodyPost_ret (v := .tuple #[.agg #[SV p1, SV p2], .int .i64 er]) (by simp [results, Tryz.f50, go_sem, k0, k1]) rfl ⟨rfl, h6⟩

end Go.Proofs.YtepdkbmnkjfcpaaGreatDoor

namespace Go.Proofs.YtepdkbmnkjfcpaaGreatDoor
open Go.RowKit Go.BigFrame Go.Maps Go.WideMaps Lf

set_option maxRecDepth 100000 in
set_option maxHeartbeats 3200000 in
theorem cu_prev_behind {limit : Nat} {w wr : World} {ps pm px pc root hh : Nat} {S : St} {Y : Nat → Prop} (h : CuAt limit w ps pm px pc S root Y hh 2 wr) (h0 : hh ≠ 0) (hr : root < 18446744073709551616) (z : Nat) (hn : sizeM S root = some z) {S' : St} {is' : Nat} (p : List UInt8 × List UInt8) (er : Nat) (hp : ∀ W Z, CuAt limit w ps pm px pc S root Z hh 2 W → Calls Tryz.prog 88 #[PV pc, .int .i64 ((z : Nat) - 1), .int .i64 (0 : Nat)] W fun e w' => e = .returned (.tuple #[prV p, .int .i64 er]) ∧ CuAt limit w ps pm px pc S' root Z hh is' w' ∧ Keep (fun k => Z k ∧ k ≠ pc) W w') :
    Calls Tryz.prog 51 #[PV pc] wr fun e w' => e = .returned (.tuple #[prV p, .int .i64 er]) ∧ CuAt limit w ps pm px pc S' root Y hh is' w' ∧ Keep (fun k => Y k ∧ k ≠ pc) wr w' := by
  obtain ⟨p1, p2⟩ := p
  simp only [prV] at hp ⊢
  have A0 := (Below.refl wr.heap.size wr).alloc (Nat.le_refl _) (.cells #[.string ⟨#[]⟩, .string ⟨#[]⟩] 38)
  have q0 := heap_alloc_new wr (.cells #[.string ⟨#[]⟩, .string ⟨#[]⟩] 38)
  obtain ⟨Z, z1, z2, h1⟩ := h.grow A0
  have zb : Z wr.heap.size := z2 _ (Nat.le_refl _) (by simp)
  have hle := map_len h1.md.st h1.md.inv h1.md.m h1.md.t hr hn
  have hnl : z < 4611686018427387904 := by have := num_some hn; omega
  have HK := Lib.hid hle
  clear hle hn hr
  have HG := Lib.hid (And.intro (cur_asked h1.c h0) (And.intro hp (And.intro h1 (And.intro q0 (And.intro h (And.intro z1 (And.intro zb A0)))))))
  have hC := h1.c
  unfold CurOn at hC
  have c0 : ((wr.alloc (.cells #[.string ⟨#[]⟩, .string ⟨#[]⟩] 38))).cell? ⟨pc, 0, none⟩ = some (PV pm) := by rw [cell_of_block hC]; rfl
  have c1 : ((wr.alloc (.cells #[.string ⟨#[]⟩, .string ⟨#[]⟩] 38))).cell? ⟨pc, 1, none⟩ = some (PV ps) := by rw [cell_of_block hC]; rfl
  have c2 : ((wr.alloc (.cells #[.string ⟨#[]⟩, .string ⟨#[]⟩] 38))).cell? ⟨pc, 2, none⟩ = some (.int .u64 hh) := by rw [cell_of_block hC]; rfl
  have c3 : ((wr.alloc (.cells #[.string ⟨#[]⟩, .string ⟨#[]⟩] 38))).cell? ⟨pc, 3, none⟩ = some (.int .i64 2) := by rw [cell_of_block hC]; rfl
  clear h1 h q0 A0 hC hp z1 z2 zb
  go_enter Tryz.func51, Tryz.ntmps51
  go_wp2_with fail
  refine HG.out.1.mono ?_
  rintro e w0 ⟨rfl, rfl⟩
  go_wp2_with fail
  refine HK.out.mono ?_
  rintro e w1 ⟨rfl, hb1⟩
  have h2 := HG.out.2.2.1.below hb1
  have q1 := (hb1.block wr.heap.size (by simp)).trans HG.out.2.2.2.1
  have kA : Keep (fun k => Y k ∧ k ≠ pc) wr w1 := Keep.of_below (HG.out.2.2.2.2.2.2.2.trans (hb1.mono (by simp))) fun k hk => HG.out.2.2.2.2.1.md.st.yl k hk.1
  have H1 := Lib.hid (And.intro q1 (And.intro h2 kA))
  clear q1 h2 kA hb1
  go_wp2_with fail
  refine (HG.out.2.1 _ _ H1.out.2.1).mono ?_
  rintro e w5 ⟨rfl, h5, k5⟩
  have np := HG.out.2.2.2.2.1.lt
  have q5 := (k5.block wr.heap.size ⟨HG.out.2.2.2.2.2.2.1, by omega⟩).trans H1.out.1
  have x0 : (w5).cell? ⟨wr.heap.size, 0, none⟩ = some (.string ⟨#[]⟩) := by rw [cell_of_block q5]; rfl
  have x1 : (w5).cell? ⟨wr.heap.size, 1, none⟩ = some (.string ⟨#[]⟩) := by rw [cell_of_block q5]; rfl
  have f0 : (w5).frozen? ⟨wr.heap.size, 0, none⟩ = false := frozen_of_block q5
  have f1 : (w5).frozen? ⟨wr.heap.size, 1, none⟩ = false := frozen_of_block q5
  have q6 := st2_heap q5 (SV p1) (SV p2)
  have h6 := HG.out.2.2.2.2.1.back h5 HG.out.2.2.2.2.2.1 HG.out.2.2.2.2.2.2.1 q5 ⟨by decide, by decide⟩ (by simp) (H1.out.2.2.trans (k5.mono fun k hk => ⟨HG.out.2.2.2.2.2.1 k hk.1, hk.2⟩)) (SV p1) (SV p2)
  have HB := Lib.hid (And.intro q6 h6)
  clear h5 k5 q5 q6 h6 np
  go_wp2_with fail
  obtain ⟨q6, h6⟩ := HB.out
  generalize ((w5.setCell ⟨wr.heap.size, 0, none⟩ (SV p1)).setCell ⟨wr.heap.size, 1, none⟩ (SV p2)) = w6 at *
  have k0 : (w6).cell? ⟨wr.heap.size, 0, none⟩ = some (SV p1) := by rw [cell_of_block q6]; rfl
  have k1 : (w6).cell? ⟨wr.heap.size, 1, none⟩ = some (SV p2) := by rw [cell_of_block q6]; rfl
  exact bodyPost_ret (v := .tuple #[.agg #[SV p1, SV p2], .int .i64 er]) (by simp [results, Tryz.f51, go_sem, k0, k1]) rfl ⟨rfl, h6⟩

set_option maxRecDepth 100000 in
set_option maxHeartbeats 3200000 in
theorem cursor_open {limit : Nat} {w wr : World} {ps pm px root : Nat} {S : St} {Y : Nat → Prop} (h : MdK 1 limit w ps pm px S root Y wr) (hlim : limit ≤ 1000) (ho : MkOk S (many limit)) {hh : Nat} {S1 : St} (hm : S.make (many limit) = ((hh, 0), S1)) :
    Calls Tryz.prog 59 #[PV pm] wr fun e w' => ∃ pc Z, e = .returned (.tuple #[PV pc, .int .i64 0]) ∧ (∀ k, Y k → Z k) ∧ wr.heap.size ≤ pc ∧ CuAt limit w ps pm px pc S1 root Z hh 0 w' ∧ Keep Y wr w' := by
  have hst := map_store h.m
  have hli := map_limit h.m
  have hma := text_many limit wr (by omega)
  have hmk := st_make h.st (many limit) (by unfold many; split <;> omega) ho.1
  have hi1 := ho.2
  rw [hm] at hmk hi1
  simp only at hmk hi1
  have HG := Lib.hid (And.intro hst (And.intro hli (And.intro hma (And.intro hmk (And.intro h hi1)))))
  clear hst hli hma hmk h hi1 ho hm hlim
  go_enter Tryz.func59, Tryz.ntmps59
  go_wp2_with fail
  refine HG.out.1.mono ?_
  rintro e w1 ⟨rfl, rfl⟩
  go_wp2_with fail
  refine HG.out.2.1.mono ?_
  rintro e w1 ⟨rfl, rfl⟩
  go_wp2_with fail
  refine HG.out.2.2.1.mono ?_
  rintro e w1 ⟨rfl, rfl⟩
  go_wp2_with fail
  refine HG.out.2.2.2.1.mono ?_
  rintro e w2 ⟨rfl, h2, k2⟩
  have H := HG.out.2.2.2.2.1
  have m2 : MdK 1 limit w ps pm px S1 root Y w2 := ⟨h2, HG.out.2.2.2.2.2, (k2.block pm H.ym).trans H.m, (k2.block px H.yx).trans H.t, ⟨k2.os.trans H.bl.os, k2.tape.trans H.bl.tape, k2.output.trans H.bl.output, Nat.le_trans H.bl.size k2.size, fun k hk => (k2.block k (H.y k hk)).trans (H.bl.block k hk)⟩, H.y, H.yx, H.ym, H.nx, H.ne⟩
  have A2 := (Below.refl w2.heap.size w2).alloc (Nat.le_refl _) (.cells #[PV pm, PV ps, .int .u64 hh, .int .i64 0] 82)
  have q2 := heap_alloc_new w2 (.cells #[PV pm, PV ps, .int .u64 hh, .int .i64 0] 82)
  have H2 := Lib.hid (And.intro m2 (And.intro A2 (And.intro q2 k2)))
  clear h2 k2 m2 A2 q2 H
  go_wp2_with fail
  go_ret2
  obtain ⟨m2, A2, q2, k2⟩ := H2.out
  refine ⟨w2.heap.size, fun k => Y k ∨ (w2.heap.size ≤ k ∧ k < (w2.alloc (.cells #[PV pm, PV ps, .int .u64 hh, .int .i64 0] 82)).heap.size), rfl, fun k hk => Or.inl hk, k2.size, ⟨⟨m2.st.wide A2, m2.inv, m2.m.below A2, m2.t.below A2, m2.bl.trans (A2.mono m2.bl.size), fun k hk => Or.inl (m2.y k hk), Or.inl m2.yx, Or.inl m2.ym, m2.nx, m2.ne⟩, q2, Or.inr ⟨Nat.le_refl _, by simp⟩, Nat.ne_of_gt (Array.getElem?_eq_some_iff.1 m2.m).1, Nat.ne_of_gt (Array.getElem?_eq_some_iff.1 m2.t).1, m2.bl.size⟩, k2.trans (Keep.of_below A2 fun k hk => m2.st.yl k hk)⟩
end Go.Proofs.YtepdkbmnkjfcpaaGreatDoor
