/- A region that draws its order and whose calls may make memory: one walk in the text's order, at a class of worlds that keep an invariant. -/
import Derived.BigQuiet
import Derived.Below
import Derived.WalkKit
namespace Go.Proofs.Ytccdipcneabooaa
open Go.RowKit

/-- a world that keeps I -/
structure Keeps (I : World → Prop) where
  to : World
  ok : I to

theorem wp_region_keeps {P : Program} {id : Nat} {Q : Exit → Act → World → Prop} {a : Act} {w : World} {l : List Oper} (I : World → Prop) (hm : P.follows .mixedOrders = true) (hB : Region.lexB .any l.toArray = true)
    (hI : I w.drew)
    (h : Nonempty (Keeps I) → wpQuiet P l.toArray (fun w' => ∃ x : Keeps I, w' = x.to) (fun a' => ∀ w', (∃ x : Keeps I, w' = x.to) → Q .normal a' w') l a) : (Code.region id l.toArray true).wp P Q a w :=
  wp_region_quiet (C := fun w' => ∃ x : Keeps I, w' = x.to) hm hB ⟨⟨_, hI⟩, rfl⟩ (by simpa using h ⟨⟨_, hI⟩⟩)

/-- a callee that makes memory alone, met in a world of the class 'below B as w was' -/
theorem Calls.keeps_below {P : Program} {f : FuncId} {args : Array Value} {w : World} {v : Value} {x : Keeps (Below w.heap.size w)}
    (h : Calls P f args x.to fun e w' => e = .returned v ∧ Below x.to.heap.size x.to w') : Calls P f args x.to fun e w'' => e = .returned v ∧ ∃ y : Keeps (Below w.heap.size w), w'' = y.to :=
  h.mono fun _ _ ⟨he, hb⟩ => ⟨he, ⟨_, x.ok.trans (hb.mono x.ok.size)⟩, rfl⟩
theorem Calls.keeps_same {P : Program} {f : FuncId} {args : Array Value} {I : World → Prop} {v : Value} {x : Keeps I}
    (h : Calls P f args x.to fun e w' => e = .returned v ∧ x.to = w') : Calls P f args x.to fun e w'' => e = .returned v ∧ ∃ y : Keeps I, w'' = y.to :=
  h.mono fun _ _ ⟨he, hb⟩ => ⟨he, x, hb.symm⟩
end Go.Proofs.Ytccdipcneabooaa
