/- Ranges of maps of any kind: places, along, its iterator's contract: the walks. -/
import Derived.Test.YtpljannolpapgaaGreatDoorVDg
set_option maxRecDepth 100000
namespace Go.Proofs.YtpljannolpapgaaGreatDoor
open Go.RowKit Tryz Go.BigFrame Go.Maps Go.WideMaps Lf Tr
open Go.Shelf
attribute [local go_sem] Oper.semAt_some
abbrev Pr:=List UInt8×List UInt8
structure FL (n bo:Nat) (W W':World):Prop where
 size:W.heap.size<=W'.heap.size
 block:∀k,k<n->k≠bo->W'.heap[k]?=W.heap[k]?
theorem fi.kp {P:List (List UInt8×List UInt8)->Prop}{K:jo}(ok:gB K P){w W W':World}{ps pm px limit root:Nat}{S:St}{Y:Nat->Prop}{L:List (List UInt8×List UInt8)}(h:fi K w W ps pm px limit root S Y L){bo:Nat}{v:Value}{fr:Nat×Nat}(hy:Y bo)(hb:W.heap[bo]?=some (.cells #[v] 22 fr))(nm:pm≠bo)(nx:px≠bo)(hk:FL W.heap.size bo W W'):fi K { W' with heap:=#[] } W' ps pm px limit root S Y L:=
 ⟨h.st.write hy hb ⟨by decide,by decide⟩ (by simp) hk.size hk.block,h.hold,ok.onAt h.on (hk.block px (ok.onLt h.on) nx),(hk.block pm (gl h.map) nm).trans h.map,⟨rfl,rfl,rfl,bY _,fun k hk=>absurd hk (by simp)⟩,fun k hk=>absurd hk (by simp),h.yx,h.ym,bY _,bY _,h.ne⟩
